/-
  The document's answer of layer 9: Structs, Types, step, Walk.
  The document's answer of layer 9: step, Walk.
  The document's answer of layer 10: small parts.
  The document's answer of layer 10: rest.
  The document's answer of layer 10: walk, to, operand, args of an asker.
  The document's answer of layer 10: operand, args of an asker.
  Joined conditions with calls in them; facts of an asker.
  The document's answer of layer 10: a point.
  The document's answer of layer 10: what a type implies; the head of a graph.
  The document's answer of layer 10: the head of a graph.
  The document's answer of layer 10: Check, May, Is.
  loanwordlaw10.GraphTexts: whatever the program, the function, the point: the law returns true.
  Contracts of the library, laid at this program (by the kit's own tools).
  slices.Sort, slices.Compact, slices.Clip of a row of numbers that the walk has made itself.
  Shallow readings of functions. Made by a program (wip/gen/gen.py) out of the translation; the kernel checks each equality.
  Contracts: slices of numbers and of marks: Contains, Clone, Equal, Repeat, Reverse.
  Plain: who lies above whom (without it there is no way): found by going round until nothing changes.
-/
import Derived.Test.YtmkfelgocedohaaGreatQOd
import Derived.Test.YtmkfelgocedohaaGreatQOc
import Derived.Shelf.Sort.Plain
import Derived.Shelf.Bits.Mul64
import Derived.Shelf.Slices.Reverse
import Derived.Shelf.Slices.Clone
import Derived.Shelf.Slices.CompactI
import Derived.Shelf.Slices.In.SortNone
import Derived.Test.YtmkfelgocedohaaGreatProg
import Derived.KernelRfl
import Derived.Test.YtmkfelgocedohaaGreatQOb
import Derived.Test.YtmkfelgocedohaaGreatQOa
section
namespace Go.Proofs
open Go.Sh
set_option maxRecDepth 100000
set_option linter.unusedSimpArgs false
set_option linter.unusedVariables false
set_option maxHeartbeats 1000000 in
theorem Xj {ss : List StD} {p : Option Addr} {cap : Nat} {w : World} {r : Gh} {K : Value→World→Prop} (hr : Holds r w) (hs : StG r p ss)
  (h : ∀ w',Ext w w'→K (.bool (decide ((zw ss).2=0))) w') : zd Tryz.prog Tryz.qd #[.slice p ss.length cap] w K:=by
 refine Tryz.aac ?_
 unfold Tryz.Xh
 have S:=St.start hr
 refine gg_ ?_
 refine c_b (fun hbig=>?_) (fun hsm=>?_)
 ·have hbig : 32<ss.length:=by have:=of_decide_eq_true hbig;omega
  rw [zw,if_pos hbig] at h
  exact h _ S.ext
 have hsm : ¬ 32<ss.length:=by have:=of_decide_eq_false hsm;omega
 rw [zw,if_neg hsm] at h
 refine zh (ι:=Nat) (fun i=>[.int .i64 (i : Nat)]) (fun i w'=>i≤ss.length∧(∀ j,j<i→xd ss j=false)∧StX noX w r w' []) (fun i=>ss.length - i) 0 rfl ⟨Nat.zero_le _,fun j hj=>by omega,S⟩ ?_
 clear S
 rintro i d w1 ⟨hi,hb,S⟩ K1 hK1
 rw [List.getD_cons_zero]
 refine gg_ ?_
 refine c_b (fun hlt=>?_) (fun hge=>?_)
 ·have hlt : i<ss.length:=by simpa using hlt
  have hbadd : xd ss i=true→∀ w',Ext w w'→K (.bool false) w':=fun hbd w' e=>by
   have hf:=qB hlt hbd hb
   have:=h w' e
   rw [hf,if_pos hlt] at this
   exact this
  obtain ⟨b,off,q,capq,rfl,hcell,hq0,hqc,hf⟩:=xL hs hlt
  have hlen:=Zu hlt
  have htl:=yE hlt
  refine gg_ ?_
  refine zi (by rw [Int.toNat_natCast];exact S.at hcell) ?_
  refine gg_ ?_
  refine zk (c:=decide (8<(ze ss i).length)) (fun _ K2 hK2=>?_) ?_
  ·refine gg_ ?_
   refine zi (by rw [Int.toNat_natCast];exact S.at hcell) ?_
   refine gg_ ?_
   rw [show decide ((8 : Int)<(ss[i].fs.length : Int))=decide (8<(ze ss i).length) from decide_eq_decide.2 (by omega)]
   exact hK2
  rw [show decide ((ss[i].fs.length : Int)<1)=decide ((ze ss i).length<1) from decide_eq_decide.2 (by omega)]
  refine c_b (fun hl=>?_) (fun hl=>?_)
  ·refine hbadd ?_ _ S.ext
   rw [xd,hl];rfl
  have hl8 : (ze ss (i : Int)).length≤8:=by
   simp only [Bool.or_eq_false_iff,decide_eq_false_iff_not] at hl;omega
  refine zh (ι:=Nat) (fun k=>[.int .i64 (k : Nat)]) (fun k w'=>k≤(ze ss i).length∧(((ze ss i).take k).any fun t=>!zB ss.length 48 t||decide (0<t.regs.length))=false∧StX noX w r w' []) (fun k=>(ze ss i).length - k) 0 rfl ⟨Nat.zero_le _,by simp,S⟩ ?_
  clear S
  rintro k d w2 ⟨hk,hno,S⟩ K9 hK9
  rw [List.getD_cons_zero]
  refine gg_ ?_
  refine zi (by rw [Int.toNat_natCast];exact S.at hcell) ?_
  refine gg_ ?_
  refine c_b (fun hlt2=>?_) (fun hge2=>?_)
  ·have hlt2 : k<ss[i].fs.length:=by simpa using hlt2
   have hlt3 : k<(ze ss i).length:=by omega
   have hel : (ze ss i)[k]=ss[i].fs[k].2:=by simp only [htl,List.getElem_map]
   obtain ⟨b2,off2,c,rfl,hcl,hcc,hty⟩:=qe hf hlt2
   refine gg_ ?_
   refine zi (by rw [Int.toNat_natCast];exact S.at hcell) ?_
   refine gg_ ?_
   refine zt (n:=5) (c:=c) hcl (fun j v hj=>by
    have:=S.at (hcc (j+1) v (by simpa using hj))
    rw [Int.toNat_natCast,Nat.add_assoc _ 1 j,Nat.add_comm 1 j];exact this) ?_
   refine gg_ ?_
   refine vv 48 (by decide) S.holds hty fun w3 e3=>?_
   have S:=S.go e3
   refine gg_ ?_
   have hmt : mtB ss.length 48 false ss[i].fs[k].2 = !(!zB ss.length 48 ss[i].fs[k].2||decide (0<ss[i].fs[k].2.regs.length)):=by
    rw [mtB,Bool.false_or,Bool.not_or,Bool.not_not,← decide_not]
    congr 1
    exact decide_eq_decide.2 (by omega)
   rw [hmt,Bool.not_not]
   refine c_b (fun hy=>?_) (fun hn=>?_)
   ·refine hbadd ?_ _ S.ext
    have : ((ze ss i).any fun t=>!zB ss.length 48 t||decide (0<t.regs.length))=true:=List.any_eq_true.2 ⟨_,List.getElem_mem hlt3,by rw [hel];exact hy⟩
    rw [xd,this,Bool.or_true]
   ·refine gg_ ?_
    rw [show ((k : Int)+1)=((k+1 : Nat) : Int) by omega]
    refine hK9 (k+1) _ ⟨hlt3,?_,S⟩ (by omega)
    rw [List.take_succ_eq_append_getElem hlt3,List.any_append,hno,hel]
    simp only [List.any_cons,List.any_nil,Bool.false_or,Bool.or_false]
    exact hn
  ·have hie : k=(ze ss i).length:=by
    have : ¬ k<ss[i].fs.length:=by simpa using hge2
    omega
   rw [hie,List.take_length] at hno
   refine gg_ ?_
   rw [show ((i : Int)+1)=((i+1 : Nat) : Int) by omega]
   refine hK1 (i+1) _ ⟨hlt,fun j hj=>?_,S⟩ (by omega)
   by_cases hji : j=i
   ·rw [hji,xd,hl,hno];rfl
   ·exact hb j (by omega)
 have hie : i=ss.length:=by
  have : ¬ i<ss.length:=by simpa using hge
  omega
 rw [hie] at hb
 have h1 : ¬ xj ss.length (xd ss)<ss.length:=by rw [qA hb];omega
 rw [if_neg h1] at h
 have hgd:=XL hb
 refine zh (ι:=Nat) (fun i=>[.int .i64 (i : Nat)]) (fun i w'=>i≤ss.length∧(∀ j,j<i→kX ss j=false)∧StX noX w r w' []) (fun i=>ss.length - i) 0 rfl ⟨Nat.zero_le _,fun j hj=>by omega,S⟩ ?_
 clear S hie hge hi
 rintro i d w5 ⟨hi,hb2,S⟩ K1 hK1
 rw [List.getD_cons_zero]
 refine gg_ ?_
 refine c_b (fun hlt=>?_) (fun hge=>?_)
 ·have hlt : i<ss.length:=by simpa using hlt
  refine aba hgd (by omega) hlt (kq hb) S.holds hs fun w6 e6=>?_
  have S:=S.go e6
  refine c_b (fun hy=>?_) (fun hn=>?_)
  ·have hf:=qB hlt hy hb2
   rw [hf,if_pos hlt] at h
   exact h _ S.ext
  ·refine gg_ ?_
   rw [show ((i : Int)+1)=((i+1 : Nat) : Int) by omega]
   refine hK1 (i+1) _ ⟨hlt,fun j hj=>?_,S⟩ (by omega)
   by_cases hji : j=i
   ·rw [hji];exact hn
   ·exact hb2 j (by omega)
 have hie : i=ss.length:=by
  have : ¬ i<ss.length:=by simpa using hge
  omega
 rw [hie] at hb2
 have h2 : ¬ xj ss.length (kX ss)<ss.length:=by rw [qA hb2];omega
 rw [if_neg h2] at h
 have hac:=J0 hgd hb2
 refine zh (ι:=Nat) (fun i=>[.int .i64 (i : Nat)]) (fun i w'=>i≤ss.length∧(∀ j,j<i→vT ss j=false)∧StX noX w r w' []) (fun i=>ss.length - i) 0 rfl ⟨Nat.zero_le _,fun j hj=>by omega,S⟩ ?_
 clear S hie hge hi
 rintro i d w5 ⟨hi,hb3,S⟩ K1 hK1
 rw [List.getD_cons_zero]
 refine gg_ ?_
 refine c_b (fun hlt=>?_) (fun hge=>?_)
 ·have hlt : i<ss.length:=by simpa using hlt
  refine zC (cs:=#[.int .u8 5,.bool false,.int .i64 0,.int .i64 i,.slice none 0 0]) (by kernel_rfl) ?_
  refine adn hgd hac 40 (t:=.mk 5 false 0 i []) (by decide) (by have:=aaO ss (.mk 5 false 0 i []);omega) ?_ (by omega) (kq hb) S.holds hs (xn (r:=r)) fun x w9 e9 _ hx=>?_
  ·rw [xx]
   simp [TyD.k,TyD.m,TyD.re,TyD.of,TyD.st]
   omega
  have S:=S.go e9
  refine gg_ ?_
  rw [show decide ((x : Int) > 16)=decide (16<wF ss 40 (.mk 5 false 0 i [])) from decide_eq_decide.2 (by omega)]
  refine c_b (fun hy=>?_) (fun hn=>?_)
  ·have hf:=qB (p:=vT ss) hlt hy hb3
   rw [hf,if_pos hlt] at h
   exact h _ S.ext
  ·refine gg_ ?_
   rw [show ((i : Int)+1)=((i+1 : Nat) : Int) by omega]
   refine hK1 (i+1) _ ⟨hlt,fun j hj=>?_,S⟩ (by omega)
   by_cases hji : j=i
   ·rw [hji];exact hn
   ·exact hb3 j (by omega)
 have hie : i=ss.length:=by
  have : ¬ i<ss.length:=by simpa using hge
  omega
 rw [hie] at hb3
 have h3 : ¬ xj ss.length (vT ss)<ss.length:=by rw [qA hb3];omega
 rw [if_neg h3] at h
 exact h _ S.ext
theorem ado {ss : List StD} {tys : List TyD} {p q : Option Addr} {cap capt : Nat} {w : World} {r : Gh} {K : Value→World→Prop} (hr : Holds r w) (hs : StG r p ss) (ht : TysG r q tys) (htl : tys.length≤maxLen)
  (h : ∀ w',Ext w w'→K (.bool (decide ((zw ss).2=0)&&tys.all fun t=>zY ss t)) w') : zd Tryz.prog Tryz.ZI #[.slice p ss.length cap,.slice q tys.length capt] w K:=by
 refine Tryz.abU ?_
 unfold Tryz.Qt
 have S:=St.start hr
 have htl' : tys.length≤9223372036854775807:=htl
 refine Xj S.holds hs fun w1 e1=>?_
 have S:=S.go e1
 refine gp_ ?_
 by_cases hst : (zw ss).2=0
 ·rw [decide_eq_true hst] at h ⊢
  refine c_f rfl ?_
  refine zh (ι:=Nat) (fun i=>[.int .i64 (i : Nat)]) (fun i w'=>i≤tys.length∧((tys.take i).all fun t=>zY ss t)=true∧StX noX w r w' []) (fun i=>tys.length - i) 0 rfl ⟨Nat.zero_le _,by simp,S⟩ ?_
  clear S
  rintro i d w2 ⟨hi,hall,S⟩ K2 hK2
  rw [List.getD_cons_zero]
  refine gg_ ?_
  refine zj (fun hlt=>?_) (fun hge=>?_)
  ·have hlt : i<tys.length:=by omega
   obtain ⟨b,off,c,rfl,hc,hcell,hto⟩:=ht i hlt
   obtain ⟨q2,cap2,rfl,ht2⟩:=y6 hto
   refine gg_ ?_
   refine zt (n:=5) hc (fun j v hj=>by rw [Int.toNat_natCast];exact S.at (hcell j v hj)) ?_
   refine gg_ ?_
   refine vv 48 (by decide) S.holds ht2 fun w3 e3=>?_
   have S:=S.go e3
   rw [aey]
   refine gg_ ?_
   have hm : zY ss tys[i]=zB ss.length 48 tys[i]:=by rw [zY,decide_eq_true hst,Bool.true_and]
   refine c_b (fun hb=>?_) (fun hb=>?_)
   ·have hf : (tys.all fun t=>zY ss t)=false:=by
     rw [List.all_eq_false]
     exact ⟨tys[i],List.getElem_mem hlt,by rw [hm];simpa using hb⟩
    have:=h _ S.ext
    rw [hf,Bool.and_false] at this
    exact this
   ·refine gg_ ?_
    rw [show ((i : Int)+1)=((i+1 : Nat) : Int) by omega]
    refine hK2 (i+1) _ ⟨hlt,?_,S⟩ (by omega)
    rw [List.take_succ_eq_append_getElem hlt,List.all_append,hall]
    simp only [List.all_cons,List.all_nil,Bool.true_and,Bool.and_true]
    rw [hm];simpa using hb
  ·have hie : i=tys.length:=by omega
   rw [hie,List.take_length] at hall
   have:=h _ S.ext
   rw [hall,Bool.and_true] at this
   exact this
 ·rw [decide_eq_false hst] at h ⊢
  refine c_t rfl ?_
  exact h _ S.ext
end Go.Proofs
end
section
namespace Go.Proofs
open Go.Sh
set_option maxRecDepth 100000
set_option linter.unusedSimpArgs false
set_option linter.unusedVariables false
theorem Jn {ss : List StD} {t : TyD} {k : Int} {p q : Option Addr} {cap ct : Nat} {w : World} {r : Gh} {K : Value→World→Prop} (hft : Fine ss t) (hr : Holds r w) (hs : StG r p ss) (htt : TyG r (tyV t q ct) t)
  (h : ∀ t' q' c' (n : Int) (ok : Bool) w',Ext w w'→TyG r (tyV t' q' c') t'→(ok=true→yh ss t k=some (t',n))→(ok=false→yh ss t k=none)→K (.tuple #[tyV t' q' c',.int .i64 n,.bool ok]) w') :
  zd Tryz.prog Tryz.j5 #[.slice p ss.length cap,tyV t q ct,.int .i64 k] w K:=by
 refine Tryz.adh ?_
 unfold Tryz.Jg
 have S:=St.start hr
 refine S.box fun b4 w1 S=>?_
 have S : StX noX w r w1 [.cell b4 (tyL t q ct) 138]:=S
 refine S.al fun b6 w2 S=>?_
 have down : (t.k=3∨t.k=4)→∃ uu,t.of = [uu]:=by
  intro hk
  rcases hft.cases with ⟨_,h1⟩|⟨uu,h1,_⟩
  ·omega
  ·exact ⟨uu,h1⟩
 have hinn : ∀ {hw : Int},k = -1→((t.k=3∧hw=1)∨(t.k=4∧hw=if t.m then 2 else 3))→∀ {uu : TyD},t.of = [uu]→yh ss t k=some (uu,hw):=fun hk1 h34 uu hof=>by
  rcases h34 with ⟨h1,h2⟩|⟨h1,h2⟩
  ·rw [yh,if_pos ⟨hk1,h1⟩,hof,h2];rfl
  ·rw [yh,if_neg (by omega),if_pos ⟨hk1,h1⟩,hof,h2];rfl
 have stay : ∀ {w3 : World} {L : List Asr},yh ss t k=none→StX noX w r w3 (.cell b6 adM 138 :: .cell b4 (tyL t q ct) 138::L)→
   opQ Tryz.prog w3 (Instr.loadAt 138 (.pointer (some ⟨b4,0,none⟩))) fun v=>opU Tryz.prog w3 (Instr.storeAt 138 (.pointer (some ⟨b6,0,none⟩)) v) fun w4=>opQ Tryz.prog w4 (zD 138 (.pointer (some ⟨b6,0,none⟩))) fun v'=>K (.tuple #[v',.int .i64 0,.bool false]) w4:=by
  intro w3 L hn S
  refine S.ldB (b:=b4) ?_ rfl
  refine S.stB (b:=b6) fun w4 S=>?_
  refine S.ceB (b:=b6) ?_ rfl
  exact h _ _ _ 0 false _ S.ext htt (fun hh=>by cases hh) fun _=>hn
 refine gg_ ?_
 refine zj (fun hk1=>?_) (fun hk1=>?_)
 ·refine gg_ ?_
  refine zj (fun h3=>?_) (fun h3=>?_)
  ·obtain ⟨uu,hof⟩:=down (.inl h3)
   obtain ⟨bo,oo,q2,cap2,rfl,ht2,hcc⟩:=Zl htt hof
   have hl1 : t.of.length=1:=by rw [hof];rfl
   refine gg_ ?_
   refine zt (n:=5) (c:=tyL uu q2 cap2) rfl (fun j v hj=>by simpa using S.at (hcc j v hj)) ?_
   refine S.stB (b:=b6) fun w3 S=>?_
   refine S.ceB (b:=b6) ?_ rfl
   exact h _ _ _ 1 true _ S.ext ht2 (fun _=>hinn hk1 (.inl ⟨h3,rfl⟩) hof) fun hh=>by cases hh
  refine gg_ ?_
  refine zf (c:=t.m) (fun _ K2 hK2=>by refine gg_ ?_;exact hK2) ?_
  refine c_b (fun hM=>?_) (fun hM=>?_)
  ·have hM : t.k=4∧t.m=true:=by simpa using hM
   obtain ⟨uu,hof⟩:=down (.inr hM.1)
   obtain ⟨bo,oo,q2,cap2,rfl,ht2,hcc⟩:=Zl htt hof
   have hl1 : t.of.length=1:=by rw [hof];rfl
   refine gg_ ?_
   refine zt (n:=5) (c:=tyL uu q2 cap2) rfl (fun j v hj=>by simpa using S.at (hcc j v hj)) ?_
   refine S.stB (b:=b6) fun w3 S=>?_
   refine S.ceB (b:=b6) ?_ rfl
   exact h _ _ _ 2 true _ S.ext ht2 (fun _=>hinn hk1 (.inr ⟨hM.1,by rw [hM.2];rfl⟩) hof) fun hh=>by cases hh
  refine gg_ ?_
  refine zj (fun h4=>?_) (fun h4=>?_)
  ·have hm : t.m=false:=by
    cases e : t.m
    ·rfl
    ·rw [e,decide_eq_true h4] at hM;cases hM
   obtain ⟨uu,hof⟩:=down (.inr h4)
   obtain ⟨bo,oo,q2,cap2,rfl,ht2,hcc⟩:=Zl htt hof
   have hl1 : t.of.length=1:=by rw [hof];rfl
   refine gg_ ?_
   refine zt (n:=5) (c:=tyL uu q2 cap2) rfl (fun j v hj=>by simpa using S.at (hcc j v hj)) ?_
   refine S.stB (b:=b6) fun w3 S=>?_
   refine S.ceB (b:=b6) ?_ rfl
   exact h _ _ _ 3 true _ S.ext ht2 (fun _=>hinn hk1 (.inr ⟨h4,by rw [hm];rfl⟩) hof) fun hh=>by cases hh
  ·exact stay (by rw [yh,if_neg (by omega),if_neg (by omega),if_neg (by omega)]) S
 ·refine gg_ ?_
  refine zk (c:=decide (k<0)) (fun _ K2 hK2=>by refine gg_ ?_;exact hK2) ?_
  refine zk (c:=decide (((ze ss t.st).length : Int)≤k)) (fun h5 K2 hK2=>?_) ?_
  ·have h5 : t.k=5∧0≤k:=by simpa using h5
   obtain ⟨hst0,hst1⟩:=hft.st h5.1
   have hslt : t.st.toNat<ss.length:=by omega
   obtain ⟨b,off,q9,capq,rfl,hcell9,_,_,hfl⟩:=xL hs hslt
   have hlen : (ze ss t.st).length=ss[t.st.toNat].fs.length:=by
    rw [← Zu hslt];simp only [ze,Int.toNat_natCast]
   refine gg_ ?_
   refine zi (S.at hcell9) ?_
   refine gg_ ?_
   rw [← hlen]
   exact hK2
  refine c_b (fun hX=>?_) (fun hX=>?_)
  ·refine stay ?_ S
   rw [yh,if_neg (by omega),if_neg (by omega)]
   split
   ·rename_i h5
    have h50:=h5.1
    rw [List.getElem?_eq_none]
    ·rfl
    ·have : ((ze ss t.st).length : Int)≤k:=by
      simp only [Bool.or_eq_true,decide_eq_true_eq] at hX;omega
     omega
   ·rfl
  ·have hX : (t.k=5∧0≤k)∧k<(ze ss t.st).length:=by
    simp only [Bool.or_eq_false_iff,decide_eq_false_iff_not] at hX;omega
   obtain ⟨⟨hk5,hk0⟩,hkl⟩:=hX
   obtain ⟨hst0,hst1⟩:=hft.st hk5
   have hslt : t.st.toNat<ss.length:=by omega
   obtain ⟨b,off,q9,capq,rfl,hcell9,_,_,hfl⟩:=xL hs hslt
   have htl2 : ze ss t.st=ss[t.st.toNat].fs.map (·.2):=by
    rw [← yE hslt];simp only [ze,Int.toNat_natCast]
   have hkf : k.toNat<ss[t.st.toNat].fs.length:=by
    rw [htl2,List.length_map] at hkl;omega
   obtain ⟨b10,off9,c9,rfl,hc9,hcell8,ht9⟩:=qe hfl hkf
   obtain ⟨q2,cap2,rfl,ht2⟩:=y6 ht9
   refine gg_ ?_
   refine zi (S.at hcell9) ?_
   refine gg_ ?_
   refine zt (n:=5) (c:=tyL _ q2 cap2) rfl (fun j v hj=>by have:=S.at (hcell8 (j+1) v hj);rwa [show off9+k.toNat*6+(j+1)=off9+k.toNat*6+1+j by omega] at this) ?_
   refine S.stB (b:=b6) fun w3 S=>?_
   refine S.ceB (b:=b6) ?_ rfl
   refine h _ _ _ 0 true _ S.ext ht2 (fun _=>?_) fun hh=>by cases hh
   rw [yh,if_neg (by omega),if_neg (by omega),if_pos ⟨hk0,hk5⟩,htl2,List.getElem?_map,List.getElem?_eq_getElem hkf];rfl
set_option maxHeartbeats 2000000 in
theorem aez {ss : List StD} {tys : List TyD} {p : PlD} {c : List Value} {p0 q : Option Addr} {cap0 capt : Nat} {w : World} {r : Gh} {K : Value→World→Prop} (hr : Holds r w) (hs : StG r p0 ss) (ht : TysG r q tys) (htl : tys.length≤maxLen) (hp : PlG r c p)
  (hN : ∀ w',vk ss tys p=none→Ext w w'→K (.tuple #[aiO,.slice none 0 0,.bool false]) w')
  (hS : ∀ t g q cap vg s w',vk ss tys p=some (t,g)→Ext w w'→New w s w'→TyG r (tyV t q cap) t→SlG 1 s zu vg g→K (.tuple #[tyV t q cap,vg,.bool true]) w') :
  zd Tryz.prog Tryz.Ym #[.slice p0 ss.length cap0,.slice q tys.length capt,.agg c.toArray] w K:=by
 obtain ⟨v,rfl,hl⟩:=hp
 obtain ⟨qs,caps,rfl,_,_⟩:=hl.sl.shape
 have hbl:=hl.lt
 have htl' : tys.length≤9223372036854775807:=htl
 refine Tryz.adg ?_
 unfold Tryz.Jf
 have S:=St.start hr
 refine S.box fun b5 w1 S=>?_
 refine S.al fun b6 w3 S=>?_
 have S : StX noX w r w3 [.cell b6 adM 138,.cell b5 [.int .i64 p.l,.slice qs p.ps.length caps] 81]:=S
 refine gg_ ?_
 refine zk (c:=decide ((tys.length : Int)≤p.l)) (fun _ K2 hK2=>by refine gg_ ?_;exact hK2) ?_
 refine zk (c:=decide (8<p.ps.length)) (fun _ K2 hK2=>?_) ?_
 ·refine gg_ ?_
  rw [show decide ((8 : Int)<(p.ps.length : Int))=decide (8<p.ps.length) from decide_eq_decide.2 (by omega)]
  exact hK2
 refine xf (c:=!(decide ((zw ss).2=0)&&tys.all fun t=>zY ss t)) (fun _ K2 hK2=>?_) fun w4 e4=>?_
 ·refine ado S.holds hs ht htl fun w6 e6=>?_
  refine gp_ ?_
  exact hK2 _ e6
 have S:=S.go e4
 have hO : Zw ss tys p = !(((decide (p.l<0)||decide ((tys.length : Int)≤p.l))||decide (8<p.ps.length)) || !(decide ((zw ss).2=0)&&tys.all fun t=>zY ss t)):=by
  rw [Zw]
  simp only [Bool.not_or,Bool.not_not]
  congr 1
  rw [← decide_not,← decide_not,← decide_not]
  congr 1
  ·congr 1<;>exact decide_eq_decide.2 (by omega)
  ·exact decide_eq_decide.2 (by omega)
 refine c_b (fun hbad=>?_) (fun hgood=>?_)
 ·rw [hbad] at hO
  refine zC (cs:=#[.int .u8 0,.bool false,.int .i64 0,.int .i64 0,.slice none 0 0]) (by kernel_rfl) ?_
  refine S.stB (b:=b6) fun w4 S=>?_
  refine S.ceB (b:=b6) ?_ rfl
  exact hN _ (ahb hO) S.ext
 rw [hgood] at hO
 have hO : Zw ss tys p=true:=hO
 have hO2:=hO
 simp only [Zw,Bool.and_eq_true,decide_eq_true_eq,List.all_eq_true] at hO2
 obtain ⟨⟨⟨hl0,hl1⟩,hl8⟩,hst,hmay⟩:=hO2
 obtain ⟨h32,_,hg,_⟩:=kC hst
 have hlt0 : p.l.toNat<tys.length:=by omega
 have hW : vk ss tys p=zP ss p.ps tys[p.l.toNat]:=by
  rw [vk,if_pos hO,List.getD_eq_getElem?_getD,List.getElem?_eq_getElem hlt0];rfl
 rw [hW] at hN hS
 obtain ⟨bt,ot,ct,rfl,hct,hcell,htc⟩:=ht p.l.toNat hlt0
 have hfi : Fine ss tys[p.l.toNat]:=(YC (hmay _ (List.getElem_mem hlt0))).2
 generalize tys[p.l.toNat]=t0 at hN hS htc hfi
 obtain ⟨q0,cap1,rfl,ht0⟩:=y6 htc
 clear hgood hbl
 refine gg_ ?_
 refine zt (n:=5) hct (fun j v hj=>S.at (hcell j v hj)) ?_
 refine S.al fun b9 w7 S=>?_
 refine S.stB (b:=b9) fun w7 S=>?_
 have S:=S.ownNil 3 1
 refine zh (ι:=Nat × Value × TyD × Option Addr × Nat × List Int) (fun i=>[i.2.1,.int .i64 (i.1 : Nat)]) (fun i w'=>i.1≤p.ps.length∧zP ss (p.ps.take i.1) t0=some (i.2.2.1,i.2.2.2.2.2)∧TyG r (tyV i.2.2.1 i.2.2.2.1 i.2.2.2.2.1) i.2.2.1∧
  StX noX w r w' [.row i.2.1 3 1 i.1 (ints i.2.2.2.2.2),.cell b9 (tyL i.2.2.1 i.2.2.2.1 i.2.2.2.2.1) 138,.cell b6 adM 138,.cell b5 [.int .i64 p.l,.slice qs p.ps.length caps] 81]) (fun i=>p.ps.length - i.1) (0,.slice none 0 0,t0,q0,cap1,[]) rfl ⟨Nat.zero_le _,rfl,ht0,S⟩ ?_
 clear S
 rintro ⟨i,vg,t,q,cap,g⟩ d w8 ⟨hi,hw,htt,S⟩ K6 hK6
 simp only at hi hw htt S ⊢
 simp only [List.getD_cons_zero,List.getD_cons_succ]
 have hft : Fine ss t:=aa1 hg hfi hw
 have hgl : g.length=(p.ps.take i).length:=Jd hw
 rw [List.length_take] at hgl
 refine gg_ ?_
 refine zj (fun hlt=>?_) (fun hge=>?_)
 rotate_left
 ·have hie : i=p.ps.length:=by omega
  rw [hie,List.take_length] at hw
  refine S.ldB (b:=b9) ?_ rfl
  refine S.stB (b:=b6) fun w9 S=>?_
  refine S.ceB (b:=b6) ?_ rfl
  obtain ⟨s,S,hsl,_,hab⟩:=S.doneRow (l:=g) (R:=zu) (sz:=1) ⟨by rw [zI,Nat.mul_one],fun j hj=>by
   show _=_
   rw [Nat.mul_one,ints,← List.map_drop,← List.map_take,List.drop_eq_getElem_cons hj];rfl⟩ (by decide) (by omega)
  exact hS _ _ _ _ _ s _ hw S.ext (S.newOf fun b o ho=>(hab b o ho).resolve_right id) htt hsl
 have hlt : i<p.ps.length:=by omega
 obtain ⟨k,hke⟩ : ∃ k,p.ps[i]=k:=⟨_,rfl⟩
 obtain ⟨bs,os,cs,rfl,hcs,hck,hcl⟩:=hl.sl.get (by decide) hlt
 rw [hke] at hck
 obtain ⟨rfl,hin⟩:=hck
 have hstep : zP ss (p.ps.take (i+1)) t0=(yh ss t k).map fun s=>(s.1,g ++ [s.2]):=by
  rw [List.take_succ_eq_append_getElem hlt,aaZ,hw,hke];rfl
 have hbadk : yh ss t k=none→zP ss p.ps t0=none:=fun e=>by
  have:=aa0 (m:=p.ps.drop (i+1)) (hstep.trans (by rw [e];rfl))
  rwa [List.take_append_drop] at this
 refine zp (fun s w'=>∃ b12 t' q' c' n ok,s = [.pointer (some ⟨b12,0,none⟩),.int .i64 n,.bool ok]∧TyG r (tyV t' q' c') t'∧(ok=true→yh ss t k=some (t',n))∧(ok=false→yh ss t k=none)∧
  StX noX w r w' [.cell b12 (tyL t' q' c') 138,.row vg 3 1 i (ints g),.cell b9 (tyL t q cap) 138,.cell b6 adM 138,.cell b5 [.int .i64 p.l,.slice (some ⟨bs,os,none⟩) p.ps.length caps] 81]) (fun K24 hK24=>?_) ?_
 ·have S:=S.go (Ext.drew _)
  refine S.ldB (b:=b9) ?_ rfl
  refine gg_ ?_
  refine zi (v:=.int .i64 k) (by simpa using S.at (hcl 0 _ rfl)) ?_
  refine And.intro ?_ ?_
  ·refine Jn hft S.holds hs htt fun t' q' c' n ok w9 e9 ht' h1 h2=>?_
   have S:=S.go e9
   refine gS_ ?_
   refine S.alU fun b12 w10 S=>?_
   refine S.stB (b:=b12) fun w11 S=>?_
   exact hK24 _ _ ⟨b12,t',q',c',n,ok,rfl,ht',h1,h2,S⟩
  ·refine S.alU fun b12 w10 S=>?_
   refine Jn hft S.holds hs htt fun t' q' c' n ok w9 e9 ht' h1 h2=>?_
   have S:=S.go e9
   refine gS_ ?_
   refine S.stB (b:=b12) fun w11 S=>?_
   exact hK24 _ _ ⟨b12,t',q',c',n,ok,rfl,ht',h1,h2,S⟩
 clear S
 rintro _ w12 ⟨b12,t',q',c',n,ok,rfl,ht',h1,h2,S⟩ d12
 simp only [List.getD_cons_zero,List.getD_cons_succ]
 refine gp_ ?_
 cases ok with
 |false=>
  refine c_t rfl ?_
  refine zC (cs:=#[.int .u8 0,.bool false,.int .i64 0,.int .i64 0,.slice none 0 0]) (by kernel_rfl) ?_
  refine S.stB (b:=b6) fun w13 S=>?_
  refine S.ceB (b:=b6) ?_ rfl
  exact hN _ (hbadk (h2 rfl)) S.ext
 |true=>
  refine c_f rfl ?_
  refine S.ldB (b:=b12) ?_ rfl
  refine S.stB (b:=b9) fun w13 S=>?_
  refine S.lit (e:=3) (cs:=[.int .i64 n]) (by kernel_rfl) fun b14 w14 S=>?_
  refine S.ap (m':=1) (Sl.blk (S.blk b14)) (fun v15 w15 S=>?_) (by omega)
  have S:=(S.drop b14).drop b12
  have hins : ints g ++ [.int .i64 n]=ints (g ++ [n]):=by rw [ints,ints,List.map_append];rfl
  rw [hins] at S
  refine gg_ ?_
  rw [show ((i : Int)+1)=((i+1 : Nat) : Int) by omega]
  exact hK6 (i+1,v15,t',q',c',g ++ [n]) _ ⟨hlt,hstep.trans (by rw [h1 rfl];rfl),ht',S⟩ (by show p.ps.length - (i+1)<p.ps.length - i;omega)
end Go.Proofs
end
section
namespace Go.Proofs
open Go.Sh
set_option maxRecDepth 100000
set_option linter.unusedSimpArgs false
set_option linter.unusedVariables false
theorem xv {p : PlD} {c : List Value} {w : World} {r : Gh} {K : Value→World→Prop} (hr : Holds r w) (hp : PlG r c p)
  (h : ∀ w',Ext w w'→K (.bool (xy p)) w') : zd Tryz.prog Tryz.yD #[.agg c.toArray] w K:=by
 refine Tryz.Jm ?_
 unfold Tryz.Z3
 obtain ⟨v,rfl,hl⟩:=hp
 obtain ⟨qs,caps,rfl,_,_⟩:=hl.sl.shape
 have S:=St.start hr
 refine S.box fun b1 w1 S=>?_
 have S : StX noX w r w1 [.cell b1 [.int .i64 p.l,.slice qs p.ps.length caps] 81]:=S
 refine gg_ ?_
 refine zf (c:=decide (p.ps.length=0)) (fun _ K2 hK2=>?_) ?_
 ·refine gg_ ?_
  rw [decide_eq_decide.2 (kB p.ps.length)]
  exact hK2
 exact h _ S.ext
theorem vK {o : OpD} {c : List Value} {w : World} {r : Gh} {K : Value→World→Prop} (hr : Holds r w) (ho : OpG r c o)
  (h : ∀ w',Ext w w'→K (.bool (Zk o)) w') : zd Tryz.prog Tryz.xJ #[.agg c.toArray] w K:=by
 refine Tryz.Qa ?_
 unfold Tryz.vJ
 obtain ⟨v,rfl,hl⟩:=ho
 obtain ⟨qs,caps,rfl,_,_⟩:=hl.sl.shape
 have S:=St.start hr
 refine S.box fun b1 w1 S=>?_
 have S : StX noX w r w1 [.cell b1 [.int .u8 o.k,.int .i64 o.n,.int .i64 o.pl.l,.slice qs o.pl.ps.length caps] 84]:=S
 refine gg_ ?_
 refine zf (c:=decide (o.n=0)) (fun _ K2 hK2=>by refine gg_ ?_;exact hK2) ?_
 refine zq (c:=xy o.pl) (fun _ K2 hK2=>?_) fun w5 e5=>?_
 ·refine gg_ ?_
  refine S.ldN (b:=b1) ?_
  refine xv (p:=o.pl) S.holds ⟨_,rfl,hl⟩ fun w6 e6=>hK2 _ e6
 exact h _ (S.go e5).ext
theorem zR {t : TyD} {q : Option Addr} {cap : Nat} {k : Int} {w : World} {r : Gh} {K : Value→World→Prop} (hr : Holds r w)
  (h : ∀ w',Ext w w'→K (.bool (isK t k)) w') : zd Tryz.prog Tryz.zJ #[tyV t q cap,.int .u8 k] w K:=by
 refine Tryz.afm ?_
 unfold Tryz.aa8
 have S:=St.start hr
 refine S.box fun b1 w1 S=>?_
 have S : StX noX w r w1 [.cell b1 (tyL t q cap) 138]:=S
 refine gg_ ?_
 exact h _ S.ext
theorem aeA {s : ByteArray} {w : World} {K : Value→World→Prop}
  (h : K (.bool (yg s [[43],[45],[42],[47],[37]])) w) : zd Tryz.prog Tryz.Yp #[.string s] w K:=by
 refine Tryz.adl ?_
 unfold Tryz.Jk
 refine gg_ ?_
 refine zk (c:=s.toList == [45]) (fun _ K2 hK2=>by refine gg_ ?_;exact hK2) ?_
 refine zk (c:=s.toList == [42]) (fun _ K2 hK2=>by refine gg_ ?_;exact hK2) ?_
 refine zk (c:=s.toList == [47]) (fun _ K2 hK2=>by refine gg_ ?_;exact hK2) ?_
 refine zk (c:=s.toList == [37]) (fun _ K2 hK2=>by refine gg_ ?_;exact hK2) ?_
 have e : ((((s.toList == [43])||(s.toList == [45]))||(s.toList == [42]))||(s.toList == [47])||(s.toList == [37]))=yg s [[43],[45],[42],[47],[37]]:=by
  simp only [yg,List.any_cons,List.any_nil,Bool.or_false,Bool.or_assoc]
 rw [← e] at h
 exact h
theorem abZ {s : ByteArray} {w : World} {K : Value→World→Prop}
  (h : K (.bool (yg s [[61,61],[33,61],[60],[60,61],[62],[62,61]])) w) : zd Tryz.prog Tryz.vR #[.string s] w K:=by
 refine Tryz.aa9 ?_
 unfold Tryz.XR
 refine gg_ ?_
 refine zk (c:=s.toList == [33,61]) (fun _ K2 hK2=>by refine gg_ ?_;exact hK2) ?_
 refine zk (c:=s.toList == [60]) (fun _ K2 hK2=>by refine gg_ ?_;exact hK2) ?_
 refine zk (c:=s.toList == [60,61]) (fun _ K2 hK2=>by refine gg_ ?_;exact hK2) ?_
 refine zk (c:=s.toList == [62]) (fun _ K2 hK2=>by refine gg_ ?_;exact hK2) ?_
 refine zk (c:=s.toList == [62,61]) (fun _ K2 hK2=>by refine gg_ ?_;exact hK2) ?_
 have e : (((((s.toList == [61,61])||(s.toList == [33,61]))||(s.toList == [60]))||(s.toList == [60,61])||(s.toList == [62]))||(s.toList == [62,61]))=yg s [[61,61],[33,61],[60],[60,61],[62],[62,61]]:=by
  simp only [yg,List.any_cons,List.any_nil,Bool.or_false,Bool.or_assoc]
 rw [← e] at h
 exact h
def yG (m : Int) : List Int→Int
 |[]=>m
 |k::l=>yG (max m k) l
theorem abb (k : Int) : ∀ (l : List Int) (m : Int),yG m (l ++ [k])=max (yG m l) k
 |[],m=>rfl
 |x::l,m=>by rw [List.cons_append,yG,yG,abb k l]
theorem vz {l : List Int} {v : Value} {w : World} {r : Gh} {K : Value→World→Prop} (hr : Holds r w) (hl : SlG 1 r zu v l) (hb : l.length≤1000000)
  (h : ∀ w',Ext w w'→K (.int .i64 (yG 0 l)) w') : zd Tryz.prog Tryz.ko #[v] w K:=by
 refine Tryz.adm ?_
 unfold Tryz.Jl
 obtain ⟨p,cap,rfl,_,_⟩:=hl.shape
 have S:=St.start hr
 refine zh (ι:=Nat) (fun i=>[.int .i64 (yG 0 (l.take i)),.int .i64 (i : Nat)]) (fun i w'=>i≤l.length∧StX noX w r w' []) (fun i=>l.length - i) 0 rfl ⟨Nat.zero_le _,S⟩ ?_
 clear S
 rintro i d w2 ⟨hi,S⟩ K1 hK1
 simp only [List.getD_cons_zero,List.getD_cons_succ]
 refine gg_ ?_
 refine zj (fun hlt=>?_) (fun hge=>?_)
 ·have hlt : i<l.length:=by omega
  have hs : yG 0 (l.take (i+1))=max (yG 0 (l.take i)) l[i]:=by rw [List.take_succ_eq_append_getElem hlt,abb]
  obtain ⟨b,off,c,rfl,hc,hcc,hcell⟩:=hl.get (by decide) hlt
  obtain rfl : c=_:=hcc
  have hx : Ob r fun w=>w.cell? ⟨b,off+i,none⟩=some (.int .i64 l[i]):=by simpa using hcell 0 _ rfl
  refine zp (fun s w'=>s = [.int .i64 (yG 0 (l.take (i+1)))]∧w'=w2) (fun K5 hK5=>?_) ?_
  rotate_left
  ·rintro _ _ ⟨rfl,rfl⟩ d3
   rw [List.getD_cons_zero]
   refine gg_ ?_
   rw [show ((i : Int)+1)=((i+1 : Nat) : Int) by omega]
   exact hK1 (i+1) _ ⟨hlt,S⟩ (by omega)
  refine gg_ ?_
  refine zi (by simpa using S.at hx) ?_
  refine gg_ ?_
  refine zj (fun hgt=>?_) (fun hle=>?_)
  ·refine gg_ ?_
   refine zi (by simpa using S.at hx) ?_
   exact hK5 _ _ ⟨by rw [hs,Int.max_eq_right (by omega)],rfl⟩
  ·exact hK5 _ _ ⟨by rw [hs,Int.max_eq_left (by omega)],rfl⟩
 ·have hie : i=l.length:=by omega
  rw [hie,List.take_length]
  exact h _ S.ext
theorem Qw {s s' : Int} : ∀ (n : Nat) {a b : TyD} {w : World} {r : Gh} {va vb : Value} {K : Value→World→Prop},zB s n a=true→zB s' n b=true→Holds r w→TyG r va a→TyG r vb b→
  (∀ w',Ext w w'→K (.bool (xZ yk n a b)) w')→zd Tryz.prog Tryz.yL #[va,vb] w K:=by
 intro n
 induction n with
 |zero=>intro a b w r va vb K h;cases h
 |succ n ih=>
  intro a b w r va vb K ha hb hr hva hvb h
  refine Tryz.abW ?_
  unfold Tryz.Qv
  have hva0:=hva
  have hvb0:=hvb
  obtain ⟨p1,cap1,rfl,_⟩:=hva
  obtain ⟨p2,cap2,rfl,_⟩:=hvb
  have S:=St.start hr
  refine S.box fun b2 w1 S=>?_
  refine S.box fun b3 w2 S=>?_
  have S : StX noX w r w2 [.cell b3 (tyL b p2 cap2) 138,.cell b2 (tyL a p1 cap1) 138]:=S
  refine gg_ ?_
  refine zk (c:=!(a.m == b.m)) (fun _ K2 hK2=>by refine gg_ ?_;exact hK2) ?_
  refine zk (c:=decide (a.st≠b.st)) (fun _ K2 hK2=>by refine gg_ ?_;exact hK2) ?_
  refine zk (c:=decide (a.of.length≠b.of.length)) (fun _ K2 hK2=>?_) ?_
  ·refine gg_ ?_
   rw [show decide ((a.of.length : Int)≠(b.of.length : Int))=decide (a.of.length≠b.of.length) from decide_eq_decide.2 (by omega)]
   exact hK2
  have key : a.k=b.k→a.of.length=b.of.length:=fun hk=>by
   rcases yr ha with ⟨h1,h2⟩|⟨u,h1,_,h2⟩<;>rcases yr hb with ⟨h3,h4⟩|⟨x,h3,_,h4⟩<;>rw [h1,h3]<;>first|rfl|omega
  refine c_b (fun hbad=>?_) (fun hok=>?_)
  ·have:=h _ S.ext
   rw [Q4] at this
   ·exact this
   ·simp only [Bool.or_eq_true,decide_eq_true_eq,yk,Bool.not_true] at hbad ⊢
    rcases hbad with (hh|hh)|hh
    ·exact .inl (.inl hh)
    ·exact .inl (.inr hh)
    ·exact .inl (.inl (.inl fun hk=>hh (key hk)))
  have hflat : (!(decide (a.k≠b.k) || !(a.m == b.m)||decide (a.st≠b.st) || !yk a.re b.re))=true:=by
   simp only [Bool.or_eq_false_iff] at hok
   rw [hok.1.1.1,hok.1.1.2,hok.1.2];rfl
  have hk : a.k=b.k:=by
   simp only [Bool.or_eq_false_iff,decide_eq_false_iff_not] at hok;omega
  have S:=S.go (Ext.drew _)
  rcases yr ha with ⟨ho,hk2⟩|⟨u,ho,hu,hk2⟩
  ·have hl0 : a.of.length=0:=by rw [ho];rfl
   rw [aaL ho,hflat] at h
   refine gg_ ?_
   refine xf (c:=true) (fun hb=>?_) fun w5 e5=>?_
   ·exfalso;simp [hl0] at hb
   rw [Bool.or_true]
   exact h _ (S.go e5).ext
  ·have hob : ∃ x,b.of = [x]∧zB s' n x=true:=by
    rcases yr hb with ⟨h3,h4⟩|⟨x,h3,h5,h4⟩
    ·omega
    ·exact ⟨x,h3,h5⟩
   obtain ⟨x,hox,hx⟩:=hob
   have hl1 : a.of.length=1:=by rw [ho];rfl
   have hl2 : b.of.length=1:=by rw [hox];rfl
   obtain ⟨bo,oo,q3,cap3,rfl,hc3,ht3⟩:=Zl hva0 ho
   obtain ⟨bx,ox,q4,cap4,rfl,hc4,ht4⟩:=Zl hvb0 hox
   rw [aaM ho hox,hflat,Bool.true_and] at h
   refine gg_ ?_
   refine xf (c:=xZ yk n u x) (fun _ K2 hK2=>?_) fun w5 e5=>?_
   ·refine gg_ ?_
    refine zt (n:=5) (c:=tyL u q3 cap3) rfl (fun j v hj=>by simpa using S.at (ht3 j v hj)) ?_
    refine gg_ ?_
    refine zt (n:=5) (c:=tyL x q4 cap4) rfl (fun j v hj=>by simpa using S.at (ht4 j v hj)) ?_
    exact ih hu hx S.holds hc3 hc4 fun w6 e6=>hK2 _ e6
   rw [show decide ((a.of.length : Int)=0)=false by rw [hl1];rfl,Bool.false_or]
   exact h _ (S.go e5).ext
end Go.Proofs
end
section
namespace Go.Proofs
open Go.Sh
set_option maxRecDepth 100000
set_option linter.unusedSimpArgs false
set_option linter.unusedVariables false
def z6 : List UInt8:=[84,65,66,76,70,83,78,85,77,69]
def abc (p : PtD) : List Bool:=[xy p.to,Zk p.a,Zk p.b,decide (p.args.length=0),xy p.fr,p.sign.toList == [],decide (p.fn=0),decide (p.st=0),!p.mu,decide (p.el=0)]
def kZ (has : List UInt8) (c : Int) : Bool:=has.any fun x=>decide ((x.toNat : Int)=c)
def thR (p : PtD) (has : List UInt8) (i : Nat) : Bool:=kZ has (zN z6 i)||(abc p).getD i true
def qV (p : PtD) (has : List UInt8) (n : Nat) : Bool:=(List.range n).all (thR p has)
theorem agu (p : PtD) (has : List UInt8) (n : Nat) : qV p has (n+1)=(qV p has n&&thR p has n):=by
 rw [qV,List.range_succ,List.all_append];simp [qV]
theorem ail {p : PtD} {h : V6} {L : List UInt8} (e0 : kZ L 84=h.to) (e1 : kZ L 65=h.a) (e2 : kZ L 66=h.b) (e3 : kZ L 76=h.args) (e4 : kZ L 70=h.fr) (e5 : kZ L 83=h.sign) (e6 : kZ L 78=h.fn) (e7 : kZ L 85=h.st) (e8 : kZ L 77=h.mu) (e9 : kZ L 69=h.el) : qV p L 10=zH p h:=by
 have r10 : List.range 10 = [0,1,2,3,4,5,6,7,8,9]:=rfl
 have b0 : zN z6 0=84:=rfl
 have b1 : zN z6 1=65:=rfl
 have b2 : zN z6 2=66:=rfl
 have b3 : zN z6 3=76:=rfl
 have b4 : zN z6 4=70:=rfl
 have b5 : zN z6 5=83:=rfl
 have b6 : zN z6 6=78:=rfl
 have b7 : zN z6 7=85:=rfl
 have b8 : zN z6 8=77:=rfl
 have b9 : zN z6 9=69:=rfl
 rw [qV,r10]
 simp only [List.all_cons,List.all_nil,Bool.and_true,thR,b0,b1,b2,b3,b4,b5,b6,b7,b8,b9,e0,e1,e2,e3,e4,e5,e6,e7,e8,e9,abc,List.getD_cons_zero,List.getD_cons_succ,zH,Xf,id]
 ac_rfl
set_option maxHeartbeats 4000000 in
theorem aeB {p : PtD} {has : List UInt8} {c : List Value} {w : World} {r : Gh} {K : Value→World→Prop} (hr : Holds r w) (hp : PtG r c p) (hh : has.length≤100)
  (h : ∀ w',Ext w w'→K (.bool (qV p has 10)) w') : zd Tryz.prog Tryz.zM #[.agg c.toArray,.string (bs has)] w K:=by
 refine Tryz.adk ?_
 unfold Tryz.Jj
 obtain ⟨q1,q2,q3,q4,q5,c1,c2,c3,c4,c5,rfl,hp0⟩:=XP hp
 obtain ⟨_,_,_,_,_,hE,k1,k2,k3,k4,k5⟩:=hp0
 cases hE
 have S:=St.start hr
 refine S.box fun b1 w1 S=>?_
 have S : StX noX w r w1 [.cell b1 (ptL p q1 q2 q3 q4 q5 c1 c2 c3 c4 c5) 87]:=S
 refine zh (ι:=Nat) (fun i=>[.bool (qV p has i),.int .i64 (i : Nat)]) (fun i w'=>i≤10∧StX noX w r w' [.cell b1 (ptL p q1 q2 q3 q4 q5 c1 c2 c3 c4 c5) 87]) (fun i=>10 - i) 0 rfl ⟨Nat.zero_le _,S⟩ ?_
 clear S
 rintro i d w2 ⟨hi,S⟩ K2 hK2
 simp only [List.getD_cons_zero,List.getD_cons_succ]
 refine gg_ ?_
 refine zj (fun hlt=>?_) (fun hge=>?_)
 rotate_left
 ·have hie : i=10:=by omega
  rw [hie];exact h _ S.ext
 have hlt : i<10:=by omega
 refine zp (fun s w'=>s = [.bool (qV p has (i+1))]∧StX noX w r w' [.cell b1 (ptL p q1 q2 q3 q4 q5 c1 c2 c3 c4 c5) 87]) (fun K6 hK6=>?_) ?_
 rotate_left
 ·clear S
  rintro _ w3 ⟨rfl,S⟩ d3
  rw [List.getD_cons_zero]
  refine gg_ ?_
  rw [show ((i : Int)+1)=((i+1 : Nat) : Int) by omega]
  exact hK2 (i+1) _ ⟨hlt,S⟩ (by omega)
 have hcl : z6.length=10:=rfl
 show opP Tryz.prog (Instr.index 9 (.string (bs z6)) _) _
 refine gg_ ?_
 rw [Int.toNat_natCast]
 refine zh (ι:=Nat) (fun k=>[.bool (kZ (has.take k) (zN z6 i)),.int .i64 (k : Nat)]) (fun k w'=>k≤has.length∧StX noX w r w' [.cell b1 (ptL p q1 q2 q3 q4 q5 c1 c2 c3 c4 c5) 87]) (fun k=>has.length - k) 0 rfl ⟨Nat.zero_le _,S⟩ ?_
 clear S
 rintro k d w4 ⟨hk,S⟩ K10 hK10
 simp only [List.getD_cons_zero,List.getD_cons_succ]
 refine gg_ ?_
 refine zj (fun hlt2=>?_) (fun hge2=>?_)
 ·have hlt2 : k<has.length:=by omega
  have hs : kZ (has.take (k+1)) (zN z6 i)=(kZ (has.take k) (zN z6 i)||decide (zN has k=zN z6 i)):=by
   rw [kZ,List.take_succ_eq_append_getElem hlt2,List.any_append]
   simp only [List.any_cons,List.any_nil,Bool.or_false]
   have : zN has k=(has[k].toNat : Int):=by rw [zN,List.getD_eq_getElem?_getD,List.getElem?_eq_getElem hlt2];rfl
   rw [this];rfl
  refine zk (c:=decide (zN has k=zN z6 i)) (fun _ K2 hK2=>?_) ?_
  ·refine gg_ ?_
   rw [Int.toNat_natCast]
   exact hK2
  rw [← hs]
  refine gg_ ?_
  rw [show ((k : Int)+1)=((k+1 : Nat) : Int) by omega]
  exact hK10 (k+1) _ ⟨hlt2,S⟩ (by omega)
 have hke : k=has.length:=by omega
 rw [hke,List.take_length]
 have hth : qV p has (i+1)=(qV p has i&&(kZ has (zN z6 i)||(abc p).getD i true)):=agu p has i
 refine c_b (fun hin=>?_) (fun hno=>?_)
 ·rw [hin,Bool.true_or,Bool.and_true] at hth
  exact hK6 _ _ ⟨by rw [hth],S⟩
 rw [hno,Bool.false_or] at hth
 clear hno hK10 hge2 hke hk
 have fin : ∀ {w9 : World},Ext w4 w9→K6 [.bool (qV p has i&&(abc p).getD i true)] w9:=fun e=>hK6 _ _ ⟨by rw [hth],S.go e⟩
 clear hK6 hth
 have hpto : PlG r [.int .i64 p.to.l,.slice q1 p.to.ps.length c1] p.to:=⟨_,rfl,k1⟩
 have hpfr : PlG r [.int .i64 p.fr.l,.slice q5 p.fr.ps.length c5] p.fr:=⟨_,rfl,k5⟩
 have hoa : OpG r [.int .u8 p.a.k,.int .i64 p.a.n,.int .i64 p.a.pl.l,.slice q2 p.a.pl.ps.length c2] p.a:=⟨_,rfl,k2⟩
 have hob : OpG r [.int .u8 p.b.k,.int .i64 p.b.n,.int .i64 p.b.pl.l,.slice q3 p.b.pl.ps.length c3] p.b:=⟨_,rfl,k3⟩
 have hi10 : i=0∨i=1∨i=2∨i=3∨i=4∨i=5∨i=6∨i=7∨i=8∨i=9:=by omega
 rcases hi10 with rfl|rfl|rfl|rfl|rfl|rfl|rfl|rfl|rfl|rfl
 ·rw [show zN z6 0=84 from rfl]
  refine gg_ ?_
  refine c_t (by decide) ?_
  refine zq (c:=xy p.to) (fun _ K9 hK9=>?_) fun w9 e9=>fin e9
  refine gg_ ?_
  refine S.ldN (b:=b1) ?_
  exact xv S.holds hpto fun w6 e6=>hK9 _ e6
 ·rw [show zN z6 1=65 from rfl]
  iterate 1 (refine gg_ ?_;refine c_f (by decide) ?_)
  refine gg_ ?_
  refine c_t (by decide) ?_
  refine zq (c:=Zk p.a) (fun _ K9 hK9=>?_) fun w9 e9=>fin e9
  refine gg_ ?_
  refine S.ldN (b:=b1) ?_
  exact vK S.holds hoa fun w6 e6=>hK9 _ e6
 ·rw [show zN z6 2=66 from rfl]
  iterate 2 (refine gg_ ?_;refine c_f (by decide) ?_)
  refine gg_ ?_
  refine c_t (by decide) ?_
  refine zq (c:=Zk p.b) (fun _ K9 hK9=>?_) fun w9 e9=>fin e9
  refine gg_ ?_
  refine S.ldN (b:=b1) ?_
  exact vK S.holds hob fun w6 e6=>hK9 _ e6
 ·rw [show zN z6 3=76 from rfl]
  iterate 3 (refine gg_ ?_;refine c_f (by decide) ?_)
  refine gg_ ?_
  refine c_t (by decide) ?_
  refine zf (c:=decide (p.args.length=0)) (fun _ K9 hK9=>?_) (fin (Ext.refl _))
  refine gg_ ?_
  rw [decide_eq_decide.2 (kB p.args.length)]
  exact hK9
 ·rw [show zN z6 4=70 from rfl]
  iterate 4 (refine gg_ ?_;refine c_f (by decide) ?_)
  refine gg_ ?_
  refine c_t (by decide) ?_
  refine zq (c:=xy p.fr) (fun _ K9 hK9=>?_) fun w9 e9=>fin e9
  refine gg_ ?_
  refine S.ldN (b:=b1) ?_
  exact xv S.holds hpfr fun w6 e6=>hK9 _ e6
 ·rw [show zN z6 5=83 from rfl]
  iterate 5 (refine gg_ ?_;refine c_f (by decide) ?_)
  refine gg_ ?_
  refine c_t (by decide) ?_
  refine zf (c:=p.sign.toList == []) (fun _ K9 hK9=>?_) (fin (Ext.refl _))
  refine gg_ ?_
  exact hK9
 ·rw [show zN z6 6=78 from rfl]
  iterate 6 (refine gg_ ?_;refine c_f (by decide) ?_)
  refine gg_ ?_
  refine c_t (by decide) ?_
  refine zf (c:=decide (p.fn=0)) (fun _ K9 hK9=>?_) (fin (Ext.refl _))
  refine gg_ ?_
  exact hK9
 ·rw [show zN z6 7=85 from rfl]
  iterate 7 (refine gg_ ?_;refine c_f (by decide) ?_)
  refine gg_ ?_
  refine c_t (by decide) ?_
  refine zf (c:=decide (p.st=0)) (fun _ K9 hK9=>?_) (fin (Ext.refl _))
  refine gg_ ?_
  exact hK9
 ·rw [show zN z6 8=77 from rfl]
  iterate 8 (refine gg_ ?_;refine c_f (by decide) ?_)
  refine gg_ ?_
  refine c_t (by decide) ?_
  refine zf (c:=!p.mu) (fun _ K9 hK9=>?_) (fin (Ext.refl _))
  refine gg_ ?_
  exact hK9
 ·rw [show zN z6 9=69 from rfl]
  iterate 9 (refine gg_ ?_;refine c_f (by decide) ?_)
  refine gg_ ?_
  refine c_t (by decide) ?_
  refine zf (c:=decide (p.el=0)) (fun _ K9 hK9=>?_) (fin (Ext.refl _))
  refine gg_ ?_
  exact hK9
end Go.Proofs
end
section
namespace Go.Proofs
open Go.Sh
set_option maxRecDepth 100000
set_option linter.unusedSimpArgs false
set_option linter.unusedVariables false
abbrev asL (u : UnD) (g : GrD) (p0 : Option Addr) (cap0 : Nat) (qf : Option Addr) (capf : Nat) (q1 : Option Addr) (c1 : Nat) (q2 : Option Addr) (c2 : Nat) (q3 : Option Addr) (c3 : Nat) (q4 : Option Addr) (c4 : Nat) : List Value:=
 [.slice p0 u.ss.length cap0,.slice qf u.fs.length capf,.int .i64 u.mn,.string g.name,.int .i64 g.lv,.slice q1 g.outs.length c1,.int .i64 g.pn,.slice q2 g.tys.length c2,.slice q3 g.nms.length c3,.slice q4 g.pts.length c4]
def AsP (r : Gh) (b : Nat) (u : UnD) (g : GrD) : Prop:=∃ p0 cap0 qf capf q1 c1 q2 c2 q3 c3 q4 c4,(Ob r fun w=>Blk w b (asL u g p0 cap0 qf capf q1 c1 q2 c2 q3 c3 q4 c4) 173)∧
 UnG r (.agg #[.slice p0 u.ss.length cap0,.slice qf u.fs.length capf,.int .i64 u.mn]) u∧GrG r [.string g.name,.int .i64 g.lv,.slice q1 g.outs.length c1,.int .i64 g.pn,.slice q2 g.tys.length c2,.slice q3 g.nms.length c3,.slice q4 g.pts.length c4] g
theorem AsP.up {r s : Gh} {b : Nat} {u : UnD} {g : GrD} (h : AsP r b u g) [l : Le r s] : AsP s b u g:=by
 obtain ⟨p0,cap0,qf,capf,q1,c1,q2,c2,q3,c3,q4,c4,h1,h2,h3⟩:=h
 exact ⟨p0,cap0,qf,capf,q1,c1,q2,c2,q3,c3,q4,c4,h1.up,h2.up,h3.up⟩
theorem aae {ss : List StD} : ∀ (l : List Int) (t : TyD) (m : Int),0≤m→goG ss l (t,m)=(zP ss l t).map fun x=>(x.1,yG m x.2)
 |[],t,m,_=>rfl
 |k::l,t,m,hm=>by
  have hs : stepG ss (t,m) k=(yh ss t k).map fun s=>(s.1,max m s.2):=by
   unfold stepG yh
   split
   ·cases t.of.head?<;>rfl
   split
   ·cases t.of.head?<;>rfl
   split
   ·cases (ze ss t.st)[k.toNat]? with
    |none=>rfl
    |some u=>show some (u,m)=some (u,max m 0);rw [Int.max_eq_left hm]
   ·rfl
  rw [goG,zP,hs]
  cases h1 : yh ss t k with
  |none=>rfl
  |some s=>
   show goG ss l (s.1,max m s.2)=((zP ss l s.1).map _).map _
   rw [aae l s.1 (max m s.2) (by omega),Option.map_map]
   rfl
theorem Jo {ss : List StD} {t : TyD} {ps : List Int} (hst : (zw ss).2=0) (hm : zY ss t=true) : vk ss [t] ⟨0,ps⟩=if ps.length≤8 then zP ss ps t else none:=by
 have e : Zw ss [t] ⟨0,ps⟩=decide (ps.length≤8):=by
  simp [Zw,hst,hm]
 rw [vk,e]
 by_cases h : ps.length≤8
 ·rw [if_pos (decide_eq_true h),if_pos h];rfl
 ·rw [if_neg (by simpa using h),if_neg h]
theorem Jp {ss : List StD} {tys : List TyD} {p : PlD} (hst : (zw ss).2=0) (hf : xz ss tys) : (zn ss tys p).2.2=true↔0≤p.l∧∃ (hl : p.l.toNat<tys.length) (x : TyD × List Int),vk ss [tys[p.l.toNat]] ⟨0,p.ps⟩=some x∧zn ss tys p=(x.1,yG 0 x.2,true):=by
 constructor
 ·intro ho
  have h8:=aa5 ho
  unfold zn at ho ⊢
  cases hb : (if p.l<0 then none else tys[p.l.toNat]?).bind fun t=>goG ss p.ps (t,0) with
  |none=>rw [hb] at ho;cases ho
  |some s=>
   split at hb
   ·cases hb
   ·rename_i hl0
    cases ht : tys[p.l.toNat]? with
    |none=>rw [ht] at hb;cases hb
    |some t=>
     rw [ht] at hb
     have hb : goG ss p.ps (t,0)=some s:=hb
     obtain ⟨hlt,rfl⟩:=List.getElem?_eq_some_iff.1 ht
     rw [aae _ _ _ (Int.le_refl _)] at hb
     cases hw : zP ss p.ps tys[p.l.toNat] with
     |none=>rw [hw] at hb;cases hb
     |some x=>
      rw [hw] at hb
      have hb : (x.1,yG 0 x.2)=s:=Option.some.inj hb
      refine ⟨by omega,hlt,x,?_,?_⟩
      ·rw [Jo hst (by rw [zY,decide_eq_true hst,Bool.true_and];exact hf.all _ (List.getElem_mem hlt)),if_pos h8,hw]
      ·rw [← hb]
       show (x.1,yG 0 x.2,decide (p.ps.length≤8))=_
       rw [decide_eq_true h8]
 ·rintro ⟨_,_,x,_,h⟩;rw [h]
theorem ai6 {tys : List TyD} {i : Nat} (hi : i<tys.length) : (tys.drop i).take 1 = [tys[i]]:=by
 rw [List.drop_eq_getElem_cons hi];rfl
set_option maxHeartbeats 1000000 in
theorem YH {u : UnD} {g : GrD} {p : PlD} {bx : Nat} {c : List Value} {w : World} {r : Gh} {K : Value→World→Prop} (hr : Holds r w) (hx : AsP r bx u g) (hst : (zw u.ss).2=0) (hf : xz u.ss g.tys) (hp : PlG r c p)
  (hN : ∀ w',(zn u.ss g.tys p).2.2=false→Ext w w'→K (.tuple #[aiO,.slice none 0 0,.bool false]) w')
  (hS : ∀ t how q cap vg s w',zn u.ss g.tys p=(t,yG 0 how,true)→Ext w w'→New w s w'→TyG r (tyV t q cap) t→SlG 1 s zu vg how→how.length≤8→K (.tuple #[tyV t q cap,vg,.bool true]) w') :
  zd Tryz.prog Tryz.yS #[.pointer (some ⟨bx,0,none⟩),.agg c.toArray] w K:=by
 refine Tryz.QK ?_
 unfold Tryz.Zx
 obtain ⟨p0,cap0,qf,capf,q1,c1,q2,c2,q3,c3,q4,c4,hB,hu,hg⟩:=hx
 obtain ⟨_,_,_,hE,_,_,hss,_,_⟩:=hu
 cases hE
 obtain ⟨_,_,_,_,hE,_,ht,_,_⟩:=hg
 cases hE
 obtain ⟨_,_,hE,_,hct2⟩:=ht.sl.shape
 cases hE
 have htl:=ht.few
 have htl' : g.tys.length≤9223372036854775807:=htl
 obtain ⟨v,rfl,hl⟩:=hp
 obtain ⟨qs,caps,rfl,hqs,hcs⟩:=hl.sl.shape
 have S:=St.start hr
 refine S.box fun b3 w1 S=>?_
 have S : StX noX w r w1 [.cell b3 [.int .i64 p.l,.slice qs p.ps.length caps] 81]:=S
 refine S.al fun b4 w2 S=>?_
 have S:=S.go (Ext.drew _)
 have ld : ∀ {w9 : World} {L : List Asr} {i : Nat} {v : Value},StX noX w r w9 L→(asL u g p0 cap0 qf capf q1 c1 q2 c2 q3 c3 q4 c4)[i]? = some v→w9.cell? ⟨bx,i,none⟩=some v:=fun S hi=>by
  rw [(S.at hB).cell];exact hi
 refine gg_ ?_
 refine zk (c:=decide ((g.tys.length : Int)≤p.l)) (fun _ K2 hK2=>?_) ?_
 ·refine gg_ ?_
  refine zi (ld (i:=7) S rfl) ?_
  refine gg_ ?_
  exact hK2
 refine c_b (fun hbad=>?_) (fun hok=>?_)
 ·have hno : (zn u.ss g.tys p).2.2=false:=by
   cases hh : (zn u.ss g.tys p).2.2 with
   |false=>rfl
   |true=>
    obtain ⟨h1,h2,_⟩:=(Jp hst hf).1 hh
    simp only [Bool.or_eq_true,decide_eq_true_eq] at hbad;omega
  refine zC (cs:=#[.int .u8 0,.bool false,.int .i64 0,.int .i64 0,.slice none 0 0]) (by kernel_rfl) ?_
  refine S.stB (b:=b4) fun w4 S=>?_
  refine S.ceB (b:=b4) ?_ rfl
  exact hN _ hno S.ext
 simp only [Bool.or_eq_false_iff,decide_eq_false_iff_not] at hok
 have hlt : p.l.toNat<g.tys.length:=by omega
 have S:=S.go (Ext.drew _)
 refine gg_ ?_
 refine zi (ld (i:=0) S rfl) ?_
 refine gg_ ?_
 refine zi (ld (i:=7) S rfl) ?_
 refine gg_ ?_
 have hlen : (p.l+1).toNat - p.l.toNat = [g.tys[p.l.toNat]].length:=by show _=1;omega
 have hsub:=(XO ht.sl).sub (a:=p.l.toNat) (n:=1) (cap:=c2) hct2
 rw [ai6 hlt] at hsub
 rw [hlen]
 generalize (if c2=p.l.toNat then q2 else q2.map (·.add (p.l.toNat*5)))=qx at hsub ⊢
 have hp2 : PlG r [.int .i64 0,.slice qs p.ps.length caps] ⟨0,p.ps⟩:=⟨_,rfl,hl⟩
 refine aez (p:=⟨0,p.ps⟩) S.holds hss hsub (by simp [maxLen]) hp2 (fun w5 hn e5=>?_) fun t how q cap vg s w5 hs e5 n5 htt hsl=>?_
 ·have hno : (zn u.ss g.tys p).2.2=false:=by
   cases hh : (zn u.ss g.tys p).2.2 with
   |false=>rfl
   |true=>
    obtain ⟨h1,h2,x,h3,_⟩:=(Jp hst hf).1 hh
    rw [hn] at h3;cases h3
  have S:=S.go e5
  refine gS_ ?_
  refine S.stB (b:=b4) fun w6 S=>?_
  refine S.ceB (b:=b4) ?_ rfl
  exact hN _ hno S.ext
 ·obtain ⟨S,d5,a5⟩:=S.tell e5 n5
  have hm : zY u.ss g.tys[p.l.toNat]=true:=by rw [zY,decide_eq_true hst,Bool.true_and];exact hf.all _ (List.getElem_mem hlt)
  have hs':=hs
  rw [Jo hst hm] at hs'
  have h8 : p.ps.length≤8:=by
   refine Classical.byContradiction fun hc=>?_
   rw [if_neg hc] at hs';cases hs'
  rw [if_pos h8] at hs'
  have hw:=Jd hs'
  have hsp : zn u.ss g.tys p=(t,yG 0 how,true):=by
   unfold zn
   rw [if_neg (by omega),List.getElem?_eq_getElem hlt]
   show (match goG u.ss p.ps (g.tys[p.l.toNat],0) with|some s=>(s.1,s.2,decide (p.ps.length≤8))|none=>(yf,0,false))=_
   rw [aae _ _ _ (Int.le_refl _),hs']
   show (t,yG 0 how,decide (p.ps.length≤8))=_
   rw [decide_eq_true h8]
  refine gS_ ?_
  refine S.stB (b:=b4) fun w6 S=>?_
  refine S.ceB (b:=b4) ?_ rfl
  exact hS t how _ _ _ s _ hsp S.ext (S.newOf a5) htt hsl (by rw [hw];exact h8)
theorem agv {u : UnD} {g : GrD} {p : PlD} {bx : Nat} {c : List Value} {w : World} {r : Gh} {K : Value→World→Prop} (hr : Holds r w) (hx : AsP r bx u g) (hst : (zw u.ss).2=0) (hf : xz u.ss g.tys) (hp : PlG r c p)
  (h : ∀ t q cap w',((zn u.ss g.tys p).2.2=true→t=(zn u.ss g.tys p).1)→Ext w w'→TyG r (tyV t q cap) t→K (.tuple #[tyV t q cap,.bool ((zn u.ss g.tys p).2.2&&decide ((zn u.ss g.tys p).2.1<3))]) w') :
  zd Tryz.prog Tryz.jA #[.pointer (some ⟨bx,0,none⟩),.agg c.toArray] w K:=by
 refine Tryz.Vi ?_
 unfold Tryz.YG
 obtain ⟨v,rfl,hl⟩:=hp
 obtain ⟨qs,caps,rfl,_,_⟩:=hl.sl.shape
 have S:=St.start hr
 refine S.box fun b3 w1 S=>?_
 have S : StX noX w r w1 [.cell b3 [.int .i64 p.l,.slice qs p.ps.length caps] 81]:=S
 refine S.al fun b4 w2 S=>?_
 refine S.ldB (b:=b3) ?_ rfl
 refine YH (p:=p) S.holds hx hst hf ⟨_,rfl,hl⟩ (fun w3 hno e3=>?_) fun t how q cap vg s w3 hsp e3 n3 htt hsl h8=>?_
 ·have S:=S.go e3
  rw [hno] at h
  refine gS_ ?_
  refine S.al fun b6 w4 S=>?_
  refine S.stB (b:=b6) fun w5 S=>?_
  have S:=S.go (Ext.drew _)
  refine S.ldB (b:=b6) ?_ rfl
  refine zq (c:=true) (fun hh=>by cases hh) fun w6 e6=>?_
  have S:=S.go e6
  refine S.stB (b:=b4) fun w7 S=>?_
  refine S.ceB (b:=b4) ?_ rfl
  exact h yf none 0 _ (fun hh=>by cases hh) S.ext xn
 ·obtain ⟨S,d3,a3⟩:=S.tell e3 n3
  rw [hsp] at h
  refine gS_ ?_
  refine S.al fun b6 w4 S=>?_
  refine S.stB (b:=b6) fun w5 S=>?_
  have S:=S.go (Ext.drew _)
  refine S.ldB (b:=b6) ?_ rfl
  refine zq (c:=decide (yG 0 how<3)) (fun _ K2 hK2=>?_) fun w6 e6=>?_
  ·refine vz S.holds (hsl.cells (s:=r.or s)) (by omega) fun w7 e7=>⟨e7,?_⟩
   refine gp_ ?_
   exact hK2 _ e7
  have S:=S.go e6
  refine S.stB (b:=b4) fun w7 S=>?_
  refine S.ceB (b:=b4) ?_ rfl
  exact h t q cap _ (fun _=>rfl) S.ext htt
end Go.Proofs
end
section
namespace Go.Proofs
open Go.Sh
set_option maxRecDepth 100000
set_option linter.unusedSimpArgs false
set_option linter.unusedVariables false
set_option maxHeartbeats 2000000 in
theorem vA {u : UnD} {g : GrD} {o : OpD} {bx : Nat} {c : List Value} {w : World} {r : Gh} {K : Value→World→Prop} (hr : Holds r w) (hx : AsP r bx u g) (hst : (zw u.ss).2=0) (hf : xz u.ss g.tys) (ho : OpG r c o)
  (h : ∀ t q cap w',((zr u.ss g.tys o).2=true→t=(zr u.ss g.tys o).1)→Ext w w'→TyG r (tyV t q cap) t→K (.tuple #[tyV t q cap,.bool (zr u.ss g.tys o).2]) w') :
  zd Tryz.prog Tryz.yR #[.pointer (some ⟨bx,0,none⟩),.agg c.toArray] w K:=by
 refine Tryz.Xx ?_
 unfold Tryz.jT
 obtain ⟨v,rfl,hl⟩:=ho
 obtain ⟨qs,caps,rfl,_,_⟩:=hl.sl.shape
 have hpl : PlG r [.int .i64 o.pl.l,.slice qs o.pl.ps.length caps] o.pl:=⟨_,rfl,hl⟩
 have S:=St.start hr
 refine S.box fun b3 w1 S=>?_
 have S : StX noX w r w1 [.cell b3 [.int .u8 o.k,.int .i64 o.n,.int .i64 o.pl.l,.slice qs o.pl.ps.length caps] 84]:=S
 refine S.al fun b4 w2 S=>?_
 refine gg_ ?_
 refine zj (fun h1=>?_) (fun h1=>?_)
 ·rw [zr,if_pos h1] at h
  refine zC (cs:=#[.int .u8 1,.bool false,.int .i64 0,.int .i64 0,.slice none 0 0]) (by kernel_rfl) ?_
  refine gg_ ?_
  refine S.ldN (b:=b3) ?_
  refine xv S.holds hpl fun w3 e3=>?_
  have S:=S.go e3
  refine S.stB (b:=b4) fun w4 S=>?_
  refine S.ceB (b:=b4) ?_ rfl
  exact h V5 none 0 _ (fun _=>rfl) S.ext xn
 refine gg_ ?_
 refine zj (fun h2=>?_) (fun h2=>?_)
 ·rw [zr,if_neg h1,if_pos h2] at h
  refine zC (cs:=#[.int .u8 2,.bool false,.int .i64 0,.int .i64 0,.slice none 0 0]) (by kernel_rfl) ?_
  have S:=S.go (Ext.drew _)
  refine gg_ ?_
  refine S.ldN (b:=b3) ?_
  refine xv S.holds hpl fun w3 e3=>?_
  have S:=S.go e3
  have fin : ∀ {w4 : World} {L : List Asr} {b : Bool},b=(xy o.pl&&(decide (o.n=0)||decide (o.n=1)))→StX noX w r w4 (.cell b4 [.int .u8 2,.bool false,.int .i64 0,.int .i64 0,.slice none 0 0] 138::L)→K (.tuple #[tyV J2 none 0,.bool b]) w4:=fun hb S=>by
   rw [hb];exact h J2 none 0 _ (fun _=>rfl) S.ext xn
  cases hz : xy o.pl with
  |false=>
   rw [hz] at fin
   (intro K9 hK9;refine gd_ ?_;refine hK9 _ _ fun _=>?_;clear hK9 K9)
   (intro K9 hK9;refine gd_ ?_;refine hK9 _ _ fun _=>?_;clear hK9 K9)
   refine ⟨?_,?_⟩
   ·(intro K9 hK9;refine gd_ ?_;refine hK9 _ _ fun _=>?_;clear hK9 K9)
    (intro K9 hK9;refine gd_ ?_;refine hK9 _ _ fun _=>?_;clear hK9 K9)
    refine gd_ ?_
    refine S.stB (b:=b4) fun w10 S=>?_
    refine S.ceB (b:=b4) ?_ rfl
    exact fin rfl S
   ·refine S.stB (b:=b4) fun w10 S=>?_
    (intro K9 hK9;refine gd_ ?_;refine hK9 _ _ fun _=>?_;clear hK9 K9)
    (intro K9 hK9;refine gd_ ?_;refine hK9 _ _ fun _=>?_;clear hK9 K9)
    refine gd_ ?_
    exact fin rfl S
  |true=>
   rw [hz] at fin
   refine zp (fun s w'=>s = [.bool (decide (o.n=0))]∧w'=w3) (fun K9 hK9=>?_) ?_
   ·refine gd_ ?_
    exact hK9 _ _ ⟨rfl,rfl⟩
   rintro _ w3 ⟨rfl,rfl⟩ d1
   simp only [List.getD_cons_zero]
   by_cases hn : o.n=0
   ·rw [decide_eq_true hn]
    rw [decide_eq_true hn] at fin
    (intro K9 hK9;refine gd_ ?_;refine hK9 _ _ fun _=>?_;clear hK9 K9)
    refine ⟨?_,?_⟩
    ·(intro K9 hK9;refine gd_ ?_;refine hK9 _ _ fun _=>?_;clear hK9 K9)
     (intro K9 hK9;refine gd_ ?_;refine hK9 _ _ fun _=>?_;clear hK9 K9)
     refine gd_ ?_
     refine S.stB (b:=b4) fun w10 S=>?_
     refine S.ceB (b:=b4) ?_ rfl
     exact fin rfl S
    ·refine S.stB (b:=b4) fun w10 S=>?_
     (intro K9 hK9;refine gd_ ?_;refine hK9 _ _ fun _=>?_;clear hK9 K9)
     (intro K9 hK9;refine gd_ ?_;refine hK9 _ _ fun _=>?_;clear hK9 K9)
     refine gd_ ?_
     exact fin rfl S
   ·rw [decide_eq_false hn]
    rw [decide_eq_false hn] at fin
    (intro K9 hK9;refine gd_ ?_;refine hK9 _ _ fun _=>?_;clear hK9 K9)
    refine ⟨?_,?_⟩
    ·refine zp (fun s w'=>s = [.bool (decide (o.n=1))]∧w'=w3) (fun K9 hK9=>?_) ?_
     ·refine gd_ ?_
      refine w_q ?_
      refine gd_ ?_
      exact hK9 _ _ ⟨rfl,rfl⟩
     rintro _ _ ⟨rfl,rfl⟩ d1
     (intro K9 hK9;refine gd_ ?_;refine hK9 _ _ fun _=>?_;clear hK9 K9)
     refine gd_ ?_
     refine S.stB (b:=b4) fun w10 S=>?_
     refine S.ceB (b:=b4) ?_ rfl
     exact fin (by simp) S
    ·refine S.stB (b:=b4) fun w10 S=>?_
     refine zp (fun s w'=>s = [.bool (decide (o.n=1))]∧w'=w10) (fun K9 hK9=>?_) ?_
     ·refine gd_ ?_
      refine w_q ?_
      refine gd_ ?_
      exact hK9 _ _ ⟨rfl,rfl⟩
     rintro _ _ ⟨rfl,rfl⟩ d1
     (intro K9 hK9;refine gd_ ?_;refine hK9 _ _ fun _=>?_;clear hK9 K9)
     refine gd_ ?_
     exact fin (by simp) S
 intro K41 hK41
 refine gg_ ?_
 refine kz (c:=decide (o.k=4)) (hK41 _ _ fun _=>?_) fun _ hk=>?_
 rotate_left
 ·refine gg_ ?_;exact hk
 simp only [List.getD_cons_zero]
 refine c_b (fun h34=>?_) (fun h34=>?_)
 rotate_left
 ·have h34 : ¬ o.k=3∧¬ o.k=4:=by simpa using h34
  rw [zr,if_neg h1,if_neg h2,if_neg h34.1,if_neg h34.2] at h
  refine zC (cs:=#[.int .u8 0,.bool false,.int .i64 0,.int .i64 0,.slice none 0 0]) (by kernel_rfl) ?_
  refine S.stB (b:=b4) fun w10 S=>?_
  refine S.ceB (b:=b4) ?_ rfl
  exact h yf none 0 _ (fun hh=>by cases hh) S.ext xn
 have h34 : o.k=3∨o.k=4:=by simpa using h34
 have hop : zr u.ss g.tys o=if o.k=3 then ((zn u.ss g.tys o.pl).1,((zn u.ss g.tys o.pl).2.2&&decide (o.n=0))&&xT (zn u.ss g.tys o.pl).1)
   else ((zn u.ss g.tys o.pl).1,(((zn u.ss g.tys o.pl).2.2&&decide (o.n=0)) && !xT (zn u.ss g.tys o.pl).1)&&decide ((zn u.ss g.tys o.pl).2.1<2)):=by
  rw [zr,if_neg h1,if_neg h2]
  by_cases h3 : o.k=3
  ·rw [if_pos h3,if_pos h3]
  ·rw [if_neg h3,if_neg h3,if_pos (by omega)]
 refine gg_ ?_
 refine S.ldN (b:=b3) ?_
 refine YH (p:=o.pl) S.holds hx hst hf hpl (fun w3 hno e3=>?_) fun t how q cap vg s w3 hsp e3 n3 htt hsl h8=>?_
 ·have S:=S.go e3
  have hz : (zr u.ss g.tys o).2=false:=by
   rw [hop];split<;>simp [hno]
  rw [hz] at h
  refine gS_ ?_
  refine S.al fun b6 w4 S=>?_
  refine S.stB (b:=b6) fun w5 S=>?_
  refine gp_ ?_
  refine zk (c:=true) (fun hh=>by cases hh) ?_
  refine c_t rfl ?_
  refine S.ldB (b:=b6) ?_ rfl
  refine S.stB (b:=b4) fun w7 S=>?_
  refine S.ceB (b:=b4) ?_ rfl
  exact h yf none 0 _ (fun hh=>by cases hh) S.ext xn
 obtain ⟨S,d3,a3⟩:=S.tell e3 n3
 rw [hsp] at hop
 simp only [Bool.true_and] at hop
 refine gS_ ?_
 refine S.al fun b6 w4 S=>?_
 refine S.stB (b:=b6) fun w5 S=>?_
 refine gp_ ?_
 refine zk (c:=decide (o.n≠0)) (fun _ K2 hK2=>by refine gg_ ?_;exact hK2) ?_
 rw [show ((!true)||decide (o.n≠0))=decide (o.n≠0) by simp]
 refine zj (fun hn=>?_) (fun hn=>?_)
 ·have hz : (zr u.ss g.tys o).2=false:=by
   rw [hop];split<;>simp [hn]
  rw [hz] at h
  refine S.ldB (b:=b6) ?_ rfl
  refine S.stB (b:=b4) fun w7 S=>?_
  refine S.ceB (b:=b4) ?_ rfl
  exact h t q cap _ (fun hh=>by cases hh) S.ext htt
 have hn : o.n=0:=by omega
 rw [decide_eq_true hn] at hop
 simp only [Bool.true_and] at hop
 refine gg_ ?_
 refine zj (fun h3=>?_) (fun h3=>?_)
 ·rw [if_pos h3] at hop
  rw [hop] at h
  have S:=S.go (Ext.drew _)
  refine S.ldB (b:=b6) ?_ rfl
  refine S.ldB (b:=b6) ?_ rfl
  refine XM S.holds htt.up fun w6 e6=>⟨e6,?_⟩
  have S:=S.go e6
  refine S.stB (b:=b4) fun w7 S=>?_
  refine S.ceB (b:=b4) ?_ rfl
  exact h t q cap _ (fun _=>rfl) S.ext htt
 ·rw [if_neg h3] at hop
  rw [hop] at h
  have S:=S.go (Ext.drew _)
  refine S.ldB (b:=b6) ?_ rfl
  refine S.ldB (b:=b6) ?_ rfl
  refine XM S.holds htt.up fun w6 e6=>⟨e6,?_⟩
  have S:=S.go e6
  refine gp_ ?_
  refine zq (c:=decide (yG 0 how<2)) (fun _ K2 hK2=>?_) fun w7 e7=>?_
  ·refine vz S.holds (hsl.cells (s:=r.or s)) (by omega) fun w7 e7=>⟨e7,?_⟩
   refine gp_ ?_
   exact hK2 _ e7
  have S:=S.go e7
  refine S.stB (b:=b4) fun w7 S=>?_
  refine S.ceB (b:=b4) ?_ rfl
  exact h t q cap _ (fun _=>rfl) S.ext htt
theorem abd {ss : List StD} {tys : List TyD} (hf : xz ss tys) {o : OpD} (h : (zr ss tys o).2=true) : isB (zr ss tys o).1=true:=by
 by_cases hk : o.k=3∨o.k=4
 ·unfold zr at h ⊢
  rw [if_neg (by omega),if_neg (by omega)] at h ⊢
  rcases hk with hk|hk
  ·rw [if_pos hk] at h ⊢
   simp only [Bool.and_eq_true] at h
   exact (qD hf h.1.1).is hf.few
  ·rw [if_neg (by omega),if_pos hk] at h ⊢
   simp only [Bool.and_eq_true] at h
   exact (qD hf h.1.1.1).is hf.few
 ·unfold zr at h ⊢
  by_cases h1 : o.k=1
  ·rw [if_pos h1];rfl
  by_cases h2 : o.k=2
  ·rw [if_neg h1,if_pos h2];rfl
  ·rw [if_neg h1,if_neg h2,if_neg (by omega),if_neg (by omega)] at h;cases h
theorem abe {ss : List StD} {tys : List TyD} : ∀ {l : List OpD} {ts : List TyD} (i : Nat) (hi : i<l.length) (hj : i<ts.length),xo ss tys (l.take (i+1)) (ts.take (i+1))=(xo ss tys (l.take i) (ts.take i)&&((zr ss tys l[i]).2&&zO yk (zr ss tys l[i]).1 ts[i]))
 |[],_,i,hi,_=>absurd hi (Nat.not_lt_zero _)
 |_::_,[],i,_,hj=>absurd hj (Nat.not_lt_zero _)
 |o::l,t::r,0,hi,hj=>by
  rw [List.take_succ_cons,List.take_succ_cons,qU]
  simp [xo]
 |o::l,t::r,i+1,hi,hj=>by
  rw [List.take_succ_cons,List.take_succ_cons,qU,abe i (by simpa using hi) (by simpa using hj),List.take_succ_cons,List.take_succ_cons,qU]
  simp only [List.getElem_cons_succ,Bool.and_assoc]
theorem aim {ss : List StD} {tys : List TyD} {l : List OpD} {ts : List TyD} {i : Nat} (hi : i<l.length) (hj : i<ts.length) (h : ((zr ss tys l[i]).2&&zO yk (zr ss tys l[i]).1 ts[i])=false) : xo ss tys l ts=false:=by
 cases ha : xo ss tys l ts with
 |false=>rfl
 |true=>
  exfalso
  have key : ∀ {l : List OpD} {ts : List TyD} (i : Nat) (hi : i<l.length) (hj : i<ts.length),xo ss tys l ts=true→((zr ss tys l[i]).2&&zO yk (zr ss tys l[i]).1 ts[i])=true:=by
   intro l
   induction l with
   |nil=>intro ts i hi;exact absurd hi (Nat.not_lt_zero _)
   |cons o l ih=>
    intro ts i hi hj ha
    cases ts with
    |nil=>exact absurd hj (Nat.not_lt_zero _)
    |cons t r=>
     rw [qU,Bool.and_eq_true] at ha
     cases i with
     |zero=>exact ha.1
     |succ i=>exact ih i (by simpa using hi) (by simpa using hj) ha.2
  rw [key i hi hj ha] at h;cases h
set_option maxHeartbeats 1000000 in
theorem Jq {u : UnD} {g : GrD} {l : List OpD} {ts : List TyD} {bx : Nat} {p q : Option Addr} {cp cq : Nat} {w : World} {r : Gh} {K : Value→World→Prop} (hr : Holds r w) (hx : AsP r bx u g) (hst : (zw u.ss).2=0) (hf : xz u.ss g.tys)
  (hl : SlG 4 r (OpG r) (.slice p l.length cp) l) (hb : l.length≤maxLen) (ht : TysG r q ts) (htb : ts.length≤maxLen) (hts : ∀ t ∈ ts,isB t=true)
  (h : ∀ w',Ext w w'→K (.bool (xo u.ss g.tys l ts)) w') : zd Tryz.prog Tryz.xX #[.pointer (some ⟨bx,0,none⟩),.slice p l.length cp,.slice q ts.length cq] w K:=by
 refine Tryz.QL ?_
 unfold Tryz.Zy
 have S:=St.start hr
 have hb' : l.length≤9223372036854775807:=hb
 refine gg_ ?_
 refine zj (fun hne=>?_) (fun heq=>?_)
 ·have:=h _ S.ext
  rw [Jc (by omega)] at this
  exact this
 have heq : l.length=ts.length:=by omega
 refine zh (ι:=Nat) (fun i=>[.int .i64 (i : Nat)]) (fun i w'=>i≤l.length∧xo u.ss g.tys (l.take i) (ts.take i)=true∧StX noX w r w' []) (fun i=>l.length - i) 0 rfl ⟨Nat.zero_le _,rfl,S⟩ ?_
 clear S
 rintro i d w2 ⟨hi,hall,S⟩ K1 hK1
 rw [List.getD_cons_zero]
 refine gg_ ?_
 refine zj (fun hlt=>?_) (fun hge=>?_)
 ·have hlt : i<l.length:=by omega
  have hlt2 : i<ts.length:=by omega
  obtain ⟨bo,oo,co,rfl,hco,hoc,hocell⟩:=hl.get (by decide) hlt
  obtain ⟨bt,ot,ct,rfl,hct,htcell,htc⟩:=ht i hlt2
  obtain ⟨qt,ct2,rfl,htt⟩:=y6 htc
  refine gg_ ?_
  refine zt (n:=4) hco (fun j v hj=>by rw [Int.toNat_natCast];exact S.at (hocell j v hj)) ?_
  refine vA S.holds hx hst hf hoc fun t q cap w3 hte e3 ht3=>?_
  have S:=S.go e3
  refine gS_ ?_
  refine S.al fun b8 w4 S=>?_
  refine S.stB (b:=b8) fun w5 S=>?_
  refine gp_ ?_
  have S0:=S
  have S:=S.go (Ext.drew _)
  refine xf (c:=!zO yk (zr u.ss g.tys l[i]).1 ts[i]) (fun hok K2 hK2=>?_) fun w6 e6=>?_
  ·have hok : (zr u.ss g.tys l[i]).2=true:=by simpa using hok
   obtain rfl:=hte hok
   refine S.ldB (b:=b8) ?_ rfl
   refine gg_ ?_
   refine zt (n:=5) hct (fun j v hj=>by rw [Int.toNat_natCast];exact S.at (htcell j v hj)) ?_
   have hB:=abd hf hok
   have hB2:=hts _ (List.getElem_mem hlt2)
   refine Qw 48 hB hB2 S.holds ht3.up htt.up fun w7 e7=>?_
   refine gp_ ?_
   have ea : xZ yk 48 (zr u.ss g.tys l[i]).1 ts[i]=zO yk (zr u.ss g.tys l[i]).1 ts[i]:=by rw [zO,hB,hB2];rfl
   rw [ea]
   exact hK2 _ e7
  have S:=S.go e6
  refine c_b (fun hbad=>?_) (fun hgood=>?_)
  ·have:=h _ S.ext
   rw [aim hlt hlt2 (by revert hbad;cases (zr u.ss g.tys l[i]).2<;>cases (zO yk (zr u.ss g.tys l[i]).1 ts[i])<;>simp)] at this
   exact this
  ·refine gg_ ?_
   rw [show ((i : Int)+1)=((i+1 : Nat) : Int) by omega]
   refine hK1 (i+1) _ ⟨hlt,?_,S.tl⟩ (by omega)
   rw [abe i hlt hlt2,hall,Bool.true_and]
   simpa using hgood
 ·have hie : i=l.length:=by omega
  have:=h _ S.ext
  rw [hie,List.take_length,heq,List.take_length] at hall
  rw [hall] at this
  exact this
end Go.Proofs
end
section
namespace Go.Sh
theorem ajZ {w : World} {b e n x y : Bool} {A1 : (List Value→World→Prop)→Prop} {A2 A3 A4 : (List Value→World→Prop)→World→Prop} {Z : Value→World→Prop}
  (h1 : ∀ K : List Value→World→Prop,(∀ w',Ext w w'→K [.bool e] w')→A1 K) (h2 : ∀ (K : List Value→World→Prop) w1,Ext w w1→(∀ w',Ext w w'→K [.bool n] w')→A2 K w1)
  (h3 : ∀ (K : List Value→World→Prop) w1,Ext w w1→(∀ w',Ext w w'→K [.bool x] w')→A3 K w1) (h4 : ∀ (K : List Value→World→Prop) w1,Ext w w1→(∀ w',Ext w w'→K [.bool y] w')→A4 K w1)
  (hZ : ∀ w',Ext w w'→Z (.bool (b||(((e||n)&&x)&&y))) w') :
  za (fun K=>gIf (.bool b) false (A1 K) (K [undef] w)) fun s92 _ w94=>
   za (fun K=>gIf (s92.getD 0 undef) false (A2 K w94) (K [undef] w94)) fun s96 _ w98=>
    za (fun K=>gIf (.bool b) false (zb (s92.getD 0 undef) (.bool true) (s96.getD 0 undef) fun t=>K [t] w98) (K [undef] w98)) fun s100 _ w102=>
     za (fun K=>gIf (s100.getD 0 undef) true (A3 K w102) (K [undef] w102)) fun s104 _ w106=>
      za (fun K=>gIf (.bool b) false (zb (s100.getD 0 undef) (s104.getD 0 undef) (.bool false) fun t=>K [t] w106) (K [undef] w106)) fun s109 _ w111=>
       za (fun K=>gIf (s109.getD 0 undef) true (A4 K w111) (K [undef] w111)) fun s113 _ w115=>
        za (fun K=>gIf (.bool b) false (zb (s109.getD 0 undef) (s113.getD 0 undef) (.bool false) fun t=>K [t] w115) (K [undef] w115)) fun s118 _ w120=>
         zb (.bool b) (.bool true) (s118.getD 0 undef) fun t=>Z t w120:=by
 cases b<;>cases e<;>cases n<;>cases x<;>cases y <;>
  (iterate 7 (intro K hK;first|refine hK _ _ fun _=>?_|(refine h1 _ fun w1 e1=>hK _ _ fun _=>?_)|(refine h2 _ _ (by first|assumption|exact Ext.refl _) fun w1 e1=>hK _ _ fun _=>?_)|(refine h3 _ _ (by first|assumption|exact Ext.refl _) fun w1 e1=>hK _ _ fun _=>?_)|(refine h4 _ _ (by first|assumption|exact Ext.refl _) fun w1 e1=>hK _ _ fun _=>?_)|refine ⟨_,rfl,hK _ _ fun _=>?_⟩)) <;>
  exact ⟨_,rfl,by simpa using hZ _ (by first|assumption|exact Ext.refl _)⟩
theorem ai7 {w : World} {b m x y o u v : Bool} {A1 : (List Value→World→Prop)→Prop} {A2 A3 A4 A5 A6 : (List Value→World→Prop)→World→Prop} {Z : Value→World→Prop}
  (h1 : ∀ K : List Value→World→Prop,(∀ w',Ext w w'→K [.bool m] w')→A1 K) (h2 : ∀ (K : List Value→World→Prop) w1,Ext w w1→(∀ w',Ext w w'→K [.bool x] w')→A2 K w1)
  (h3 : ∀ (K : List Value→World→Prop) w1,Ext w w1→(∀ w',Ext w w'→K [.bool y] w')→A3 K w1) (h4 : ∀ (K : List Value→World→Prop) w1,Ext w w1→(∀ w',Ext w w'→K [.bool o] w')→A4 K w1)
  (h5 : ∀ (K : List Value→World→Prop) w1,Ext w w1→(∀ w',Ext w w'→K [.bool u] w')→A5 K w1) (h6 : ∀ (K : List Value→World→Prop) w1,Ext w w1→(∀ w',Ext w w'→K [.bool v] w')→A6 K w1)
  (hZ : ∀ w',Ext w w'→Z (.bool (b&&(((m&&x)&&y)||((o&&u)&&v)))) w') :
  za (fun K=>gIf (.bool b) true (A1 K) (K [undef] w)) fun s141 _ w143=>
   za (fun K=>gIf (s141.getD 0 undef) true (A2 K w143) (K [undef] w143)) fun s145 _ w147=>
    za (fun K=>gIf (.bool b) true (zb (s141.getD 0 undef) (s145.getD 0 undef) (.bool false) fun t=>K [t] w147) (K [undef] w147)) fun s150 _ w152=>
     za (fun K=>gIf (s150.getD 0 undef) true (A3 K w152) (K [undef] w152)) fun s154 _ w156=>
      za (fun K=>gIf (.bool b) true (zb (s150.getD 0 undef) (s154.getD 0 undef) (.bool false) fun t=>K [t] w156) (K [undef] w156)) fun s159 _ w161=>
       za (fun K=>gIf (s159.getD 0 undef) false (A4 K w161) (K [undef] w161)) fun s163 _ w165=>
        za (fun K=>gIf (s163.getD 0 undef) true (A5 K w165) (K [undef] w165)) fun s167 _ w169=>
         za (fun K=>gIf (s159.getD 0 undef) false (zb (s163.getD 0 undef) (s167.getD 0 undef) (.bool false) fun t=>K [t] w169) (K [undef] w169)) fun s172 _ w174=>
          za (fun K=>gIf (s172.getD 0 undef) true (A6 K w174) (K [undef] w174)) fun s176 _ w178=>
           za (fun K=>gIf (s159.getD 0 undef) false (zb (s172.getD 0 undef) (s176.getD 0 undef) (.bool false) fun t=>K [t] w178) (K [undef] w178)) fun s181 _ w183=>
            za (fun K=>gIf (.bool b) true (zb (s159.getD 0 undef) (.bool true) (s181.getD 0 undef) fun t=>K [t] w183) (K [undef] w183)) fun s185 _ w187=>
             zb (.bool b) (s185.getD 0 undef) (.bool false) fun t=>Z t w187:=by
 cases b<;>cases m<;>cases x<;>cases y<;>cases o<;>cases u<;>cases v <;>
  (iterate 11 (intro K hK;first|refine hK _ _ fun _=>?_|(refine h1 _ fun w1 e1=>hK _ _ fun _=>?_)|(refine h2 _ _ (by first|assumption|exact Ext.refl _) fun w1 e1=>hK _ _ fun _=>?_)|(refine h3 _ _ (by first|assumption|exact Ext.refl _) fun w1 e1=>hK _ _ fun _=>?_)|(refine h4 _ _ (by first|assumption|exact Ext.refl _) fun w1 e1=>hK _ _ fun _=>?_)|(refine h5 _ _ (by first|assumption|exact Ext.refl _) fun w1 e1=>hK _ _ fun _=>?_)|(refine h6 _ _ (by first|assumption|exact Ext.refl _) fun w1 e1=>hK _ _ fun _=>?_)|refine ⟨_,rfl,hK _ _ fun _=>?_⟩)) <;>
  exact ⟨_,rfl,by simpa using hZ _ (by first|assumption|exact Ext.refl _)⟩
theorem ai8 {w : World} {b m x : Bool} {A1 : (List Value→World→Prop)→Prop} {A2 : (List Value→World→Prop)→World→Prop} {Z : Value→World→Prop}
  (h1 : ∀ K : List Value→World→Prop,K [.bool m] w→A1 K) (h2 : b=true→∀ K : List Value→World→Prop,(∀ w',Ext w w'→K [.bool x] w')→A2 K w) (hZ : ∀ w',Ext w w'→Z (.bool (b&&(m||x))) w') :
  za (fun K=>gIf (.bool b) true (A1 K) (K [undef] w)) fun s212 _ w214=>
   za (fun K=>gIf (s212.getD 0 undef) false (A2 K w214) (K [undef] w214)) fun s216 _ w218=>
    za (fun K=>gIf (.bool b) true (zb (s212.getD 0 undef) (.bool true) (s216.getD 0 undef) fun t=>K [t] w218) (K [undef] w218)) fun s221 _ w223=>
     zb (.bool b) (s221.getD 0 undef) (.bool false) fun t=>Z t w223:=by
 cases b<;>cases m<;>cases x <;>
  (iterate 3 (intro K hK;first|refine hK _ _ fun _=>?_|refine h1 _ (hK _ _ fun _=>?_)|(refine h2 rfl _ fun w1 e1=>hK _ _ fun _=>?_)|refine ⟨_,rfl,hK _ _ fun _=>?_⟩)) <;>
  exact ⟨_,rfl,by simpa using hZ _ (by first|assumption|exact Ext.refl _)⟩
end Go.Sh
namespace Go.Proofs
open Go.Sh
set_option maxRecDepth 100000
set_option linter.unusedSimpArgs false
set_option linter.unusedVariables false
theorem aeC : ∀ (l : List Int) (m : Int),(m≤3)→(∀ x ∈ l,x≤3)→yG m l≤3
 |[],m,h,_=>h
 |k::l,m,h,hl=>aeC l _ (by have:=hl k List.mem_cons_self;omega) fun x hx=>hl x (List.mem_cons_of_mem _ hx)
theorem aeD {ss : List StD} : ∀ (l : List Int) (t : TyD) {x : TyD × List Int},zP ss l t=some x→∀ k ∈ x.2,k≤3
 |[],t,x,h=>by cases h;intro k hk;cases hk
 |k::l,t,x,h=>by
  rw [zP] at h
  cases hs : yh ss t k with
  |none=>rw [hs] at h;cases h
  |some s=>
   rw [hs] at h
   have h : (zP ss l s.1).map (fun x=>(x.1,s.2::x.2))=some x:=h
   cases hw : zP ss l s.1 with
   |none=>rw [hw] at h;cases h
   |some y=>
    rw [hw] at h
    cases h
    intro j hj
    rcases List.mem_cons.1 hj with rfl|hj
    ·unfold yh at hs
     split at hs
     ·cases ho : t.of.head? with
      |none=>rw [ho] at hs;cases hs
      |some u=>rw [ho] at hs;cases hs;show (1 : Int)≤3;decide
     split at hs
     ·cases ho : t.of.head? with
      |none=>rw [ho] at hs;cases hs
      |some u=>rw [ho] at hs;cases hs;show (if t.m then (2 : Int) else 3)≤3;split<;>decide
     split at hs
     ·cases ho : (ze ss t.st)[k.toNat]? with
      |none=>rw [ho] at hs;cases hs
      |some u=>rw [ho] at hs;cases hs;show (0 : Int)≤3;decide
     ·cases hs
    ·exact aeD l s.1 hw j hj
theorem ahh {ss : List StD} {tys : List TyD} {p : PlD} (hst : (zw ss).2=0) (hf : xz ss tys) (h : (zn ss tys p).2.2=true) : (zn ss tys p).2.1≤3:=by
 have h8:=aa5 h
 obtain ⟨h0,hl,x,h1,h2⟩:=(Jp hst hf).1 h
 rw [Jo hst (by rw [zY,decide_eq_true hst,Bool.true_and];exact hf.all _ (List.getElem_mem hl)),if_pos h8] at h1
 rw [h2]
 exact aeC _ _ (by decide) (aeD _ _ h1)
theorem adp {u : UnD} {g : GrD} {p : PlD} {bx : Nat} {c : List Value} {w : World} {r : Gh} {K : Value→World→Prop} (hr : Holds r w) (hx : AsP r bx u g) (hst : (zw u.ss).2=0) (hf : xz u.ss g.tys) (hp : PlG r c p)
  (h : ∀ t how q cap vg s w',((zn u.ss g.tys p).2.2=true→zn u.ss g.tys p=(t,yG 0 how,true))→Ext w w'→New w s w'→TyG r (tyV t q cap) t→SlG 1 s zu vg how→how.length≤8→K (.tuple #[tyV t q cap,vg,.bool (zn u.ss g.tys p).2.2]) w') :
  zd Tryz.prog Tryz.yS #[.pointer (some ⟨bx,0,none⟩),.agg c.toArray] w K:=by
 refine YH hr hx hst hf hp (fun w' hno e=>?_) fun t how q cap vg s w' hsp e n htt hsl h8=>?_
 ·have:=h yf [] none 0 (.slice none 0 0) nothing w' (fun hh=>by rw [hno] at hh;cases hh) e New.nothing xn SlG.nil (Nat.zero_le _)
  rw [hno] at this
  exact this
 ·have:=h t how q cap vg s w' (fun _=>hsp) e n htt hsl h8
  rw [hsp] at this
  exact this
end Go.Proofs
end
section
namespace Go.Proofs
open Go.Sh
set_option maxRecDepth 100000
set_option linter.unusedSimpArgs false
set_option linter.unusedVariables false
theorem ain {p : PtD} {h : V6} {L : List UInt8} (e : ([84,65,66,76,70,83,78,85,77,69] : List Int).map (kZ L) = [h.to,h.a,h.b,h.args,h.fr,h.sign,h.fn,h.st,h.mu,h.el]) : qV p L 10=zH p h:=by
 simp only [List.map_cons,List.map_nil,List.cons.injEq,and_true] at e
 obtain ⟨e0,e1,e2,e3,e4,e5,e6,e7,e8,e9⟩:=e
 exact ail e0 e1 e2 e3 e4 e5 e6 e7 e8 e9
theorem xe {p : PtD} {f : V6} {has : List UInt8} {c : List Value} {w : World} {r : Gh} {K : Value→World→Prop} (e : ([84,65,66,76,70,83,78,85,77,69] : List Int).map (kZ has) = [f.to,f.a,f.b,f.args,f.fr,f.sign,f.fn,f.st,f.mu,f.el]) (hh : has.length≤100) (hr : Holds r w) (hp : PtG r c p)
  (h : ∀ w',Ext w w'→K (.bool (zH p f)) w') : zd Tryz.prog Tryz.zM #[.agg c.toArray,.string (bs has)] w K:=by
 refine aeB hr hp hh fun w' e'=>?_
 rw [ain e]
 exact h _ e'
theorem aj0 {s : ByteArray} {t1 t2 i x : Bool} : (yg s [[61,61],[33,61],[60],[60,61],[62],[62,61]]&&t2&&(i||((s.toList == [61,61]||s.toList == [33,61])&&x))) =
  (if yg s [[60],[60,61],[62],[62,61]]=true then t2&&i else if yg s [[61,61],[33,61]]=true then t2&&(i||x) else false):=by
 have hx : ∀ a b : List UInt8,a≠b→(s.toList == a)=true→(s.toList == b)=false:=fun a b hab h=>by
  rw [beq_iff_eq] at h
  rw [h]
  exact beq_eq_false_iff_ne.2 hab
 simp only [yg,List.any_cons,List.any_nil,Bool.or_false]
 by_cases h1 : (s.toList == [61,61])=true
 ·rw [hx _ [60] (by decide) h1,hx _ [60,61] (by decide) h1,hx _ [62] (by decide) h1,hx _ [62,61] (by decide) h1,h1]
  simp
 by_cases h2 : (s.toList == [33,61])=true
 ·rw [hx _ [60] (by decide) h2,hx _ [60,61] (by decide) h2,hx _ [62] (by decide) h2,hx _ [62,61] (by decide) h2,h2]
  simp
 rw [Bool.not_eq_true] at h1 h2
 rw [h1,h2]
 simp only [Bool.false_or,Bool.false_and,Bool.or_false,Bool.false_eq_true,if_false]
 by_cases h3 : ((s.toList == [60])||((s.toList == [60,61])||((s.toList == [62])||(s.toList == [62,61]))))=true
 ·rw [if_pos h3,h3,Bool.true_and]
 ·rw [if_neg h3]
  rw [Bool.not_eq_true] at h3
  rw [h3];rfl
theorem akC {s : ByteArray} {b t1 a1 t2 a2 : Bool} : (b&&(((s.toList == [45]&&t1)&&a1)||((s.toList == [33]&&t2)&&a2)))=(b&&(if yg s [[45]]=true then t1&&a1 else if yg s [[33]]=true then t2&&a2 else false)):=by
 congr 1
 simp only [yg,List.any_cons,List.any_nil,Bool.or_false]
 by_cases h1 : (s.toList == [45])=true
 ·have h2 : (s.toList == [33])=false:=by
   rw [beq_iff_eq] at h1;rw [h1];rfl
  rw [if_pos h1,h1,h2];simp
 ·rw [if_neg h1]
  rw [Bool.not_eq_true] at h1
  rw [h1]
  by_cases h2 : (s.toList == [33])=true
  ·rw [if_pos h2,h2];simp
  ·rw [if_neg h2];rw [Bool.not_eq_true] at h2;rw [h2];simp
set_option maxHeartbeats 8000000 in
theorem adq {u : UnD} {g : GrD} {p : PtD} {bx : Nat} {c : List Value} {w : World} {r : Gh} {K : Value→World→Prop} (hr : Holds r w) (hx : AsP r bx u g) (hst : (zw u.ss).2=0) (hf : xz u.ss g.tys)
  (hfs : ∀ f ∈ u.fs,0≤f.pn∧f.pn<f.tys.length∧xz u.ss f.tys) (hp : PtG r c p)
  (h : ∀ w',Ext w w'→K (.bool (yv u g p)) w') : zd Tryz.prog Tryz.kW #[.pointer (some ⟨bx,0,none⟩),.agg c.toArray] w K:=by
 refine Tryz.X9 ?_
 unfold Tryz.vI
 have hx0:=hx
 obtain ⟨p0,cap0,qf,capf,q1,c1,q2,c2,q3,c3,q4,c4,hB,hu,hg⟩:=hx
 obtain ⟨_,_,_,hE,_,_,hss,hsl,hfn⟩:=hu
 cases hE
 have hfl : u.fs.length≤9223372036854775807:=hfn.few
 obtain ⟨_,_,_,_,hE,_,_,_,hpts⟩:=hg
 cases hE
 have hpl : g.pts.length≤9223372036854775807:=hpts.few
 obtain ⟨z1,z2,z3,z4,z5,d1,d2,d3,d4,d5,rfl,hp0⟩:=XP hp
 obtain ⟨_,_,_,_,_,hE,k1,k2,k3,k4,k5⟩:=id hp0
 cases hE
 have hpto : PlG r [.int .i64 p.to.l,.slice z1 p.to.ps.length d1] p.to:=⟨_,rfl,k1⟩
 have hpfr : PlG r [.int .i64 p.fr.l,.slice z5 p.fr.ps.length d5] p.fr:=⟨_,rfl,k5⟩
 have hoa : OpG r [.int .u8 p.a.k,.int .i64 p.a.n,.int .i64 p.a.pl.l,.slice z2 p.a.pl.ps.length d2] p.a:=⟨_,rfl,k2⟩
 have hob : OpG r [.int .u8 p.b.k,.int .i64 p.b.n,.int .i64 p.b.pl.l,.slice z3 p.b.pl.ps.length d3] p.b:=⟨_,rfl,k3⟩
 have S:=St.start hr
 refine S.box fun b3 w1 S=>?_
 have S : StX noX w r w1 [.cell b3 (ptL p z1 z2 z3 z4 z5 d1 d2 d3 d4 d5) 87]:=S
 have ld : ∀ {q : Gh} {w9 : World} {L : List Asr} {i : Nat} {v : Value} [Le r q],StX noX w q w9 L→(asL u g p0 cap0 qf capf q1 c1 q2 c2 q3 c3 q4 c4)[i]? = some v→w9.cell? ⟨bx,i,none⟩=some v:=fun S hi=>by
  rw [(S.at hB).cell];exact hi
 refine gg_ ?_
 refine zi (ld (i:=9) S rfl) ?_
 refine gg_ ?_
 refine vV (g:=decide (p.op=14)) (c:=decide (p.nx≠0)) (fun _ K2 hK2=>by refine gg_ ?_;exact hK2) (fun _ K2 hK2=>by refine gg_ ?_;exact hK2) ?_
 refine abX (g:=decide (p.op≠14)) (m:=decide (p.nx<0)) (c:=decide ((g.pts.length : Int)≤p.nx)) (fun K2 hK2=>by refine gg_ ?_;exact hK2) (fun K2 hK2=>by refine gg_ ?_;exact hK2) (fun K2 hK2=>by refine gg_ ?_;exact hK2) ?_
 have hbad : ((decide (p.tx<0)||(decide (p.op=14)&&decide (p.nx≠0)))||(decide (p.op≠14)&&(decide (p.nx<0)||decide ((g.pts.length : Int)≤p.nx)))) =
   ((decide (p.tx<0)||(!decide (p.op=14) && !vU g p.nx))||(decide (p.op=14) && !decide (p.nx=0))):=by
  have e1 : (!vU g p.nx)=(decide (p.nx<0)||decide ((g.pts.length : Int)≤p.nx)):=by
   rw [vU,Bool.not_and,← decide_not,← decide_not]
   congr 1<;>exact decide_eq_decide.2 (by omega)
  rw [e1,← decide_not,← decide_not]
  show ((decide (p.tx<0)||(decide (p.op=14)&&decide (¬ p.nx=0)))||(decide (¬ p.op=14)&&(decide (p.nx<0)||decide ((g.pts.length : Int)≤p.nx))))=_
  ac_rfl
 rw [hbad]
 refine c_b (fun hc=>?_) (fun hc=>?_)
 ·have:=h _ S.ext
  rw [yv,hc] at this
  exact this
 rw [yv,hc] at h
 simp only [Bool.not_false,Bool.true_and] at h
 clear hbad hc
 refine gg_ ?_
 refine S.ldN (b:=b3) ?_
 refine agv (p:=p.to) S.holds hx0 hst hf hpto fun tt qt ct w2 htt e2 ht2=>?_
 have S:=S.go e2
 refine gS_ ?_
 refine S.al fun b6 w3 S=>?_
 refine S.stB (b:=b6) fun w4 S=>?_
 refine gg_ ?_
 refine S.ldN (b:=b3) ?_
 refine vA (o:=p.a) S.holds hx0 hst hf hoa fun ta qa ca w5 hta e5 ht5=>?_
 have S:=S.go e5
 refine gS_ ?_
 refine S.al fun b8 w6 S=>?_
 refine S.stB (b:=b8) fun w7 S=>?_
 refine gg_ ?_
 refine S.ldN (b:=b3) ?_
 refine vA (o:=p.b) S.holds hx0 hst hf hob fun tb qb cb w8 htb e8 ht8=>?_
 have S:=S.go e8
 refine gS_ ?_
 refine S.al fun b10 w9 S=>?_
 refine S.stB (b:=b10) fun w10 S=>?_
 refine gg_ ?_
 refine S.ldN (b:=b3) ?_
 refine adp (p:=p.fr) S.holds hx0 hst hf hpfr fun tf how qr cr vg s w11 htf e11 n11 ht11 hhow hh8=>?_
 obtain ⟨S,dd,ad⟩:=S.tell e11 n11
 obtain ⟨vgp,vgc,rfl,_,_⟩:=hhow.shape
 refine gS_ ?_
 refine S.al fun b12 w12 S=>?_
 refine S.stB (b:=b12) fun w13 S=>?_
 have S : StX noX w (r.or s) w13 [.cell b12 (tyL tf qr cr) 138,.cell b10 (tyL tb qb cb) 138,.cell b8 (tyL ta qa ca) 138,.cell b6 (tyL tt qt ct) 138,.cell b3 (ptL p z1 z2 z3 z4 z5 d1 d2 d3 d4 d5) 87]:=S
 have hpr : PtG (r.or s) (ptL p z1 z2 z3 z4 z5 d1 d2 d3 d4 d5) p:=hp0.up
 have ht2 : TyG (r.or s) (tyV tt qt ct) tt:=ht2.up
 have ht5 : TyG (r.or s) (tyV ta qa ca) ta:=ht5.up
 have ht8 : TyG (r.or s) (tyV tb qb cb) tb:=ht8.up
 have ht11 : TyG (r.or s) (tyV tf qr cr) tf:=ht11.up
 have hhow : SlG 1 (r.or s) zu (.slice vgp how.length vgc) how:=hhow.cells
 have hBto : (zn u.ss g.tys p.to).2.2=true→isB (zn u.ss g.tys p.to).1=true:=fun ho=>(qD hf ho).is hf.few
 have hBa : (zr u.ss g.tys p.a).2=true→isB (zr u.ss g.tys p.a).1=true:=abd hf
 have hBf : (zn u.ss g.tys p.fr).2.2=true→isB (zn u.ss g.tys p.fr).1=true:=fun ho=>(qD hf ho).is hf.few
 have ali : ∀ {a b : TyD} {va vb : Value} {w9 : World} {L : List Asr} {K9 : Value→World→Prop},isB a=true→isB b=true→StX noX w (r.or s) w9 L→TyG (r.or s) va a→TyG (r.or s) vb b→(∀ w',Ext w9 w'→K9 (.bool (zO yk a b)) w')→zd Tryz.prog Tryz.yL #[va,vb] w9 K9:=fun ha hb S hva hvb hk=>by
  refine Qw 48 ha hb S.holds hva hvb fun w' e'=>?_
  have:=hk w' e'
  rw [zO,ha,hb] at this
  exact this
 refine gg_ ?_
 refine zj (fun hop=>?_) (fun hop=>?_)
 ·rw [ptG] at h
  simp only [hop,Int.reduceEq,if_false,if_true] at h
  refine S.ldB (b:=b3) ?_ rfl
  refine xe (f:={ to:=true,a:=true }) (by decide) (by decide) S.holds hpr fun w14 e14=>?_
  have S:=S.go e14
  refine zf (c:=(zn u.ss g.tys p.to).2.2&&decide ((zn u.ss g.tys p.to).2.1<3)) (fun _ K2 hK2=>hK2) ?_
  refine zf (c:=(zr u.ss g.tys p.a).2) (fun _ K2 hK2=>hK2) ?_
  refine zq (c:=zO yk (zr u.ss g.tys p.a).1 (zn u.ss g.tys p.to).1) (fun hb K2 hK2=>?_) fun w15 e15=>h _ (S.go e15).ext
  simp only [Bool.and_eq_true] at hb
  obtain rfl:=htt hb.1.2.1
  obtain rfl:=hta hb.2
  refine S.ldB (b:=b8) ?_ rfl
  refine S.ldB (b:=b6) ?_ rfl
  exact ali (hBa hb.2) (hBto hb.1.2.1) S ht5 ht2 fun w' e'=>hK2 _ e'
 refine gg_ ?_
 refine zj (fun hop=>?_) (fun hop=>?_)
 ·rw [ptG] at h
  simp only [hop,Int.reduceEq,if_false,if_true] at h
  refine S.ldB (b:=b3) ?_ rfl
  refine xe (f:={ to:=true,a:=true,b:=true,sign:=true }) (by decide) (by decide) S.holds hpr fun w14 e14=>?_
  have S:=S.go e14
  refine gg_ ?_
  refine zk (c:=!((zn u.ss g.tys p.to).2.2&&decide ((zn u.ss g.tys p.to).2.1<3))) (fun _ K2 hK2=>by refine gg_ ?_;exact hK2) ?_
  refine zk (c:=!(zr u.ss g.tys p.a).2) (fun _ K2 hK2=>by refine gg_ ?_;exact hK2) ?_
  refine zk (c:=!(zr u.ss g.tys p.b).2) (fun _ K2 hK2=>by refine gg_ ?_;exact hK2) ?_
  refine c_b (fun hc=>?_) (fun hc=>?_)
  ·rw [bb4 hc,Bool.false_and] at h
   exact h _ S.ext
  rw [ajW hc,Bool.true_and] at h
  simp only [Bool.or_eq_false_iff,Bool.not_eq_false',Bool.and_eq_true] at hc
  obtain ⟨⟨⟨_,hto,_⟩,ha2⟩,hb2⟩:=hc
  obtain rfl:=htt hto
  obtain rfl:=hta ha2
  obtain rfl:=htb hb2
  refine gg_ ?_
  refine aeA ?_
  refine c_b (fun hs=>?_) (fun hs=>?_)
  ·rw [if_pos hs] at h
   refine S.ldB (b:=b6) ?_ rfl
   refine zR S.holds fun w15 e15=>?_
   have S:=S.go e15
   refine zq (c:=isK (zr u.ss g.tys p.a).1 1) (fun _ K2 hK2=>?_) fun w16 e16=>?_
   ·refine S.ldB (b:=b8) ?_ rfl
    exact zR S.holds fun w' e'=>hK2 _ e'
   have S:=S.go e16
   refine zq (c:=isK (zr u.ss g.tys p.b).1 1) (fun _ K2 hK2=>?_) fun w17 e17=>?_
   ·refine S.ldB (b:=b10) ?_ rfl
    exact zR S.holds fun w' e'=>hK2 _ e'
   have:=h _ (S.go e17).ext
   rw [← Bool.and_assoc] at this
   exact this
  rw [if_neg (by rw [hs];decide)] at h
  refine S.ldB (b:=b8) ?_ rfl
  refine zR S.holds fun w15 e15=>?_
  have S:=S.go e15
  refine zq (c:=isK (zr u.ss g.tys p.b).1 1) (fun _ K2 hK2=>?_) fun w16 e16=>?_
  ·refine S.ldB (b:=b10) ?_ rfl
   exact zR S.holds fun w' e'=>hK2 _ e'
  have S:=S.go e16
  refine ajZ (e:=p.sign.toList == [61,61]) (n:=p.sign.toList == [33,61]) (x:=isK (zr u.ss g.tys p.a).1 2) (y:=isK (zr u.ss g.tys p.b).1 2) (fun K2 hK2=>?_) (fun K2 w1 e1 hK2=>?_) (fun K2 w1 e1 hK2=>?_) (fun K2 w1 e1 hK2=>?_) fun w17 e17=>?_
  ·refine gg_ ?_
   exact hK2 _ (Ext.refl _)
  ·have S:=S.go e1
   refine gg_ ?_
   exact hK2 _ (by first|exact e1|exact Ext.refl _)
  ·have S:=S.go e1
   refine S.ldB (b:=b8) ?_ rfl
   exact zR S.holds fun w' e'=>hK2 _ (e1.trans e')
  ·have S:=S.go e1
   refine S.ldB (b:=b10) ?_ rfl
   exact zR S.holds fun w' e'=>hK2 _ (e1.trans e')
  have S:=S.go e17
  refine gg_ ?_
  refine abZ ?_
  refine zq (c:=isK (zn u.ss g.tys p.to).1 2) (fun _ K2 hK2=>?_) fun w18 e18=>?_
  ·refine S.ldB (b:=b6) ?_ rfl
   exact zR S.holds fun w' e'=>hK2 _ e'
  have S:=S.go e18
  refine zf (c:=(isK (zr u.ss g.tys p.a).1 1&&isK (zr u.ss g.tys p.b).1 1)||(((p.sign.toList == [61,61]||p.sign.toList == [33,61])&&isK (zr u.ss g.tys p.a).1 2)&&isK (zr u.ss g.tys p.b).1 2)) (fun _ K2 hK2=>hK2) ?_
  have:=h _ S.ext
  rw [← aj0 (t1:=true),← Bool.and_assoc ((p.sign.toList == [61,61])||(p.sign.toList == [33,61]))] at this
  exact this
 refine gg_ ?_
 refine zj (fun hop=>?_) (fun hop=>?_)
 ·rw [ptG] at h
  simp only [hop,Int.reduceEq,if_false,if_true] at h
  refine S.ldB (b:=b3) ?_ rfl
  refine xe (f:={ to:=true,a:=true,sign:=true }) (by decide) (by decide) S.holds hpr fun w14 e14=>?_
  have S:=S.go e14
  refine zf (c:=(zn u.ss g.tys p.to).2.2&&decide ((zn u.ss g.tys p.to).2.1<3)) (fun _ K2 hK2=>hK2) ?_
  refine zf (c:=(zr u.ss g.tys p.a).2) (fun _ K2 hK2=>hK2) ?_
  rw [← akC] at h
  cases hb : ((zH p { to:=true,a:=true,sign:=true } && ((zn u.ss g.tys p.to).2.2&&decide ((zn u.ss g.tys p.to).2.1<3)))&&(zr u.ss g.tys p.a).2) with
  |false=>
   rw [hb,Bool.false_and] at h
   (intro K9 hK9;refine gd_ ?_;refine hK9 _ _ fun _=>?_;clear hK9 K9)
   (intro K9 hK9;refine gd_ ?_;refine hK9 _ _ fun _=>?_;clear hK9 K9)
   (intro K9 hK9;refine gd_ ?_;refine hK9 _ _ fun _=>?_;clear hK9 K9)
   (intro K9 hK9;refine gd_ ?_;refine hK9 _ _ fun _=>?_;clear hK9 K9)
   (intro K9 hK9;refine gd_ ?_;refine hK9 _ _ fun _=>?_;clear hK9 K9)
   (intro K9 hK9;refine gd_ ?_;refine hK9 _ _ fun _=>?_;clear hK9 K9)
   (intro K9 hK9;refine gd_ ?_;refine hK9 _ _ fun _=>?_;clear hK9 K9)
   (intro K9 hK9;refine gd_ ?_;refine hK9 _ _ fun _=>?_;clear hK9 K9)
   (intro K9 hK9;refine gd_ ?_;refine hK9 _ _ fun _=>?_;clear hK9 K9)
   (intro K9 hK9;refine gd_ ?_;refine hK9 _ _ fun _=>?_;clear hK9 K9)
   (intro K9 hK9;refine gd_ ?_;refine hK9 _ _ fun _=>?_;clear hK9 K9)
   refine gd_ ?_
   exact h _ S.ext
  |true=>
   rw [hb] at h
   simp only [Bool.and_eq_true] at hb
   obtain rfl:=htt hb.1.2.1
   obtain rfl:=hta hb.2
   refine ai7 (m:=p.sign.toList == [45]) (x:=isK (zn u.ss g.tys p.to).1 1) (y:=isK (zr u.ss g.tys p.a).1 1) (o:=p.sign.toList == [33]) (u:=isK (zn u.ss g.tys p.to).1 2) (v:=isK (zr u.ss g.tys p.a).1 2) (fun K2 hK2=>?_) (fun K2 w1 e1 hK2=>?_) (fun K2 w1 e1 hK2=>?_) (fun K2 w1 e1 hK2=>?_) (fun K2 w1 e1 hK2=>?_) (fun K2 w1 e1 hK2=>?_) fun w17 e17=>h _ (S.go e17).ext
   ·refine gg_ ?_
    exact hK2 _ (Ext.refl _)
   ·have S:=S.go e1
    refine S.ldB (b:=b6) ?_ rfl
    exact zR S.holds fun w' e'=>hK2 _ (e1.trans e')
   ·have S:=S.go e1
    refine S.ldB (b:=b8) ?_ rfl
    exact zR S.holds fun w' e'=>hK2 _ (e1.trans e')
   ·have S:=S.go e1
    refine gg_ ?_
    exact hK2 _ (by first|exact e1|exact Ext.refl _)
   ·have S:=S.go e1
    refine S.ldB (b:=b6) ?_ rfl
    exact zR S.holds fun w' e'=>hK2 _ (e1.trans e')
   ·have S:=S.go e1
    refine S.ldB (b:=b8) ?_ rfl
    exact zR S.holds fun w' e'=>hK2 _ (e1.trans e')
 have h8 : ∀ k,(ze u.ss k).length≤8:=kq (kC hst).2.1
 have h32:=hf.few
 have inn : ∀ {t : TyD} {q : Option Addr} {cap : Nat},TyG (r.or s) (tyV t q cap) t→(∃ k,t.k=k∧(k=3∨k=4))→Fine u.ss t→∃ uu bo oo q2 cap2,t.of = [uu]∧q=some ⟨bo,oo,none⟩∧isB uu=true∧TyG (r.or s) (tyV uu q2 cap2) uu∧∀ j v,(tyL uu q2 cap2)[j]? = some v→Ob (r.or s) fun w=>w.cell? ⟨bo,oo+j,none⟩=some v:=fun ht hk hfi=>by
  obtain ⟨k,hk1,hk2⟩:=hk
  rcases hfi.cases with ⟨_,h1⟩|⟨uu,h1,h2,_⟩
  ·omega
  ·obtain ⟨bo,oo,q2,cap2,rfl,ht2,hcc⟩:=Zl ht h1
   exact ⟨uu,bo,oo,q2,cap2,h1,rfl,h2.is h32,ht2,hcc⟩
 refine gg_ ?_
 refine zj (fun hop=>?_) (fun hop=>?_)
 ·rw [ptG] at h
  simp only [hop,Int.reduceEq,if_false,if_true] at h
  have S:=S.go (Ext.drew _)
  refine S.ldB (b:=b3) ?_ rfl
  refine xe (f:={ to:=true,fr:=true,mu:=true }) (by decide) (by decide) S.holds hpr fun w14 e14=>?_
  have S:=S.go e14
  refine zf (c:=(zn u.ss g.tys p.to).2.2&&decide ((zn u.ss g.tys p.to).2.1<3)) (fun _ K2 hK2=>hK2) ?_
  refine zf (c:=(zn u.ss g.tys p.fr).2.2) (fun _ K2 hK2=>hK2) ?_
  refine zq (c:=isK (zn u.ss g.tys p.to).1 4) (fun hb K2 hK2=>?_) fun w15 e15=>?_
  ·simp only [Bool.and_eq_true] at hb
   obtain rfl:=htt hb.1.2.1
   refine S.ldB (b:=b6) ?_ rfl
   exact zR S.holds fun w' e'=>hK2 _ e'
  have S:=S.go e15
  refine zf (c:=(zn u.ss g.tys p.to).1.m == p.mu) (fun hb K2 hK2=>?_) ?_
  ·simp only [Bool.and_eq_true] at hb
   obtain rfl:=htt hb.1.1.2.1
   refine gg_ ?_
   exact hK2
  refine zq (c:=zO yk ((zn u.ss g.tys p.to).1.of.headD yf) (zn u.ss g.tys p.fr).1) (fun hb K2 hK2=>?_) fun w16 e16=>?_
  ·simp only [Bool.and_eq_true] at hb
   have hto:=hb.1.1.1.2.1
   have hfr:=hb.1.1.2
   have hk4 : (zn u.ss g.tys p.to).1.k=4:=by have:=hb.1.2;simpa [isK] using this
   obtain rfl:=htt hto
   have hff:=htf hfr
   have htfe : (zn u.ss g.tys p.fr).1=tf:=by rw [hff]
   have hBf:=hBf hfr
   rw [htfe] at hBf hK2
   obtain ⟨uu,bo,oo,q2,cap2,hof,rfl,hBu,htu,hcc⟩:=inn ht2 ⟨_,hk4,.inr rfl⟩ (qD hf hto)
   rw [hof] at hK2
   have hl1 : (zn u.ss g.tys p.to).1.of.length=1:=by rw [hof];rfl
   refine gg_ ?_
   refine zt (n:=5) (c:=tyL uu q2 cap2) rfl (fun j v hj=>by simpa using S.at (hcc j v hj)) ?_
   refine S.ldB (b:=b12) ?_ rfl
   exact ali hBu hBf S htu ht11 fun w' e'=>hK2 _ e'
  have S:=S.go e16
  refine ai8 (m:=!p.mu) (x:=decide (yG 0 how<3)) (fun K2 hK2=>by refine gg_ ?_;exact hK2) (fun _ K2 hK2=>?_) fun w17 e17=>?_
  ·refine vz S.holds hhow (by omega) fun w7 e7=>?_
   refine gp_ ?_
   exact hK2 _ e7
  have:=h _ (S.go e17).ext
  rw [Bool.beq_eq_decide_eq,Bool.and_assoc]
  cases hfr : (zn u.ss g.tys p.fr).2.2 with
  |false=>
   rw [hfr] at this
   simp only [Bool.and_false,Bool.false_and] at this ⊢
   exact this
  |true=>
   have hm3:=ahh hst hf hfr
   have hff:=htf hfr
   have e1 : (zn u.ss g.tys p.fr).2.1=yG 0 how:=by rw [hff]
   rw [e1] at hm3
   rw [hfr,e1] at this
   have e2 : (!(p.mu&&decide (yG 0 how=3)))=(!p.mu||decide (yG 0 how<3)):=by
    rw [Bool.not_and,← decide_not]
    congr 1
    exact decide_eq_decide.2 (by omega)
   rw [e2] at this
   exact this
 refine gg_ ?_
 refine zj (fun hop=>?_) (fun hop=>?_)
 ·rw [ptG] at h
  simp only [hop,Int.reduceEq,if_false,if_true] at h
  have S:=S.go (Ext.drew _)
  refine S.ldB (b:=b3) ?_ rfl
  refine xe (f:={ to:=true,a:=true }) (by decide) (by decide) S.holds hpr fun w14 e14=>?_
  have S:=S.go e14
  refine zf (c:=(zn u.ss g.tys p.to).2.2&&decide ((zn u.ss g.tys p.to).2.1<3)) (fun _ K2 hK2=>hK2) ?_
  refine zf (c:=(zr u.ss g.tys p.a).2) (fun _ K2 hK2=>hK2) ?_
  refine zq (c:=isK (zn u.ss g.tys p.to).1 3) (fun hb K2 hK2=>?_) fun w15 e15=>?_
  ·simp only [Bool.and_eq_true] at hb
   obtain rfl:=htt hb.1.2.1
   refine S.ldB (b:=b6) ?_ rfl
   exact zR S.holds fun w' e'=>hK2 _ e'
  have S:=S.go e15
  refine zq (c:=zO yk ((zn u.ss g.tys p.to).1.of.headD yf) (zr u.ss g.tys p.a).1) (fun hb K2 hK2=>?_) fun w16 e16=>h _ (S.go e16).ext
  simp only [Bool.and_eq_true] at hb
  have hto:=hb.1.1.2.1
  have ha2:=hb.1.2
  have hk3 : (zn u.ss g.tys p.to).1.k=3:=by have:=hb.2;simpa [isK] using this
  obtain rfl:=htt hto
  obtain rfl:=hta ha2
  obtain ⟨uu,bo,oo,q2,cap2,hof,rfl,hBu,htu,hcc⟩:=inn ht2 ⟨_,hk3,.inl rfl⟩ (qD hf hto)
  rw [hof] at hK2
  have hl1 : (zn u.ss g.tys p.to).1.of.length=1:=by rw [hof];rfl
  refine gg_ ?_
  refine zt (n:=5) (c:=tyL uu q2 cap2) rfl (fun j v hj=>by simpa using S.at (hcc j v hj)) ?_
  refine S.ldB (b:=b8) ?_ rfl
  exact ali hBu (hBa ha2) S htu ht5 fun w' e'=>hK2 _ e'
 refine gg_ ?_
 refine zj (fun hop=>?_) (fun hop=>?_)
 ·rw [ptG] at h
  simp only [hop,Int.reduceEq,if_false,if_true] at h
  refine S.ldB (b:=b3) ?_ rfl
  refine xe (f:={ to:=true,args:=true,st:=true }) (by decide) (by decide) S.holds hpr fun w14 e14=>?_
  have S:=S.go e14
  refine gg_ ?_
  refine zk (c:=!((zn u.ss g.tys p.to).2.2&&decide ((zn u.ss g.tys p.to).2.1<3))) (fun _ K2 hK2=>by refine gg_ ?_;exact hK2) ?_
  refine xf (c:=!isK (zn u.ss g.tys p.to).1 5) (fun hb K2 hK2=>?_) fun w15 e15=>?_
  ·simp only [Bool.or_eq_false_iff,Bool.not_eq_false',Bool.and_eq_true] at hb
   obtain rfl:=htt hb.2.1
   refine S.ldB (b:=b6) ?_ rfl
   refine zR S.holds fun w' e'=>?_
   refine gp_ ?_
   exact hK2 _ e'
  have S:=S.go e15
  refine zk (c:=decide ((zn u.ss g.tys p.to).1.st≠p.st)) (fun hb K2 hK2=>?_) ?_
  ·simp only [Bool.or_eq_false_iff,Bool.not_eq_false',Bool.and_eq_true] at hb
   obtain rfl:=htt hb.1.2.1
   refine gg_ ?_
   exact hK2
  refine c_b (fun hc=>?_) (fun hc=>?_)
  ·rw [bb3 hc,Bool.false_and] at h
   exact h _ S.ext
  rw [ajX hc,Bool.true_and] at h
  simp only [Bool.or_eq_false_iff,Bool.not_eq_false',Bool.and_eq_true,decide_eq_false_iff_not] at hc
  obtain ⟨⟨⟨_,hto,_⟩,hk5⟩,hste⟩:=hc
  obtain rfl:=htt hto
  have S:=S.go (Ext.drew _)
  refine gg_ ?_
  refine zi (ld (i:=0) S rfl) ?_
  refine S.ldB (b:=b6) ?_ rfl
  refine abR S.holds hss.up (by omega) (fun k=>by have:=h8 k;omega) ht2 fun qx cx sn w16 e16 n16 hts=>?_
  obtain ⟨S,_,_⟩:=S.tell e16 n16
  refine gS_ ?_
  refine gg_ ?_
  have hfb : ∀ t ∈ (yz u.ss (zn u.ss g.tys p.to).1).1,isB t=true:=fun t ht=>by
   rw [yz] at ht
   split at ht
   ·exact Fine.is (ss:=u.ss) (hf.good _ t ht) h32
   ·cases ht
  have hfl8 : (yz u.ss (zn u.ss g.tys p.to).1).1.length≤8:=by
   rw [yz]
   split
   ·exact h8 _
   ·simp
  refine Jq (l:=p.args) S.holds hx0.up hst hf (k4.sl.up' inferInstance fun c x hx=>OpG.up hx) k4.few (TysG.up hts) (by simp only [maxLen];omega) hfb fun w17 e17=>?_
  exact h _ (S.go e17).ext
 refine gg_ ?_
 refine zj (fun hop=>?_) (fun hop=>?_)
 ·rw [ptG] at h
  simp only [hop,Int.reduceEq,if_false,if_true] at h
  have S:=S.go (Ext.drew _)
  refine S.ldB (b:=b3) ?_ rfl
  refine xe (f:={ to:=true,args:=true,fn:=true }) (by decide) (by decide) S.holds hpr fun w14 e14=>?_
  have S:=S.go e14
  refine gg_ ?_
  refine zk (c:=!((zn u.ss g.tys p.to).2.2&&decide ((zn u.ss g.tys p.to).2.1<3))) (fun _ K2 hK2=>by refine gg_ ?_;exact hK2) ?_
  refine zk (c:=decide (p.fn<0)) (fun _ K2 hK2=>by refine gg_ ?_;exact hK2) ?_
  refine zk (c:=decide ((u.fs.length : Int)≤p.fn)) (fun _ K2 hK2=>?_) ?_
  ·refine gg_ ?_
   refine zi (ld (i:=1) S rfl) ?_
   refine gg_ ?_
   exact hK2
  refine c_b (fun hc=>?_) (fun hc=>?_)
  ·rw [bb5 hc,Bool.false_and] at h
   exact h _ S.ext
  rw [ajY hc,Bool.true_and] at h
  simp only [Bool.or_eq_false_iff,Bool.not_eq_false',Bool.and_eq_true,decide_eq_false_iff_not] at hc
  obtain ⟨⟨⟨_,hto,_⟩,hfn0⟩,hfn1⟩:=hc
  obtain rfl:=htt hto
  have hltf : p.fn.toNat<u.fs.length:=by omega
  rw [List.getElem?_eq_getElem hltf] at h
  dsimp only at h
  obtain ⟨hpn0,hpn1,hff⟩:=hfs _ (List.getElem_mem hltf)
  obtain ⟨bf,of,cf,rfl,hcf,hgc,hfo⟩:=hfn.sl.get (by decide) hltf
  generalize u.fs[p.fn.toNat]=f at h hpn0 hpn1 hff hgc
  obtain ⟨vo,vt,vn,vp,rfl,m1,m2,m3,m4⟩:=hgc
  obtain ⟨qo,capo,rfl,_,_⟩:=m1.sl.shape
  obtain ⟨qt2,capt2,rfl,_,hct2⟩:=m2.sl.shape
  obtain ⟨qn,capn,rfl,_,_⟩:=m3.sl.shape
  obtain ⟨qp,capp,rfl,_,_⟩:=m4.sl.shape
  have hml:=m2.few
  have hml' : f.tys.length≤9223372036854775807:=hml
  have S:=S.go (Ext.drew _)
  refine gg_ ?_
  refine zi (ld (i:=1) S rfl) ?_
  refine gg_ ?_
  refine zt (n:=7) hcf (fun j v hj=>S.at (hfo j v hj)) ?_
  refine S.alU fun b18 w15 S=>?_
  refine S.stB (b:=b18) fun w16 S=>?_
  have S:=S.go (Ext.drew _)
  refine gg_ ?_
  have hlen : (f.pn+1).toNat - (1 : Int).toNat=((f.tys.drop 1).take f.pn.toNat).length:=by rw [List.length_take,List.length_drop];omega
  rw [hlen]
  have hsub:=(XO m2.sl).sub (a:=(1 : Int).toNat) (n:=f.pn.toNat) (cap:=capt2) hct2
  have hlst : (f.tys.drop (1 : Int).toNat).take f.pn.toNat=(f.tys.drop 1).take f.pn.toNat:=rfl
  rw [hlst] at hsub
  generalize (if capt2=(1 : Int).toNat then qt2 else qt2.map (·.add ((1 : Int).toNat*5)))=qs2 at hsub ⊢
  have hpb : ∀ t ∈ (f.tys.drop 1).take f.pn.toNat,isB t=true:=fun t ht=>(hff.all t (List.mem_of_mem_drop (List.mem_of_mem_take ht))).is h32
  refine Jq (l:=p.args) S.holds hx0.up hst hf (k4.sl.up' inferInstance fun c x hx=>OpG.up hx) k4.few (TysG.up hsub) (by rw [List.length_take,List.length_drop];omega) hpb fun w17 e17=>?_
  have S:=S.go e17
  have hpos : 0<f.tys.length:=by omega
  have hhd : f.tys.headD yf=f.tys[0]:=by rw [List.headD_eq_head?_getD,List.head?_eq_getElem?,List.getElem?_eq_getElem hpos,Option.getD_some]
  rw [hhd] at h
  refine zq (c:=zO yk (zn u.ss g.tys p.to).1 f.tys[0]) (fun _ K2 hK2=>?_) fun w18 e18=>?_
  ·obtain ⟨bt,ot,ct3,rfl,hct3,htc,hto3⟩:=XO m2.sl 0 hpos
   obtain ⟨q9,cap9,rfl,ht9⟩:=y6 hto3
   refine S.ldB (b:=b6) ?_ rfl
   refine gg_ ?_
   refine zt (n:=5) hct3 (fun j v hj=>by simpa using S.at (htc j v hj)) ?_
   exact ali (hBto hto) ((hff.all _ (List.getElem_mem hpos)).is h32) S ht2 ht9.up fun w' e'=>hK2 _ e'
  have:=h _ (S.go e18).ext
  rw [Bool.and_comm] at this
  exact this
 refine gg_ ?_
 refine zj (fun hop=>?_) (fun hop=>?_)
 ·rw [ptG] at h
  simp only [hop,Int.reduceEq,if_false,if_true] at h
  refine S.ldB (b:=b3) ?_ rfl
  refine xe (f:={ to:=true }) (by decide) (by decide) S.holds hpr fun w14 e14=>?_
  have S:=S.go e14
  refine zf (c:=(zn u.ss g.tys p.to).2.2&&decide ((zn u.ss g.tys p.to).2.1<3)) (fun _ K2 hK2=>hK2) ?_
  refine zq (c:=isK (zn u.ss g.tys p.to).1 1) (fun hb K2 hK2=>?_) fun w15 e15=>h _ (S.go e15).ext
  simp only [Bool.and_eq_true] at hb
  obtain rfl:=htt hb.2.1
  refine S.ldB (b:=b6) ?_ rfl
  exact zR S.holds fun w' e'=>hK2 _ e'
 refine gg_ ?_
 refine zj (fun hop=>?_) (fun hop=>?_)
 ·rw [ptG] at h
  simp only [hop,Int.reduceEq,if_false,if_true] at h
  refine S.ldB (b:=b3) ?_ rfl
  refine xe (f:={ a:=true }) (by decide) (by decide) S.holds hpr fun w14 e14=>?_
  have S:=S.go e14
  refine zf (c:=(zr u.ss g.tys p.a).2) (fun _ K2 hK2=>hK2) ?_
  refine zq (c:=isK (zr u.ss g.tys p.a).1 1) (fun hb K2 hK2=>?_) fun w15 e15=>h _ (S.go e15).ext
  simp only [Bool.and_eq_true] at hb
  obtain rfl:=hta hb.2
  refine S.ldB (b:=b8) ?_ rfl
  exact zR S.holds fun w' e'=>hK2 _ e'
 refine gg_ ?_
 refine zj (fun hop=>?_) (fun hop=>?_)
 ·rw [ptG] at h
  simp only [hop,Int.reduceEq,if_false,if_true] at h
  have S:=S.go (Ext.drew _)
  refine gg_ ?_
  refine zi (ld (i:=0) S rfl) ?_
  refine S.ldB (b:=b12) ?_ rfl
  refine adc S.holds hss.up (by omega) (fun k=>by have:=h8 k;omega) ht11 fun w14 e14=>?_
  have S:=S.go e14
  refine gS_ ?_
  refine S.ldB (b:=b3) ?_ rfl
  refine xe (f:={ fr:=true }) (by decide) (by decide) S.holds hpr fun w15 e15=>?_
  have S:=S.go e15
  refine zf (c:=(zn u.ss g.tys p.fr).2.2) (fun _ K2 hK2=>hK2) ?_
  refine zf (c:=(kN u.ss tf).1) (fun _ K2 hK2=>hK2) ?_
  refine zq (c:=decide (yG 0 how<2)) (fun _ K2 hK2=>?_) fun w16 e16=>?_
  ·refine vz S.holds hhow (by omega) fun w7 e7=>?_
   refine gp_ ?_
   exact hK2 _ e7
  have:=h _ (S.go e16).ext
  cases hfr : (zn u.ss g.tys p.fr).2.2 with
  |false=>
   rw [hfr] at this
   simp only [Bool.and_false,Bool.false_and] at this ⊢
   exact this
  |true=>
   rw [htf hfr] at this
   exact this
 refine gg_ ?_
 refine zj (fun hop=>?_) (fun hop=>?_)
 ·rw [ptG] at h
  simp only [hop,Int.reduceEq,if_false,if_true] at h
  refine S.ldB (b:=b3) ?_ rfl
  refine xe (f:={ fr:=true }) (by decide) (by decide) S.holds hpr fun w14 e14=>?_
  have S:=S.go e14
  refine zf (c:=(zn u.ss g.tys p.fr).2.2) (fun _ K2 hK2=>hK2) ?_
  refine zf (c:=decide (0<p.fr.l)) (fun _ K2 hK2=>by refine gg_ ?_;exact hK2) ?_
  refine zf (c:=decide (p.fr.ps.length=0)) (fun _ K2 hK2=>?_) (h _ S.ext)
  refine gg_ ?_
  rw [decide_eq_decide.2 (kB p.fr.ps.length)]
  exact hK2
 refine gg_ ?_
 refine zj (fun hop=>?_) (fun hop=>?_)
 ·rw [ptG] at h
  simp only [hop,Int.reduceEq,if_false,if_true] at h
  refine S.ldB (b:=b3) ?_ rfl
  refine xe (f:={ a:=true,el:=true }) (by decide) (by decide) S.holds hpr fun w14 e14=>?_
  have S:=S.go e14
  refine zf (c:=(zr u.ss g.tys p.a).2) (fun _ K2 hK2=>hK2) ?_
  refine zq (c:=isK (zr u.ss g.tys p.a).1 2) (fun hb K2 hK2=>?_) fun w15 e15=>?_
  ·simp only [Bool.and_eq_true] at hb
   obtain rfl:=hta hb.2
   refine S.ldB (b:=b8) ?_ rfl
   exact zR S.holds fun w' e'=>hK2 _ e'
  have S:=S.go e15
  refine zf (c:=decide (0≤p.el)) (fun _ K2 hK2=>by refine gg_ ?_;exact hK2) ?_
  refine zf (c:=decide (p.el<(g.pts.length : Int))) (fun _ K2 hK2=>by refine gg_ ?_;exact hK2) ?_
  have:=h _ S.ext
  rw [vU,← Bool.and_assoc] at this
  exact this
 intro K11 hK11
 refine gg_ ?_
 refine kz (c:=decide (p.op=14)) (hK11 _ _ fun _=>?_) fun _ hk=>?_
 rotate_left
 ·refine gg_ ?_;exact hk
 simp only [List.getD_cons_zero]
 rw [ptG] at h
 rw [if_neg (by omega),if_neg (by omega),if_neg (by omega),if_neg (by omega),if_neg (by omega),if_neg (by omega),if_neg (by omega),if_neg (by omega),if_neg (by omega),if_neg (by omega),if_neg (by omega),if_neg (by omega)] at h
 refine c_b (fun hh=>?_) (fun hh=>?_)
 ·have hh : p.op=13∨p.op=14:=by simpa using hh
  rw [if_pos hh] at h
  refine S.ldB (b:=b3) ?_ rfl
  refine xe (f:={}) (by decide) (by decide) S.holds hpr fun w14 e14=>?_
  exact h _ (S.go e14).ext
 ·have hh : ¬ (p.op=13∨p.op=14):=by simpa using hh
  rw [if_neg hh] at h
  exact h _ S.ext
end Go.Proofs
end
section
namespace Go.Sh
theorem aio {w : World} {b x y z : Bool} {A1 : (List Value→World→Prop)→Prop} {A2 A3 : (List Value→World→Prop)→World→Prop} {Z : Value→World→Prop}
  (h1 : b=true→∀ K : List Value→World→Prop,K [.bool x] w→A1 K) (h2 : b=true→∀ K : List Value→World→Prop,K [.bool y] w→A2 K w) (h3 : b=true→∀ K : List Value→World→Prop,K [.bool z] w→A3 K w)
  (hZ : Z (.bool (b&&(x||(y&&z)))) w) :
  za (fun K=>gIf (.bool b) true (A1 K) (K [undef] w)) fun s80 _ w82=>
   za (fun K=>gIf (s80.getD 0 undef) false (A2 K w82) (K [undef] w82)) fun s84 _ w86=>
    za (fun K=>gIf (s84.getD 0 undef) true (A3 K w86) (K [undef] w86)) fun s88 _ w90=>
     za (fun K=>gIf (s80.getD 0 undef) false (zb (s84.getD 0 undef) (s88.getD 0 undef) (.bool false) fun t=>K [t] w90) (K [undef] w90)) fun s92 _ w94=>
      za (fun K=>gIf (.bool b) true (zb (s80.getD 0 undef) (.bool true) (s92.getD 0 undef) fun t=>K [t] w94) (K [undef] w94)) fun s96 _ w98=>
       zb (.bool b) (s96.getD 0 undef) (.bool false) fun t=>Z t w98:=by
 cases b<;>cases x<;>cases y<;>cases z <;>
  (iterate 5 (intro K hK;first|refine hK _ _ fun _=>?_|refine h1 rfl _ (hK _ _ fun _=>?_)|refine h2 rfl _ (hK _ _ fun _=>?_)|refine h3 rfl _ (hK _ _ fun _=>?_)|refine ⟨_,rfl,hK _ _ fun _=>?_⟩)) <;>
  exact ⟨_,rfl,by simpa using hZ⟩
theorem aj1 {w : World} {b c d e : Bool} {A1 : (List Value→World→Prop)→Prop} {A2 A3 : (List Value→World→Prop)→World→Prop} {Z : Value→World→Prop}
  (h1 : ∀ K : List Value→World→Prop,K [.bool c] w→A1 K) (h2 : ∀ K : List Value→World→Prop,K [.bool d] w→A2 K w) (h3 : ∀ K : List Value→World→Prop,K [.bool e] w→A3 K w)
  (hZ : Z (.bool (b||((c&&d)&&e))) w) :
  za (fun K=>gIf (.bool b) false (A1 K) (K [undef] w)) fun s153 _ w155=>
   za (fun K=>gIf (s153.getD 0 undef) true (A2 K w155) (K [undef] w155)) fun s157 _ w159=>
    za (fun K=>gIf (.bool b) false (zb (s153.getD 0 undef) (s157.getD 0 undef) (.bool false) fun t=>K [t] w159) (K [undef] w159)) fun s161 _ w163=>
     za (fun K=>gIf (s161.getD 0 undef) true (A3 K w163) (K [undef] w163)) fun s165 _ w167=>
      za (fun K=>gIf (.bool b) false (zb (s161.getD 0 undef) (s165.getD 0 undef) (.bool false) fun t=>K [t] w167) (K [undef] w167)) fun s169 _ w171=>
       zb (.bool b) (.bool true) (s169.getD 0 undef) fun t=>Z t w171:=by
 cases b<;>cases c<;>cases d<;>cases e <;>
  (iterate 5 (intro K hK;first|refine hK _ _ fun _=>?_|refine h1 _ (hK _ _ fun _=>?_)|refine h2 _ (hK _ _ fun _=>?_)|refine h3 _ (hK _ _ fun _=>?_)|refine ⟨_,rfl,hK _ _ fun _=>?_⟩)) <;>
  exact ⟨_,rfl,by simpa using hZ⟩
end Go.Sh
namespace Go.Proofs
open Go.Sh
set_option maxRecDepth 100000
set_option linter.unusedSimpArgs false
set_option linter.unusedVariables false
set_option maxHeartbeats 1000000 in
theorem aeE {bt : Nat} {M : List Asr} {w0 : World} {r : Gh} {t : TyD} {v : Value} {f : Nat→Nat→Bool} {w : World} {K : Value→World→Prop} (hv : TyG r v t) (hx : ∀ x ∈ regsT t,0≤x∧x<8)
  (S : StX noX w0 r w (.cell bt (zK f) 200::M))
  (h : ∀ w',StX noX w0 r w' (.cell bt (zK (X5 f (regsT t))) 200::M)→K (.tuple #[]) w') : zd Tryz.prog Tryz.Yo #[v,.pointer (some ⟨bt,0,none⟩)] w K:=by
 refine Tryz.adj ?_
 unfold Tryz.Ji
 have hv0:=hv
 obtain ⟨p1,cap1,rfl,_⟩:=hv
 refine S.box fun b2 w1 S=>?_
 have S : StX noX w0 r w1 (.cell b2 (tyL t p1 cap1) 138 :: .cell bt (zK f) 200::M):=S
 refine S.ldB (b:=b2) ?_ rfl
 refine Xb S.holds hv0 fun v7 w7 e7 o7=>?_
 obtain ⟨s1,p7,cap7,n7,nb7,rfl,_,hc7,hs7⟩:=ad6 o7
 have S:=(S.new e7 n7).tl
 have hr48 : (regsT t).length≤1000:=by
  rw [regsT];split
  ·have:=Xd (by assumption);omega
  ·simp
 generalize regsT t=l at hx h hs7 hr48 ⊢
 refine zh (ι:=Nat × (Nat→Nat→Bool)) (fun i=>[.int .i64 (i.1 : Nat)]) (fun i w'=>i.1≤l.length∧(∀ x y : Nat,X5 i.2 (l.drop i.1) x y=X5 f l x y)∧StX noX w0 (r.or s1) w' (.cell bt (zK i.2) 200::M)) (fun i=>l.length - i.1) (0,f) rfl ⟨Nat.zero_le _,fun x y=>rfl,S⟩ ?_
 clear S
 rintro ⟨i,g⟩ d w2 ⟨hi,hbit,S⟩ K3 hK3
 simp only at hi hbit S ⊢
 rw [List.getD_cons_zero]
 refine gg_ ?_
 refine zj (fun hlt=>?_) (fun hge=>?_)
 rotate_left
 ·have hie : i=l.length:=by omega
  refine h _ ?_
  have e : zK g=zK (X5 f l):=yF fun x y _ _=>by
   have:=hbit x y
   rw [hie,List.drop_length] at this
   rw [← this]
   show g x y=(g x y||kE x y [])
   rw [kE,Bool.or_false]
  rw [← e]
  exact S.to r
 have hlt : i<l.length:=by omega
 have hdrop : l.drop i=l[i]::l.drop (i+1):=List.drop_eq_getElem_cons hlt
 obtain ⟨ha0,ha8⟩:=hx _ (List.getElem_mem hlt)
 obtain ⟨bq,oq,rfl,hxi⟩:=agq hs7 (S.holds.le (h:=inferInstance)) hlt
 generalize hai : l[i]=a at hdrop ha0 ha8 hxi
 have hrl : (l.drop (i+1)).length=l.length - (i+1):=List.length_drop
 refine gg_ ?_
 refine zh (ι:=Nat) (fun j=>[.int .i64 ((i : Int)+1+(j : Nat))]) (fun j w'=>j≤(l.drop (i+1)).length∧StX noX w0 (r.or s1) w' (.cell bt (zK (ZS g a ((l.drop (i+1)).take j))) 200::M)) (fun j=>(l.drop (i+1)).length - j) 0 (by simp) ⟨Nat.zero_le _,by
  rw [yF (f:=ZS g a ((l.drop (i+1)).take 0)) (g:=g) (fun x y _ _=>by simp [ZS])]
  exact S⟩ ?_
 clear S
 rintro j d w3 ⟨hj,S⟩ K7 hK7
 rw [List.getD_cons_zero]
 refine gg_ ?_
 refine zj (fun hlt2=>?_) (fun hge2=>?_)
 ·have hlt2 : j<(l.drop (i+1)).length:=by omega
  have hlt3 : i+1+j<l.length:=by omega
  have hel : (l.drop (i+1))[j]=l[i+1+j]:=List.getElem_drop
  obtain ⟨bk,ok,hbe,hxk⟩:=agq hs7 (S.holds.le (h:=inferInstance)) hlt3
  cases hbe
  obtain ⟨hi0,hi8⟩:=hx _ (List.getElem_mem hlt3)
  have S:=S.go (Ext.drew _)
  rw [show ((i : Int)+1+(j : Nat))=((i+1+j : Nat) : Int) by omega]
  refine gg_ ?_
  refine zi (by rw [Int.toNat_natCast];exact S.at hxk) ?_
  refine gg_ ?_
  refine zi (by simpa using S.at hxi) ?_
  refine gg_ ?_
  refine S.st (b:=bt) (fun w4 S=>?_) (by rw [jB];omega)
  refine gg_ ?_
  rw [show (((i+1+j : Nat) : Int)+1)=((i : Int)+1+((j+1 : Nat) : Int)) by omega]
  refine hK7 (j+1) _ ⟨hlt2,?_⟩ (by omega)
  rw [show 0+l[i+1+j].toNat*8+a.toNat*1=l[i+1+j].toNat*8+a.toNat by omega,X3 (by omega) (by omega)] at S
  rw [yF (f:=ZS g a ((l.drop (i+1)).take (j+1))) (g:=fun x y=>ZS g a ((l.drop (i+1)).take j) x y||(decide (x=l[i+1+j].toNat)&&decide (y=a.toNat))) (fun x y _ _=>by
   show (g x y||(decide (a=(y : Int))&&((l.drop (i+1)).take (j+1)).contains (x : Int)))=((g x y||(decide (a=(y : Int))&&((l.drop (i+1)).take j).contains (x : Int)))||(decide (x=l[i+1+j].toNat)&&decide (y=a.toNat)))
   rw [aep hlt2,hel,show decide ((x : Int)=l[i+1+j])=decide (x=l[i+1+j].toNat) from decide_eq_decide.2 (by omega),show decide (a=(y : Int))=decide (y=a.toNat) from decide_eq_decide.2 (by omega)]
   cases g x y<;>cases decide (y=a.toNat)<;>cases ((l.drop (i+1)).take j).contains (x : Int)<;>cases decide (x=l[i+1+j].toNat)<;>rfl)]
  exact S
 ·have hje : j=(l.drop (i+1)).length:=by omega
  rw [hje,List.take_length] at S
  refine gg_ ?_
  rw [show ((i : Int)+1)=((i+1 : Nat) : Int) by omega]
  refine hK3 (i+1,ZS g a (l.drop (i+1))) _ ⟨hlt,fun x y=>?_,S⟩ (by simp only;omega)
  rw [← hbit x y,hdrop]
  show ((g x y||(decide (a=(y : Int))&&(l.drop (i+1)).contains (x : Int)))||kE x y (l.drop (i+1)))=(g x y||kE x y (a::l.drop (i+1)))
  rw [acD,Bool.or_assoc]
end Go.Proofs
end
section
namespace Go.Proofs
open Go.Sh
set_option maxRecDepth 100000
set_option linter.unusedSimpArgs false
set_option linter.unusedVariables false
set_option maxHeartbeats 8000000 in
theorem aeF {u : UnD} {i : Nat} {v : Value} {w : World} {r : Gh} {K : Value→World→Prop} (hi : i<u.fs.length) (hok : (zw u.ss).2=0) (hr : Holds r w) (hu : UnG r v u)
  (h : ∀ w',Ext w w'→K (.bool (yM u i u.fs[i])) w') : zd Tryz.prog Tryz.Yn #[v,.int .i64 (i : Nat)] w K:=by
 obtain ⟨p0,cap0,vf,rfl,_,_,hst,hsl,hfn⟩:=hu
 obtain ⟨qf,capf,rfl,_,_⟩:=hfn.sl.shape
 obtain ⟨bf,of,cf,rfl,hcf,hgc,hfo⟩:=hfn.sl.get (by decide) hi
 have hfl : u.fs.length≤9223372036854775807:=hfn.few
 refine Tryz.adi ?_
 unfold Tryz.Jh
 generalize hgi : u.fs[i]=g at h hgc
 obtain ⟨vo,vt,vn,vp,rfl,h1,h2,h3,h4⟩:=id hgc
 obtain ⟨qo,capo,rfl,_,_⟩:=h1.sl.shape
 obtain ⟨qt,capt,rfl,_,hct⟩:=h2.sl.shape
 obtain ⟨qn,capn,rfl,_,_⟩:=h3.sl.shape
 obtain ⟨qp,capp,rfl,_,_⟩:=h4.sl.shape
 have hptl : g.pts.length≤9223372036854775807:=h4.few
 have htl : g.tys.length≤9223372036854775807:=h2.few
 have hol : g.outs.length≤9223372036854775807:=h1.few
 have S:=St.start hr
 refine S.box fun b2 w1 S=>?_
 have S : StX noX w r w1 [.cell b2 [.slice p0 u.ss.length cap0,.slice (some ⟨bf,of,none⟩) u.fs.length capf,.int .i64 u.mn] 25]:=S
 refine gg_ ?_
 refine zt (n:=7) hcf (fun j v hj=>by rw [Int.toNat_natCast];exact S.at (hfo j v hj)) ?_
 refine S.al fun b5 w2 S=>?_
 refine S.stB (b:=b5) fun w3 S=>?_
 have S : StX noX w r w3 [.cell b5 [.string g.name,.int .i64 g.lv,.slice qo g.outs.length capo,.int .i64 g.pn,.slice qt g.tys.length capt,.slice qn g.nms.length capn,.slice qp g.pts.length capp] 38,
  .cell b2 [.slice p0 u.ss.length cap0,.slice (some ⟨bf,of,none⟩) u.fs.length capf,.int .i64 u.mn] 25]:=S
 refine gg_ ?_
 have no : (HeadU u i g→False)→yM u i g=false:=fun hh=>by
  cases e : yM u i g
  ·rfl
  ·exact (hh (aa2 e)).elim
 refine zk (c:=decide (8<g.lv)) (fun _ K2 hK2=>by refine gg_ ?_;exact hK2) ?_
 refine zk (c:=decide (g.pn<0)) (fun _ K2 hK2=>by refine gg_ ?_;exact hK2) ?_
 refine zk (c:=decide (8<g.pn)) (fun _ K2 hK2=>by refine gg_ ?_;exact hK2) ?_
 refine zk (c:=decide ((g.tys.length : Int)≤g.pn)) (fun _ K2 hK2=>by refine gg_ ?_;exact hK2) ?_
 refine zk (c:=decide (512<g.tys.length)) (fun _ K2 hK2=>?_) ?_
 ·refine gg_ ?_
  rw [show decide ((512 : Int)<(g.tys.length : Int))=decide (512<g.tys.length) from decide_eq_decide.2 (by omega)]
  exact hK2
 refine zk (c:=decide (g.nms.length≠g.tys.length)) (fun _ K2 hK2=>?_) ?_
 ·refine gg_ ?_
  rw [aa3]
  exact hK2
 refine c_b (fun hbad=>?_) (fun hgood=>?_)
 ·rw [no fun H=>by
   have:=H.lv0;have:=H.lv8;have:=H.pn0;have:=H.pn8;have:=H.pn1;have:=H.ty512;have:=H.nms
   simp only [Bool.or_eq_true,decide_eq_true_eq] at hbad;omega] at h
  exact h _ S.ext
 have hnum : (0≤g.lv∧g.lv≤8∧0≤g.pn∧g.pn≤8)∧g.pn<g.tys.length∧g.tys.length≤512∧g.nms.length=g.tys.length:=by
  simp only [Bool.or_eq_false_iff,decide_eq_false_iff_not] at hgood;omega
 clear hgood
 obtain ⟨⟨hlv0,hlv8,hpn0,hpn8⟩,hpn1,hty,hnm⟩:=hnum
 refine zh (ι:=Nat) (fun i=>[.int .i64 (i : Nat)]) (fun j w'=>j≤g.tys.length∧qC u g j (g.tys.drop j)=qC u g 0 g.tys∧StX noX w r w' [.cell b5 [.string g.name,.int .i64 g.lv,.slice qo g.outs.length capo,.int .i64 g.pn,.slice qt g.tys.length capt,.slice qn g.nms.length capn,.slice qp g.pts.length capp] 38,
  .cell b2 [.slice p0 u.ss.length cap0,.slice (some ⟨bf,of,none⟩) u.fs.length capf,.int .i64 u.mn] 25]) (fun i=>g.tys.length - i) 0 rfl ⟨Nat.zero_le _,rfl,S⟩ ?_
 clear S
 rintro j d w5 ⟨hj,hd,S⟩ K6 hK6
 rw [List.getD_cons_zero]
 refine gg_ ?_
 refine zj (fun hlt=>?_) (fun hge=>?_)
 ·have hlt : j<g.tys.length:=by omega
  obtain ⟨bt,ot,ct,rfl,hct,htc,hcell⟩:=h2.sl.get (by decide) hlt
  obtain ⟨q2,cap2,rfl,ht2⟩:=y6 htc
  rw [acJ hlt] at hd
  have S:=S.go (Ext.drew _)
  refine gg_ ?_
  refine zt (n:=5) hct (fun j v hj=>by rw [Int.toNat_natCast];exact S.at (hcell j v hj)) ?_
  refine gg_ ?_
  refine vv 48 (by decide) S.holds ht2 fun w8 e8=>?_
  have S:=S.go e8
  rw [aey]
  refine gp_ ?_
  have hmay : zY u.ss g.tys[j]=zB u.ss.length 48 g.tys[j]:=by rw [zY,decide_eq_true hok,Bool.true_and]
  rw [← hmay]
  refine c_b (fun hm=>?_) (fun hm=>?_)
  ·have hm : zY u.ss g.tys[j]=false:=by simpa using hm
   rw [no fun H=>by
    have:=H.tys
    rw [← hd,tyG,hm,Bool.false_and,Bool.false_and] at this;cases this] at h
   exact h _ S.ext
  have hm : zY u.ss g.tys[j]=true:=by simpa using hm
  refine gg_ ?_
  refine zt (n:=5) hct (fun j v hj=>by rw [Int.toNat_natCast];exact S.at (hcell j v hj)) ?_
  refine Xb S.holds ht2 fun v7 w12 e12 o12=>?_
  obtain ⟨s7,p7,cap7,n7,nb7,rfl,_,_,hs7⟩:=ad6 o12
  have S:=S.new e12 n7
  have hlow : ∀ x ∈ regsT g.tys[j],-1≤x:=fun x hx=>by
   rw [regsT] at hx
   split at hx
   ·exact aic 48 (YC hm).2 x hx
   ·cases hx
  have hr48 : (regsT g.tys[j]).length≤1000:=by
   rw [regsT];split
   ·have:=Xd (by assumption);omega
   ·simp
  have hty2 : tyG u g j g.tys[j] = !((regsT g.tys[j]).any fun x=>decide (g.lv≤x)||(decide ((j : Int)≤g.pn)&&decide (x<0))):=by
   rw [afL,hm,Bool.true_and]
   congr 1
   rw [Bool.eq_iff_iff,List.any_eq_true,List.any_eq_true]
   constructor<;>rintro ⟨x,hx,hc⟩<;>refine ⟨x,hx,?_⟩<;>have:=hlow x hx<;>simp only [Bool.or_eq_true,Bool.and_eq_true,decide_eq_true_eq] at hc ⊢
   ·rcases hc with hc|hc
    ·split at hc
     ·exact .inr ⟨by assumption,hc⟩
     ·omega
    ·exact .inl hc
   ·rcases hc with hc|⟨hc,hc2⟩
    ·exact .inr hc
    ·rw [if_pos hc];exact .inl hc2
  generalize regsT g.tys[j]=l at hs7 hr48 hty2 ⊢
  refine zh (ι:=Nat) (fun k=>[.int .i64 (k : Nat)]) (fun k w'=>k≤l.length∧((l.take k).any fun x=>decide (g.lv≤x)||(decide ((j : Int)≤g.pn)&&decide (x<0)))=false∧StX noX w (r.or s7) w' [.cell b5 [.string g.name,.int .i64 g.lv,.slice qo g.outs.length capo,.int .i64 g.pn,.slice (some ⟨bt,ot,none⟩) g.tys.length capt,.slice qn g.nms.length capn,.slice qp g.pts.length capp] 38,
   .cell b2 [.slice p0 u.ss.length cap0,.slice (some ⟨bf,of,none⟩) u.fs.length capf,.int .i64 u.mn] 25]) (fun k=>l.length - k) 0 rfl ⟨Nat.zero_le _,by simp,S⟩ ?_
  clear S
  rintro k d w13 ⟨hk,hany,S⟩ K7 hK7
  rw [List.getD_cons_zero]
  refine gg_ ?_
  refine zj (fun hlt2=>?_) (fun hge2=>?_)
  ·have hlt2 : k<l.length:=by omega
   obtain ⟨bk,ok,rfl,hxk⟩:=agq hs7 (S.holds.le (h:=inferInstance)) hlt2
   have S:=S.go (Ext.drew _)
   refine gg_ ?_
   refine zi (by simpa using S.at hxk) ?_
   refine gg_ ?_
   refine vV (g:=decide ((j : Int)≤g.pn)) (c:=decide (l[k]<0)) (fun _ K2 hK2=>by refine gg_ ?_;exact hK2) (fun _ K2 hK2=>?_) ?_
   ·refine gg_ ?_
    refine zi (by simpa using S.at hxk) ?_
    refine gg_ ?_
    exact hK2
   refine c_b (fun hbad=>?_) (fun hgood=>?_)
   ·have hA : (l.any fun x=>decide (g.lv≤x)||(decide ((j : Int)≤g.pn)&&decide (x<0)))=true:=List.any_eq_true.2 ⟨_,List.getElem_mem hlt2,hbad⟩
    rw [hty2,hA,Bool.not_true,Bool.false_and] at hd
    rw [no fun H=>by have:=H.tys;rw [← hd] at this;cases this] at h
    exact h _ S.ext
   ·refine gg_ ?_
    rw [show ((k : Int)+1)=((k+1 : Nat) : Int) by omega]
    refine hK7 (k+1) _ ⟨hlt2,?_,S⟩ (by omega)
    rw [List.take_succ_eq_append_getElem hlt2,List.any_append,hany]
    simp only [List.any_cons,List.any_nil,Bool.false_or,Bool.or_false]
    exact hgood
  ·have hke : k=l.length:=by omega
   rw [hke,List.take_length] at hany
   rw [hty2,hany,Bool.not_false,Bool.true_and] at hd
   refine gg_ ?_
   rw [show ((j : Int)+1)=((j+1 : Nat) : Int) by omega]
   exact hK6 (j+1) _ ⟨hlt,hd,S.to r⟩ (by omega)
 have hje : j=g.tys.length:=by omega
 rw [hje,List.drop_length] at hd
 have htys : qC u g 0 g.tys=true:=hd.symm
 clear hd hK6 K6 hge hj hje
 refine S.al fun b9 w20 S=>?_
 refine S.al fun b10 w21 S=>?_
 have S : StX noX w r w21 [.cell b9 (zK fun _ _=>false) 200,.cell b10 (zK fun _ _=>false) 200,.cell b5 [.string g.name,.int .i64 g.lv,.slice qo g.outs.length capo,.int .i64 g.pn,.slice qt g.tys.length capt,.slice qn g.nms.length capn,.slice qp g.pts.length capp] 38,
  .cell b2 [.slice p0 u.ss.length cap0,.slice (some ⟨bf,of,none⟩) u.fs.length capf,.int .i64 u.mn] 25]:=S.swap
 refine zh (ι:=Nat) (fun i=>[.int .i64 (i : Nat)]) (fun j w'=>j≤g.pn.toNat+1∧StX noX w r w' [.cell b9 (zK (muF (g.tys.take j))) 200,.cell b10 (zK fun _ _=>false) 200,.cell b5 [.string g.name,.int .i64 g.lv,.slice qo g.outs.length capo,.int .i64 g.pn,.slice qt g.tys.length capt,.slice qn g.nms.length capn,.slice qp g.pts.length capp] 38,
  .cell b2 [.slice p0 u.ss.length cap0,.slice (some ⟨bf,of,none⟩) u.fs.length capf,.int .i64 u.mn] 25]) (fun i=>g.pn.toNat+1 - i) 0 rfl ⟨Nat.zero_le _,by
   rw [yF (f:=muF (g.tys.take 0)) (g:=fun _ _=>false) (fun x y _ _=>by simp [muF,jy])]
   exact S⟩ ?_
 clear S
 rintro j d w22 ⟨hj,S⟩ K6 hK6
 rw [List.getD_cons_zero]
 refine gg_ ?_
 refine zj (fun hlt=>?_) (fun hge=>?_)
 ·have hlt : j<g.tys.length:=by omega
  obtain ⟨bt,ot,ct,rfl,hct,htc,hcell⟩:=h2.sl.get (by decide) hlt
  obtain ⟨q2,cap2,rfl,ht2⟩:=y6 htc
  refine gg_ ?_
  refine zt (n:=5) hct (fun j v hj=>by rw [Int.toNat_natCast];exact S.at (hcell j v hj)) ?_
  have hreg : ∀ x ∈ regsT g.tys[j],0≤x∧x<8:=fun x hx=>by
   have:=V8 htys (j:=j) hlt (by omega) x hx
   omega
  refine aeE ht2 hreg S fun w23 S=>?_
  refine gg_ ?_
  rw [show ((j : Int)+1)=((j+1 : Nat) : Int) by omega]
  refine hK6 (j+1) _ ⟨by omega,?_⟩ (by omega)
  rw [yF (f:=muF (g.tys.take (j+1))) (g:=X5 (muF (g.tys.take j)) (regsT g.tys[j])) (fun x y _ _=>acE hlt)]
  exact S
 have hje : j=g.pn.toNat+1:=by omega
 rw [hje] at S
 clear hK6 K6 hge hj hje
 have hout : qT g=true↔kY g.lv none g.outs=true∧(List.range g.lv.toNat).all (clF g.lv.toNat (muF (g.tys.take (g.pn.toNat+1))) (syF g.outs))=true:=by
  rw [qT,← acH,afK,Bool.and_eq_true]
 have nout : qT g=false→yM u i g=false:=fun e=>no fun H=>by have:=H.outs;rw [e] at this;cases this
 generalize hmu : muF (g.tys.take (g.pn.toNat+1))=mu at hout S
 refine zh (ι:=Nat) (fun i=>[.int .i64 (i : Nat)]) (fun i w'=>i≤g.outs.length∧kY g.lv (qg g.outs i) (g.outs.drop i)=kY g.lv none g.outs∧
  StX noX w r w' [.cell b9 (zK mu) 200,.cell b10 (zK (syF (g.outs.take i))) 200,.cell b5 [.string g.name,.int .i64 g.lv,.slice qo g.outs.length capo,.int .i64 g.pn,.slice qt g.tys.length capt,.slice qn g.nms.length capn,.slice qp g.pts.length capp] 38,
  .cell b2 [.slice p0 u.ss.length cap0,.slice (some ⟨bf,of,none⟩) u.fs.length capf,.int .i64 u.mn] 25]) (fun i=>g.outs.length - i) 0 rfl
  ⟨Nat.zero_le _,rfl,by
   rw [yF (f:=syF (g.outs.take 0)) (g:=fun _ _=>false) (fun x y _ _=>by simp [syF,qS])]
   exact S⟩ ?_
 clear S
 rintro k d w24 ⟨hk,hd,S⟩ K6 hK6
 rw [List.getD_cons_zero]
 refine gg_ ?_
 refine zj (fun hlt=>?_) (fun hge=>?_)
 ·have hlt : k<g.outs.length:=by omega
  obtain ⟨bo,oo,co,rfl,hco,hoo,hoc⟩:=h1.sl.get (by decide) hlt
  obtain rfl : co=_:=hoo
  rw [aer hlt] at hd
  have hgo:=fun (j : Nat) (hj : j<g.outs.length)=>h1.sl.get (by decide) hj
  obtain ⟨⟨o1,o2⟩,ho⟩ : ∃ o,g.outs[k]=o:=⟨_,rfl⟩
  rw [ho] at hd
  have hst : syF (g.outs.take (k+1))=fun x y=>syF (g.outs.take k) x y||(decide ((x : Int)=o1)&&decide ((y : Int)=o2)):=by
   funext x y
   show qS _ _ _=(qS _ _ _||_)
   rw [acF hlt,ho]
  have hno : kY g.lv none g.outs=false→∀ w',Ext w w'→K (.bool false) w':=fun e w' ew=>by
   have:=h w' ew
   rw [nout (by
    cases ho : qT g with
    |false=>rfl
    |true=>rw [(hout.1 ho).1] at e;cases e)] at this
   exact this
  refine gg_ ?_
  refine zt (n:=2) hco (fun j v hj=>by rw [Int.toNat_natCast];exact S.at (hoc j v hj)) ?_
  rw [ho]
  refine S.al fun b13 w25 S=>?_
  refine S.stB (b:=b13) fun w26 S=>?_
  refine gg_ ?_
  refine zk (c:=decide (g.lv≤o1)) (fun _ K2 hK2=>by refine gg_ ?_;exact hK2) ?_
  refine zk (c:=decide (o2<0)) (fun _ K2 hK2=>by refine gg_ ?_;exact hK2) ?_
  refine zk (c:=decide (g.lv≤o2)) (fun _ K2 hK2=>by refine gg_ ?_;exact hK2) ?_
  refine zk (c:=decide (o1=o2)) (fun _ K2 hK2=>by refine gg_ ?_;exact hK2) ?_
  have hio : km g.lv (o1,o2) = !((((decide (o1<0)||decide (g.lv≤o1))||decide (o2<0))||decide (g.lv≤o2))||decide (o1=o2)):=by
   rw [km]
   congr 1
   rw [Bool.eq_iff_iff]
   simp only [Bool.or_eq_true,decide_eq_true_eq]
   omega
  refine c_b (fun hbad=>?_) (fun hgood=>?_)
  ·rw [hio,hbad,Bool.not_true,Bool.false_and,Bool.false_and] at hd
   exact hno hd.symm _ S.ext
  rw [hio,hgood,Bool.not_false,Bool.true_and] at hd
  have hrg : (0≤o1∧o1<8)∧(0≤o2∧o2<8):=by
   simp only [Bool.or_eq_false_iff,decide_eq_false_iff_not] at hgood;omega
  clear hgood hio
  obtain ⟨⟨ho10,ho18⟩,ho20,ho28⟩:=hrg
  have S:=S.go (Ext.drew _)
  obtain ⟨⟨p1,p2⟩,hp⟩ : ∃ o,(g.outs[k - 1]?).getD (0,0)=o:=⟨_,rfl⟩
  have hpv : 0<k→∃ (hl : k - 1<g.outs.length),g.outs[k - 1]=(p1,p2):=fun hpos=>by
   have hl : k - 1<g.outs.length:=by omega
   rw [List.getElem?_eq_getElem hl] at hp
   exact ⟨hl,hp⟩
  have hprev : 0<k→∀ j v,[Value.int .i64 p1,.int .i64 p2][j]? = some v→Ob r fun w=>w.cell? ⟨bo,oo+(k - 1)*2+j,none⟩=some v:=fun hpos j v hj=>by
   obtain ⟨hl,he⟩:=hpv hpos
   obtain ⟨bo2,oo2,co2,hbe,hco2,hoo2,hoc2⟩:=h1.sl.get (by decide) hl
   obtain rfl : co2=_:=hoo2
   cases hbe
   rw [he] at hoc2
   exact hoc2 j v hj
  refine gg_ ?_
  refine aio (x:=decide (o1<p1)) (y:=decide (p1=o1)) (z:=decide (o2≤p2)) (fun hb K2 hK2=>?_) (fun hb K2 hK2=>?_) (fun hb K2 hK2=>?_) ?_
  ·have hpos : 0<k:=by simp only [decide_eq_true_eq] at hb;omega
   refine gg_ ?_
   refine zi (v:=.int .i64 p1) (by rw [show ((k : Int) - 1).toNat=k - 1 by omega];simpa using S.at (hprev hpos 0 _ rfl)) ?_
   refine gg_ ?_
   exact hK2
  ·have hpos : 0<k:=by simp only [decide_eq_true_eq] at hb;omega
   refine gg_ ?_
   refine zi (v:=.int .i64 p1) (by rw [show ((k : Int) - 1).toNat=k - 1 by omega];simpa using S.at (hprev hpos 0 _ rfl)) ?_
   refine gg_ ?_
   exact hK2
  ·have hpos : 0<k:=by simp only [decide_eq_true_eq] at hb;omega
   refine gg_ ?_
   refine zi (v:=.int .i64 p2) (by rw [show ((k : Int) - 1).toNat=k - 1 by omega];exact S.at (hprev hpos 1 _ rfl)) ?_
   refine gg_ ?_
   exact hK2
  rw [not_lt (o:=(o1,o2)) (w:=(p1,p2))]
  have haft : ago (qg g.outs k) (o1,o2) = !(decide ((k : Int) > 0) && !vj (p1,p2) (o1,o2)):=by
   by_cases hpos : 0<k
   ·obtain ⟨hl,he⟩:=hpv hpos
    rw [qg,if_neg (by omega),List.getElem?_eq_getElem hl,he,decide_eq_true (show (k : Int) > 0 by omega),Bool.true_and,Bool.not_not];rfl
   ·rw [qg,if_pos (by omega),decide_eq_false (show ¬ (k : Int) > 0 by omega)];rfl
  refine c_b (fun hb=>?_) (fun hb=>?_)
  ·rw [haft,hb,Bool.not_true,Bool.false_and] at hd
   exact hno hd.symm _ S.ext
  rw [haft,hb,Bool.not_false,Bool.true_and] at hd
  have S:=S.go (Ext.drew _)
  refine gg_ ?_
  refine S.st (b:=b10) (fun w27 S=>?_) (by rw [jB];omega)
  refine gg_ ?_
  rw [show ((k : Int)+1)=((k+1 : Nat) : Int) by omega]
  refine hK6 (k+1) _ ⟨hlt,hd,?_⟩ (by omega)
  rw [show 0+o1.toNat*8+o2.toNat*1=o1.toNat*8+o2.toNat by omega,X3 (by omega) (by omega)] at S
  rw [hst,yF (f:=fun x y=>syF (g.outs.take k) x y||(decide ((x : Int)=o1)&&decide ((y : Int)=o2))) (g:=fun x y=>syF (g.outs.take k) x y||(decide (x=o1.toNat)&&decide (y=o2.toNat))) (fun x y _ _=>by
   show (syF (g.outs.take k) x y||(decide ((x : Int)=o1)&&decide ((y : Int)=o2)))=(syF (g.outs.take k) x y||(decide (x=o1.toNat)&&decide (y=o2.toNat)))
   rw [show decide ((x : Int)=o1)=decide (x=o1.toNat) from decide_eq_decide.2 (by omega),show decide ((y : Int)=o2)=decide (y=o2.toNat) from decide_eq_decide.2 (by omega)])]
  exact S.drop b13
 have hke : k=g.outs.length:=by omega
 rw [hke,List.take_length] at S
 rw [hke,List.drop_length] at hd
 have hoR : kY g.lv none g.outs=true:=by rw [← hd];rfl
 clear hd hK6 K6 hge hk hke
 generalize hsy : syF g.outs=sy at hout S
 obtain ⟨n,hn⟩ : ∃ n : Nat,g.lv.toNat=n:=⟨_,rfl⟩
 have hn8 : n≤8:=by omega
 have hlvn : g.lv=(n : Int):=by omega
 rw [hn] at hout
 have hno : (List.range n).all (clF n mu sy)=false→∀ w',Ext w w'→K (.bool false) w':=fun e w' ew=>by
  have:=h w' ew
  rw [nout (by
   cases ho : qT g with
   |false=>rfl
   |true=>rw [(hout.1 ho).2] at e;cases e)] at this
  exact this
 refine zh (ι:=Nat) (fun i=>[.int .i64 (i : Nat)]) (fun i w'=>i≤n∧((List.range n).drop i).all (clF n mu sy)=(List.range n).all (clF n mu sy)∧
  StX noX w r w' [.cell b9 (zK mu) 200,.cell b10 (zK sy) 200,.cell b5 [.string g.name,.int .i64 g.lv,.slice qo g.outs.length capo,.int .i64 g.pn,.slice qt g.tys.length capt,.slice qn g.nms.length capn,.slice qp g.pts.length capp] 38,
  .cell b2 [.slice p0 u.ss.length cap0,.slice (some ⟨bf,of,none⟩) u.fs.length capf,.int .i64 u.mn] 25]) (fun i=>n - i) 0 rfl ⟨Nat.zero_le _,rfl,S⟩ ?_
 clear S
 rintro a d2 w30 ⟨ha,hda,S⟩ K7 hK7
 rw [List.getD_cons_zero]
 refine gg_ ?_
 rw [hlvn]
 refine zj (fun hlta=>?_) (fun hgea=>?_)
 ·have hlta : a<n:=by omega
  rw [jR hlta] at hda
  refine zh (ι:=Nat) (fun i=>[.int .i64 (i : Nat)]) (fun i w'=>i≤n∧((List.range n).drop i).all (clG n mu sy a)=(List.range n).all (clG n mu sy a)∧
   StX noX w r w' [.cell b9 (zK mu) 200,.cell b10 (zK sy) 200,.cell b5 [.string g.name,.int .i64 g.lv,.slice qo g.outs.length capo,.int .i64 g.pn,.slice qt g.tys.length capt,.slice qn g.nms.length capn,.slice qp g.pts.length capp] 38,
   .cell b2 [.slice p0 u.ss.length cap0,.slice (some ⟨bf,of,none⟩) u.fs.length capf,.int .i64 u.mn] 25]) (fun i=>n - i) 0 rfl ⟨Nat.zero_le _,rfl,S⟩ ?_
  clear S
  rintro b d3 w31 ⟨hb,hdb,S⟩ K8 hK8
  rw [List.getD_cons_zero]
  refine gg_ ?_
  rw [hlvn]
  refine zj (fun hltb=>?_) (fun hgeb=>?_)
  rotate_left
  ·have hbe : b=n:=by omega
   rw [hbe,jS] at hdb
   have hF : clF n mu sy a=true:=hdb.symm
   rw [hF,Bool.true_and] at hda
   refine gg_ ?_
   rw [show ((a : Int)+1)=((a+1 : Nat) : Int) by omega]
   exact hK7 (a+1) _ ⟨hlta,hda,S⟩ (by omega)
  have hltb : b<n:=by omega
  rw [jR hltb] at hdb
  have hfalse : clG n mu sy a b=false→(List.range n).all (clF n mu sy)=false:=fun e=>by
   rw [e,Bool.false_and] at hdb
   have hF : clF n mu sy a=false:=hdb.symm
   rw [hF,Bool.false_and] at hda
   exact hda.symm
  refine gg_ ?_
  refine zf (c:=mu a b) (fun _ K2 hK2=>?_) ?_
  ·refine gg_ ?_
   refine S.ld (b:=b9) ?_ (jl (f:=mu) (by omega) (by omega))
   exact hK2
  refine zf (c:=!sy a b) (fun _ K2 hK2=>?_) ?_
  ·refine gg_ ?_
   refine S.ld (b:=b10) ?_ (jl (f:=sy) (by omega) (by omega))
   refine gg_ ?_
   exact hK2
  have hG : clG n mu sy a b=((List.range n).all (clH sy a b) && !((decide ((a : Int)≠(b : Int))&&mu a b) && !sy a b)):=by
   rw [clG,Bool.and_assoc,show decide ((a : Int)≠(b : Int)) = !decide (a=b) from by rw [← decide_not];exact decide_eq_decide.2 (by omega)]
  refine c_b (fun hbad=>?_) (fun hgood=>?_)
  ·exact hno (hfalse (by rw [hG,hbad,Bool.not_true,Bool.and_false])) _ S.ext
  rw [hgood,Bool.not_false,Bool.and_true] at hG
  refine zh (ι:=Nat) (fun i=>[.int .i64 (i : Nat)]) (fun i w'=>i≤n∧((List.range n).drop i).all (clH sy a b)=(List.range n).all (clH sy a b)∧
   StX noX w r w' [.cell b9 (zK mu) 200,.cell b10 (zK sy) 200,.cell b5 [.string g.name,.int .i64 g.lv,.slice qo g.outs.length capo,.int .i64 g.pn,.slice qt g.tys.length capt,.slice qn g.nms.length capn,.slice qp g.pts.length capp] 38,
   .cell b2 [.slice p0 u.ss.length cap0,.slice (some ⟨bf,of,none⟩) u.fs.length capf,.int .i64 u.mn] 25]) (fun i=>n - i) 0 rfl ⟨Nat.zero_le _,rfl,S⟩ ?_
  clear S
  rintro cc d4 w32 ⟨hc,hdc,S⟩ K9 hK9
  rw [List.getD_cons_zero]
  refine gg_ ?_
  rw [hlvn]
  refine zj (fun hltc=>?_) (fun hgec=>?_)
  ·have hltc : cc<n:=by omega
   rw [jR hltc] at hdc
   refine gg_ ?_
   refine zf (c:=sy a b) (fun _ K2 hK2=>?_) ?_
   ·refine gg_ ?_
    refine S.ld (b:=b10) ?_ (jl (f:=sy) (by omega) (by omega))
    exact hK2
   refine zf (c:=sy b cc) (fun _ K2 hK2=>?_) ?_
   ·refine gg_ ?_
    refine S.ld (b:=b10) ?_ (jl (f:=sy) (by omega) (by omega))
    exact hK2
   refine zf (c:=!sy a cc) (fun _ K2 hK2=>?_) ?_
   ·refine gg_ ?_
    refine S.ld (b:=b10) ?_ (jl (f:=sy) (by omega) (by omega))
    refine gg_ ?_
    exact hK2
   have hH : clH sy a b cc = !(((decide ((a : Int)≠(cc : Int))&&sy a b)&&sy b cc) && !sy a cc):=by
    rw [clH,show decide ((a : Int)≠(cc : Int)) = !decide (a=cc) from by rw [← decide_not];exact decide_eq_decide.2 (by omega)]
    congr 1
    ac_rfl
   refine c_b (fun hbad=>?_) (fun hgood2=>?_)
   ·rw [hH,hbad,Bool.not_true,Bool.false_and] at hdc
    exact hno (hfalse (by rw [hG,← hdc])) _ S.ext
   ·rw [hH,hgood2,Bool.not_false,Bool.true_and] at hdc
    refine gg_ ?_
    rw [show ((cc : Int)+1)=((cc+1 : Nat) : Int) by omega]
    exact hK9 (cc+1) _ ⟨hltc,hdc,S⟩ (by omega)
  have hce : cc=n:=by omega
  rw [hce,jS] at hdc
  rw [hG,← hdc,Bool.true_and] at hdb
  refine gg_ ?_
  rw [show ((b : Int)+1)=((b+1 : Nat) : Int) by omega]
  exact hK8 (b+1) _ ⟨hltb,hdb,S⟩ (by omega)
 have hae : a=n:=by omega
 rw [hae,jS] at hda
 have hog : qT g=true:=hout.2 ⟨hoR,hda.symm⟩
 clear hda hK7 K7 hgea hae ha hno nout
 refine zh (ι:=Nat) (fun i=>[.int .i64 (yw (g.pts.take i) : Nat),.int .i64 (i : Nat)]) (fun i w'=>i≤g.pts.length∧i≤1025∧StX noX w r w' [.cell b9 (zK mu) 200,.cell b10 (zK sy) 200,.cell b5 [.string g.name,.int .i64 g.lv,.slice qo g.outs.length capo,.int .i64 g.pn,.slice qt g.tys.length capt,.slice qn g.nms.length capn,.slice qp g.pts.length capp] 38,
  .cell b2 [.slice p0 u.ss.length cap0,.slice (some ⟨bf,of,none⟩) u.fs.length capf,.int .i64 u.mn] 25]) (fun i=>g.pts.length - i) 0 rfl ⟨Nat.zero_le _,Nat.zero_le _,S⟩ ?_
 clear S
 rintro k d5 w33 ⟨hk,hk2,S⟩ K5 hK5
 simp only [List.getD_cons_zero,List.getD_cons_succ]
 have hlk : yw (g.pts.take k)≤k:=by
  have:=List.countP_le_length (p:=fun p : PtD=>decide (p.op=4)) (l:=g.pts.take k)
  rw [List.length_take] at this
  show List.countP _ _≤k
  omega
 refine gg_ ?_
 refine zf (c:=decide (k≤1024)) (fun _ K2 hK2=>?_) ?_
 ·refine gg_ ?_
  rw [show decide ((k : Int)≤1024)=decide (k≤1024) from decide_eq_decide.2 (by omega)]
  exact hK2
 refine c_b (fun hgo=>?_) (fun hstop=>?_)
 ·simp only [Bool.and_eq_true,decide_eq_true_eq] at hgo
  have hlt : k<g.pts.length:=by omega
  have hlt':=X4 hlt
  obtain ⟨bp,op,cp,rfl,hcp,hpc,hpo⟩:=h4.sl.get (by decide) hlt
  obtain ⟨x1,x2,x3,x4,x5,y1,y2,y3,y4,y5,rfl,_⟩:=XP hpc
  have lop : Ob r fun w=>w.cell? ⟨bp,op+k*21,none⟩=some (.int .u8 g.pts[k].op):=by simpa using hpo 0 _ rfl
  refine zp (fun s w'=>s = [.int .i64 (yw (g.pts.take (k+1)) : Nat)]∧w'=w33) (fun K9 hK9=>?_) ?_
  rotate_left
  ·rintro _ _ ⟨rfl,rfl⟩ d6
   rw [List.getD_cons_zero]
   refine gg_ ?_
   rw [show ((k : Int)+1)=((k+1 : Nat) : Int) by omega]
   exact hK5 (k+1) _ ⟨hlt,by omega,S⟩ (by omega)
  refine gg_ ?_
  refine zi (by simpa using S.at lop) ?_
  refine gg_ ?_
  refine zj (fun h4'=>?_) (fun h4'=>?_)
  ·refine gg_ ?_
   refine hK9 _ _ ⟨?_,rfl⟩
   rw [hlt',if_pos h4'];rfl
  ·refine hK9 _ _ ⟨?_,rfl⟩
   rw [hlt',if_neg h4',Nat.add_zero]
 refine gg_ ?_
 refine zk (c:=decide (1024<g.pts.length)) (fun _ K2 hK2=>?_) ?_
 ·refine gg_ ?_
  rw [show decide ((1024 : Int)<(g.pts.length : Int))=decide (1024<g.pts.length) from decide_eq_decide.2 (by omega)]
  exact hK2
 refine zk (c:=decide (256<yw (g.pts.take k))) (fun _ K2 hK2=>?_) ?_
 ·refine gg_ ?_
  rw [show decide ((256 : Int)<(yw (g.pts.take k) : Int))=decide (256<yw (g.pts.take k)) from decide_eq_decide.2 (by omega)]
  exact hK2
 have hend : g.pts.length≤1024→g.pts.take k=g.pts:=fun hle=>by
  refine List.take_of_length_le ?_
  rw [Bool.and_eq_false_iff,decide_eq_false_iff_not,decide_eq_false_iff_not] at hstop
  omega
 refine c_b (fun hbad=>?_) (fun hgood=>?_)
 ·rw [no fun H=>by
   have h1:=H.pt1
   have h2:=H.pt1024
   have h3:=H.loans
   rw [hend h2] at hbad
   simp only [Bool.or_eq_true,decide_eq_true_eq] at hbad
   omega] at h
  exact h _ S.ext
 simp only [Bool.or_eq_false_iff,decide_eq_false_iff_not] at hgood
 rw [hend (by omega)] at hgood
 have hpos : 0<g.tys.length:=by omega
 have hhd : g.tys.headD yf=g.tys[0]:=by rw [List.headD_eq_head?_getD,List.head?_eq_getElem?,List.getElem?_eq_getElem hpos,Option.getD_some]
 obtain ⟨bt,ot,ct,rfl,hct2,htc,hcell⟩:=h2.sl.get (by decide) hpos
 obtain ⟨q2,cap2,rfl,ht2⟩:=y6 htc
 have lk : Ob r fun w=>w.cell? ⟨bt,ot,none⟩=some (.int .u8 g.tys[0].k):=by simpa using hcell 0 _ rfl
 refine gg_ ?_
 refine aj1 (c:=decide (g.lv=0)) (d:=decide (g.pn=0)) (e:=isK g.tys[0] 1) (fun K2 hK2=>by refine gg_ ?_;exact hK2) (fun K2 hK2=>by refine gg_ ?_;exact hK2) (fun K2 hK2=>?_) ?_
 ·refine gg_ ?_
  refine zi (by simpa using S.at lk) ?_
  refine gg_ ?_
  exact hK2
 have hE : yM u i g=(decide ((i : Int)≠u.mn)||((decide (g.lv=0)&&decide (g.pn=0))&&isK g.tys[0] 1)):=by
  rw [yM,decide_eq_true hlv0,decide_eq_true hlv8,decide_eq_true hpn0,decide_eq_true hpn8,decide_eq_true hpn1,decide_eq_true hty,decide_eq_true hnm,htys,hog,decide_eq_true (show 1≤g.pts.length by omega),decide_eq_true (show g.pts.length≤1024 by omega),decide_eq_true (show yw g.pts≤256 by omega),hhd,decide_not]
  simp
 rw [hE] at h
 exact h _ S.ext
end Go.Proofs
end
section
namespace Go.Proofs
open Go.Sh
set_option maxRecDepth 100000
set_option linter.unusedSimpArgs false
set_option linter.unusedVariables false
set_option maxHeartbeats 2000000 in
theorem adr {u : UnD} {v : Value} {w : World} {r : Gh} {K : Value→World→Prop} (hr : Holds r w) (hu : UnG r v u)
  (h : ∀ (a b e : Int) w',Ext w w'→(e=0↔MayU u)→K (.tuple #[.int .i64 a,.int .i64 b,.int .i64 e]) w') : zd Tryz.prog Tryz.ZJ #[v] w K:=by
 refine Tryz.abV ?_
 unfold Tryz.Qu
 have hu0:=hu
 obtain ⟨p0,cap0,vf,rfl,_,_,hst,hsl,hfn⟩:=hu
 obtain ⟨qf,capf,rfl,_,_⟩:=hfn.sl.shape
 have hfl : u.fs.length≤9223372036854775807:=hfn.few
 have S:=St.start hr
 refine S.box fun b1 w1 S=>?_
 have S : StX noX w r w1 [.cell b1 [.slice p0 u.ss.length cap0,.slice qf u.fs.length capf,.int .i64 u.mn] 25]:=S
 have bad : ∀ {a b : Int} {w' : World},¬ MayU u→Ext w w'→K (.tuple #[.int .i64 a,.int .i64 b,.int .i64 100]) w':=fun hn e=>h _ _ _ _ e ⟨fun h=>absurd h (by decide),fun hM=>absurd hM hn⟩
 refine gg_ ?_
 refine Xj S.holds hst fun w2 e2=>?_
 have S:=S.go e2
 refine gg_ ?_
 refine zk (c:=decide (u.fs.length<1)) (fun _ K2 hK2=>?_) ?_
 ·refine gg_ ?_
  rw [show decide ((u.fs.length : Int)<1)=decide (u.fs.length<1) from decide_eq_decide.2 (by omega)]
  exact hK2
 refine zk (c:=decide (32<u.fs.length)) (fun _ K2 hK2=>?_) ?_
 ·refine gg_ ?_
  rw [show decide ((32 : Int)<(u.fs.length : Int))=decide (32<u.fs.length) from decide_eq_decide.2 (by omega)]
  exact hK2
 refine zk (c:=decide (u.mn<0)) (fun _ K2 hK2=>by refine gg_ ?_;exact hK2) ?_
 refine zk (c:=decide ((u.fs.length : Int)≤u.mn)) (fun _ K2 hK2=>by refine gg_ ?_;exact hK2) ?_
 refine c_b (fun hbad=>?_) (fun hgood=>?_)
 ·refine bad (fun hM=>?_) S.ext
  have h1:=hM.ok;have h2:=hM.fs1;have h3:=hM.fs32;have h4:=hM.mn0;have h5:=hM.mn1
  rw [decide_eq_true h1] at hbad
  simp only [Bool.or_eq_true,decide_eq_true_eq,Bool.not_true,Bool.false_eq_true,false_or] at hbad
  omega
 simp only [Bool.or_eq_false_iff,decide_eq_false_iff_not,Bool.not_eq_false',decide_eq_true_eq] at hgood
 obtain ⟨⟨⟨⟨hok,hf1⟩,hf32⟩,hm0⟩,hm1⟩:=hgood
 refine zh (ι:=Nat) (fun i=>[.int .i64 (i : Nat)]) (fun i w'=>i≤u.fs.length∧(∀ (j : Nat) (hj : j<u.fs.length),j<i→yM u j u.fs[j]=true)∧StX noX w r w' [.cell b1 [.slice p0 u.ss.length cap0,.slice qf u.fs.length capf,.int .i64 u.mn] 25]) (fun i=>u.fs.length - i) 0 rfl ⟨Nat.zero_le _,fun j _ hj=>absurd hj (Nat.not_lt_zero _),S⟩ ?_
 clear S
 rintro i d w3 ⟨hi,hall,S⟩ K1 hK1
 rw [List.getD_cons_zero]
 refine gg_ ?_
 refine zj (fun hlt=>?_) (fun hge=>?_)
 ·have hlt : i<u.fs.length:=by omega
  refine S.ldB (b:=b1) ?_ rfl
  refine aeF hlt hok S.holds hu0 fun w4 e4=>?_
  have S:=S.go e4
  refine gp_ ?_
  refine c_b (fun hb=>?_) (fun hb=>?_)
  ·refine bad (fun hM=>?_) S.ext
   rw [hM.head i hlt] at hb;cases hb
  ·refine gg_ ?_
   rw [show ((i : Int)+1)=((i+1 : Nat) : Int) by omega]
   refine hK1 (i+1) _ ⟨hlt,fun j hj hji=>?_,S⟩ (by omega)
   by_cases e : j=i
   ·subst e;simpa using hb
   ·exact hall j hj (by omega)
 have hheads : ∀ (j : Nat) (hj : j<u.fs.length),yM u j u.fs[j]=true:=fun j hj=>hall j hj (by omega)
 clear hall hK1 K1 hge hi
 have hfine : ∀ f ∈ u.fs,xz u.ss f.tys∧(0≤f.pn∧f.pn<f.tys.length∧xz u.ss f.tys):=fun f hf=>by
  obtain ⟨j,hj,rfl⟩:=List.getElem_of_mem hf
  have H:=aa2 (hheads j hj)
  exact ⟨H.fine hok,H.pn0,H.pn1,H.fine hok⟩
 refine zh (ι:=Nat) (fun i=>[.int .i64 (i : Nat)]) (fun i w'=>i≤u.fs.length∧(∀ (j : Nat) (hj : j<u.fs.length),j<i→∀ p ∈ u.fs[j].pts,yv u u.fs[j] p=true)∧StX noX w r w' [.cell b1 [.slice p0 u.ss.length cap0,.slice qf u.fs.length capf,.int .i64 u.mn] 25]) (fun i=>u.fs.length - i) 0 rfl ⟨Nat.zero_le _,fun j _ hj=>absurd hj (Nat.not_lt_zero _),S⟩ ?_
 clear S
 rintro i d w5 ⟨hi,hall,S⟩ K2 hK2
 rw [List.getD_cons_zero]
 refine gg_ ?_
 refine zj (fun hlt=>?_) (fun hge=>?_)
 rotate_left
 ·exact h 0 0 0 _ S.ext ⟨fun _=>⟨hok,by omega,by omega,by omega,by omega,hheads,fun g hg p hp=>by
   obtain ⟨j,hj,rfl⟩:=List.getElem_of_mem hg
   exact hall j hj (by omega) p hp⟩,fun _=>rfl⟩
 have hlt : i<u.fs.length:=by omega
 obtain ⟨bf,of,cf,rfl,hcf,hgc,hfo⟩:=hfn.sl.get (by decide) hlt
 have hgm:=List.getElem_mem hlt
 generalize hgi : u.fs[i]=g at hgc hgm
 obtain ⟨vo,vt,vn,vp,rfl,h1,h2,h3,h4⟩:=id hgc
 obtain ⟨qo,capo,rfl,_,_⟩:=h1.sl.shape
 obtain ⟨qt,capt,rfl,_,hct⟩:=h2.sl.shape
 obtain ⟨qn,capn,rfl,_,_⟩:=h3.sl.shape
 obtain ⟨qp,capp,rfl,_,_⟩:=h4.sl.shape
 have hptl : g.pts.length≤9223372036854775807:=h4.few
 have lpts : Ob r fun w=>w.cell? ⟨bf,of+i*7+6,none⟩=some (.slice qp g.pts.length capp):=hfo 6 _ rfl
 have S:=S.go (Ext.drew _)
 refine S.ldB (b:=b1) ?_ rfl
 refine gg_ ?_
 refine zt (n:=7) hcf (fun j v hj=>by rw [Int.toNat_natCast];exact S.at (hfo j v hj)) ?_
 refine zC (cs:=#[.slice p0 u.ss.length cap0,.slice (some ⟨bf,of,none⟩) u.fs.length capf,.int .i64 u.mn,.string g.name,.int .i64 g.lv,.slice qo g.outs.length capo,.int .i64 g.pn,.slice qt g.tys.length capt,.slice qn g.nms.length capn,.slice qp g.pts.length capp]) (by kernel_rfl) ?_
 refine S.box fun bx w6 S=>?_
 have S : StX noX w r w6 [.cell bx (asL u g p0 cap0 (some ⟨bf,of,none⟩) capf qo capo qt capt qn capn qp capp) 173,.cell b1 [.slice p0 u.ss.length cap0,.slice (some ⟨bf,of,none⟩) u.fs.length capf,.int .i64 u.mn] 25]:=S
 have S:=S.frz
 have hx : AsP (r.or (Go.Sh.one bx (asL u g p0 cap0 (some ⟨bf,of,none⟩) capf qo capo qt capt qn capn qp capp) 173)) bx u g:=⟨p0,cap0,some ⟨bf,of,none⟩,capf,qo,capo,qt,capt,qn,capn,qp,capp,(xB (b:=bx)).up,hu0.up,GrG.up hgc⟩
 refine zh (ι:=Nat) (fun i=>[.int .i64 (i : Nat)]) (fun q w'=>q≤g.pts.length∧(∀ (j : Nat) (hj : j<g.pts.length),j<q→yv u g g.pts[j]=true)∧StX noX w (r.or (Go.Sh.one bx (asL u g p0 cap0 (some ⟨bf,of,none⟩) capf qo capo qt capt qn capn qp capp) 173)) w' [.cell b1 [.slice p0 u.ss.length cap0,.slice (some ⟨bf,of,none⟩) u.fs.length capf,.int .i64 u.mn] 25]) (fun i=>g.pts.length - i) 0 rfl ⟨Nat.zero_le _,fun j _ hj=>absurd hj (Nat.not_lt_zero _),S⟩ ?_
 clear S
 rintro q d w7 ⟨hq,hpts,S⟩ K9 hK9
 rw [List.getD_cons_zero]
 refine gg_ ?_
 refine zi (by rw [Int.toNat_natCast];exact S.at lpts) ?_
 refine gg_ ?_
 refine zj (fun hlt2=>?_) (fun hge2=>?_)
 ·have hlt2 : q<g.pts.length:=by omega
  obtain ⟨bp,op,cp,rfl,hcp,hpc,hpo⟩:=h4.sl.get (by decide) hlt2
  refine gg_ ?_
  refine zi (by rw [Int.toNat_natCast];exact S.at lpts) ?_
  refine gg_ ?_
  refine zt (n:=21) hcp (fun j v hj=>by rw [Int.toNat_natCast];exact S.at (hpo j v hj)) ?_
  refine adq S.holds hx hok (hfine g hgm).1 (fun f hf=>(hfine f hf).2) hpc.up fun w8 e8=>?_
  have S:=S.go e8
  refine gp_ ?_
  refine c_b (fun hb=>?_) (fun hb=>?_)
  ·refine bad (fun hM=>?_) S.ext
   rw [hM.pts g hgm _ (List.getElem_mem hlt2)] at hb;cases hb
  ·refine gg_ ?_
   rw [show ((q : Int)+1)=((q+1 : Nat) : Int) by omega]
   refine hK9 (q+1) _ ⟨hlt2,fun j hj hjq=>?_,S⟩ (by omega)
   by_cases e : j=q
   ·subst e;simpa using hb
   ·exact hpts j hj (by omega)
 ·refine gg_ ?_
  rw [show ((i : Int)+1)=((i+1 : Nat) : Int) by omega]
  refine hK2 (i+1) _ ⟨hlt,fun j hj hji p hp=>?_,S.to r⟩ (by omega)
  by_cases e : j=i
  ·subst e
   rw [hgi] at hp ⊢
   obtain ⟨k,hk,rfl⟩:=List.getElem_of_mem hp
   exact hpts k hk (by omega)
  ·exact hall j hj (by omega) p hp
theorem afn {u : UnD} {v : Value} {w : World} {r : Gh} {K : Value→World→Prop} (hr : Holds r w) (hu : UnG r v u)
  (h : ∀ w',Ext w w'→K (.bool (ZR u)) w') : zd Tryz.prog Tryz.Xo #[v] w K:=by
 refine Tryz.aex ?_
 unfold Tryz.VC
 have hu0:=hu
 obtain ⟨p0,cap0,vf,rfl,_,_,hst,hsl,hfn⟩:=hu
 have S:=St.start hr
 refine S.box fun b1 w1 S=>?_
 have S : StX noX w r w1 [.cell b1 [.slice p0 u.ss.length cap0,vf,.int .i64 u.mn] 25]:=S
 refine S.ldB (b:=b1) ?_ rfl
 refine adr S.holds hu0 fun a b e w2 e2 he=>?_
 have S:=S.go e2
 refine gg_ ?_
 have hm : decide (e=0)=ZR u:=by
  rw [Bool.eq_iff_iff,decide_eq_true_eq,he]
  exact X7.symm
 rw [hm]
 exact h _ S.ext
theorem qW {u : UnD} {fn q : Int} {v : Value} {w : World} {r : Gh} {K : Value→World→Prop} (hr : Holds r w) (hu : UnG r v u)
  (h : ∀ w',Ext w w'→K (.bool (isU u fn q)) w') : zd Tryz.prog Tryz.kA #[v,.int .i64 fn,.int .i64 q] w K:=by
 refine Tryz.afl ?_
 unfold Tryz.aa7
 have hu0:=hu
 obtain ⟨p0,cap0,vf,rfl,_,_,hst,hsl,hfn⟩:=hu
 obtain ⟨qf,capf,rfl,_,_⟩:=hfn.sl.shape
 have hfl : u.fs.length≤9223372036854775807:=hfn.few
 have S:=St.start hr
 refine S.box fun b1 w1 S=>?_
 have S : StX noX w r w1 [.cell b1 [.slice p0 u.ss.length cap0,.slice qf u.fs.length capf,.int .i64 u.mn] 25]:=S
 refine S.ldB (b:=b1) ?_ rfl
 refine afn S.holds hu0 fun w2 e2=>?_
 have S:=S.go e2
 refine zf (c:=decide (0≤fn)) (fun _ K2 hK2=>by refine gg_ ?_;exact hK2) ?_
 refine zf (c:=decide (fn<(u.fs.length : Int))) (fun _ K2 hK2=>by refine gg_ ?_;exact hK2) ?_
 refine zf (c:=decide (q<((u.fs[fn.toNat]?.map fun g=>(g.pts.length : Int)).getD 0))) (fun hb K2 hK2=>?_) ?_
 ·simp only [Bool.and_eq_true,decide_eq_true_eq] at hb
  have hlt : fn.toNat<u.fs.length:=by omega
  obtain ⟨bf,of,cf,rfl,hcf,hgc,hfo⟩:=hfn.sl.get (by decide) hlt
  obtain ⟨vo,vt,vn,vp,rfl,h1,h2,h3,h4⟩:=id hgc
  obtain ⟨qp,capp,rfl,_,_⟩:=h4.sl.shape
  have hptl : u.fs[fn.toNat].pts.length≤9223372036854775807:=h4.few
  have lpts : Ob r fun w=>w.cell? ⟨bf,of+fn.toNat*7+6,none⟩=some (.slice qp u.fs[fn.toNat].pts.length capp):=hfo 6 _ rfl
  refine gg_ ?_
  refine zi (S.at lpts) ?_
  refine gg_ ?_
  rw [List.getElem?_eq_getElem hlt] at hK2
  exact hK2
 have:=h _ S.ext
 rw [isU] at this
 have e : ((((ZR u&&decide (0≤fn))&&decide (fn<(u.fs.length : Int)))&&decide (q<((u.fs[fn.toNat]?.map fun g=>(g.pts.length : Int)).getD 0))))=((decide (0≤fn)&&decide (fn<(u.fs.length : Int)))&&(ZR u&&decide (q<((u.fs[fn.toNat]?.map fun g=>(g.pts.length : Int)).getD 0)))):=by ac_rfl
 rw [e]
 exact this
end Go.Proofs
end
section
namespace Go.Proofs
open Go.Sh
set_option maxRecDepth 100000
set_option linter.unusedSimpArgs false
set_option linter.unusedVariables false
end Go.Proofs
end
section
namespace Go.Proofs
open Go.Shelf
set_option maxRecDepth 100000
def Tryz.afo : Go.Shelf.Ren:=⟨fun|189=>71|125=>104|257=>103|128=>132|129=>133|294=>123|295=>124|296=>125|297=>126|298=>127|299=>128|216=>129|300=>130|301=>131|328=>156|329=>157|330=>158|331=>159|332=>160|215=>135|343=>194|n=>n,fun|28=>28|3=>3|46=>148|0=>0|51=>174|53=>76|4=>4|183=>181|182=>180|131=>58|5=>5|9=>9|218=>220|222=>224|228=>252|229=>253|n=>n,fun|n=>n⟩
theorem Tryz.afN : Go.Proofs.Lays.n189 Tryz.prog Tryz.afo:={
 mixed:=by kernel_rfl
 f125:=Tryz.func104.trans (congrArg some (by kernel_rfl))
 f128:=Tryz.func132.trans (congrArg some (by kernel_rfl))
 f129:=Tryz.func133.trans (congrArg some (by kernel_rfl))
 f189:=Tryz.func71.trans (congrArg some (by kernel_rfl))
 f215:=Tryz.func135.trans (congrArg some (by kernel_rfl))
 f216:=Tryz.func129.trans (congrArg some (by kernel_rfl))
 f257:=Tryz.func103.trans (congrArg some (by kernel_rfl))
 f294:=Tryz.func123.trans (congrArg some (by kernel_rfl))
 f295:=Tryz.func124.trans (congrArg some (by kernel_rfl))
 f296:=Tryz.func125.trans (congrArg some (by kernel_rfl))
 f297:=Tryz.func126.trans (congrArg some (by kernel_rfl))
 f298:=Tryz.func127.trans (congrArg some (by kernel_rfl))
 f299:=Tryz.func128.trans (congrArg some (by kernel_rfl))
 f300:=Tryz.func130.trans (congrArg some (by kernel_rfl))
 f301:=Tryz.func131.trans (congrArg some (by kernel_rfl))
 f328:=Tryz.func156.trans (congrArg some (by kernel_rfl))
 f329:=Tryz.func157.trans (congrArg some (by kernel_rfl))
 f330:=Tryz.func158.trans (congrArg some (by kernel_rfl))
 f331:=Tryz.func159.trans (congrArg some (by kernel_rfl))
 f332:=Tryz.func160.trans (congrArg some (by kernel_rfl))
 f343:=Tryz.func194.trans (congrArg some (by kernel_rfl))
 t0:=Tryz.underlying0
 a0:=Tryz.isAgg0
 z0:=Tryz.sizeOf0
 v0:=Tryz.zeroValue0
 t3:=Tryz.underlying3
 a3:=Tryz.isAgg3
 z3:=Tryz.sizeOf3
 v3:=Tryz.zeroValue3
 t4:=Tryz.underlying4
 a4:=Tryz.isAgg4
 z4:=Tryz.sizeOf4
 v4:=Tryz.zeroValue4
 t5:=Tryz.underlying5
 a5:=Tryz.isAgg5
 z5:=Tryz.sizeOf5
 v5:=Tryz.zeroValue5
 t9:=Tryz.underlying9
 a9:=Tryz.isAgg9
 z9:=Tryz.sizeOf9
 v9:=Tryz.zeroValue9
 t28:=Tryz.underlying28
 a28:=Tryz.isAgg28
 z28:=Tryz.sizeOf28
 v28:=Tryz.zeroValue28
 t46:=Tryz.underlying148
 a46:=Tryz.isAgg148
 z46:=Tryz.sizeOf148
 v46:=Tryz.zeroValue148
 t51:=Tryz.underlying174
 a51:=Tryz.isAgg174
 z51:=Tryz.sizeOf174
 v51:=Tryz.zeroValue174
 t53:=Tryz.underlying76
 a53:=Tryz.isAgg76
 z53:=Tryz.sizeOf76
 v53:=Tryz.zeroValue76
 t131:=Tryz.underlying58
 a131:=Tryz.isAgg58
 z131:=Tryz.sizeOf58
 v131:=Tryz.zeroValue58
 t182:=Tryz.underlying180
 a182:=Tryz.isAgg180
 z182:=Tryz.sizeOf180
 v182:=Tryz.zeroValue180
 t183:=Tryz.underlying181
 a183:=Tryz.isAgg181
 z183:=Tryz.sizeOf181
 v183:=Tryz.zeroValue181
 t218:=Tryz.underlying220
 a218:=Tryz.isAgg220
 z218:=Tryz.sizeOf220
 v218:=Tryz.zeroValue220
 t222:=Tryz.underlying224
 a222:=Tryz.isAgg224
 z222:=Tryz.sizeOf224
 v222:=Tryz.zeroValue224
 t228:=Tryz.underlying252
 a228:=Tryz.isAgg252
 z228:=Tryz.sizeOf252
 v228:=Tryz.zeroValue252
 t229:=Tryz.underlying253
 a229:=Tryz.isAgg253
 z229:=Tryz.sizeOf253
 v229:=Tryz.zeroValue253 }
def Tryz.afp : Go.Shelf.Ren:=⟨fun|112=>101|n=>n,fun|28=>28|3=>3|4=>4|0=>0|n=>n,fun|n=>n⟩
theorem Tryz.afO : Go.Proofs.Lays.n112 Tryz.prog Tryz.afp:={
 mixed:=by kernel_rfl
 f112:=Tryz.func101.trans (congrArg some (by kernel_rfl))
 t0:=Tryz.underlying0
 a0:=Tryz.isAgg0
 z0:=Tryz.sizeOf0
 v0:=Tryz.zeroValue0
 t3:=Tryz.underlying3
 a3:=Tryz.isAgg3
 z3:=Tryz.sizeOf3
 v3:=Tryz.zeroValue3
 t4:=Tryz.underlying4
 a4:=Tryz.isAgg4
 z4:=Tryz.sizeOf4
 v4:=Tryz.zeroValue4
 t28:=Tryz.underlying28
 a28:=Tryz.isAgg28
 z28:=Tryz.sizeOf28
 v28:=Tryz.zeroValue28 }
def Tryz.afq : Go.Shelf.Ren:=⟨fun|212=>102|263=>121|264=>122|n=>n,fun|46=>148|51=>174|146=>175|53=>76|148=>177|n=>n,fun|n=>n⟩
theorem Tryz.ai9 : Go.Proofs.Lays.n212 Tryz.prog Tryz.afq:={
 mixed:=by kernel_rfl
 f212:=Tryz.func102.trans (congrArg some (by kernel_rfl))
 f263:=Tryz.func121.trans (congrArg some (by kernel_rfl))
 f264:=Tryz.func122.trans (congrArg some (by kernel_rfl))
 t46:=Tryz.underlying148
 a46:=Tryz.isAgg148
 z46:=Tryz.sizeOf148
 v46:=Tryz.zeroValue148
 t51:=Tryz.underlying174
 a51:=Tryz.isAgg174
 z51:=Tryz.sizeOf174
 v51:=Tryz.zeroValue174
 t53:=Tryz.underlying76
 a53:=Tryz.isAgg76
 z53:=Tryz.sizeOf76
 v53:=Tryz.zeroValue76
 t146:=Tryz.underlying175
 a146:=Tryz.isAgg175
 z146:=Tryz.sizeOf175
 v146:=Tryz.zeroValue175
 t148:=Tryz.underlying177
 a148:=Tryz.isAgg177
 z148:=Tryz.sizeOf177
 v148:=Tryz.zeroValue177 }
def Tryz.ads : Go.Shelf.Ren:=⟨fun|15=>70|n=>n,fun|22=>28|3=>3|4=>4|n=>n,fun|n=>n⟩
theorem Tryz.Jr : Go.Proofs.Lays2.n15 Tryz.prog Tryz.ads:={
 mixed:=by kernel_rfl
 f15:=Tryz.func70.trans (congrArg some (by kernel_rfl))
 t3:=Tryz.underlying3
 a3:=Tryz.isAgg3
 z3:=Tryz.sizeOf3
 v3:=Tryz.zeroValue3
 t4:=Tryz.underlying4
 a4:=Tryz.isAgg4
 z4:=Tryz.sizeOf4
 v4:=Tryz.zeroValue4
 t22:=Tryz.underlying28
 a22:=Tryz.isAgg28
 z22:=Tryz.sizeOf28
 v22:=Tryz.zeroValue28
 i3:=by kernel_rfl }
end Go.Proofs
end
section
namespace Go.Sh
open Go.RowKit
theorem acL {w w' : World} {g q : Nat} {c : List Value} {e : TypeId} {d : Array Int} {os : Array Obj} (B : Blk w g c e) (hd : d.size≤c.length)
  (hw : w'=Sort.grow (Sort.putRow (Value.int .i64) (Sort.ahead w q) g 0 d) os) : ExtBut (· = g) w w'∧Blk w' g (d.toList.map (Value.int .i64)++c.drop d.size) e:=by
 subst hw
 have hg : g<w.heap.size:=(Array.getElem?_eq_some_iff.1 B).1
 have hput : ∀ k,(Sort.putRow (Value.int .i64) (Sort.ahead w q) g 0 d).heap[k]? = if g=k then (w.heap[k]?).map (Sort.onCells (Sort.putCells (Value.int .i64) 0 d)) else w.heap[k]?:=fun k=>by
  simp only [Sort.putRow,Sort.mapBlock,Array.getElem?_modify]
  split<;>rfl
 have hsz : (Sort.putRow (Value.int .i64) (Sort.ahead w q) g 0 d).heap.size=w.heap.size:=by simp [Sort.ahead]
 refine ⟨⟨rfl,rfl,rfl,by simp only [Sort.grow,Array.size_append,hsz];omega,fun k hk hne=>?_⟩,?_⟩
 ·show ((Sort.putRow (Value.int .i64) (Sort.ahead w q) g 0 d).heap++os)[k]? = _
  rw [Array.getElem?_append_left (by rw [hsz];exact hk),hput,if_neg (fun h=>hne h.symm)]
 ·show ((Sort.putRow (Value.int .i64) (Sort.ahead w q) g 0 d).heap++os)[g]? = _
  rw [Array.getElem?_append_left (by rw [hsz];exact hg),hput,if_pos rfl,B,Option.map_some]
  simp only [Sort.onCells]
  congr 2
  apply Array.ext_getElem?
  intro i
  simp only [Sort.putCells,Array.getElem?_mapIdx,List.getElem?_toArray,List.getElem?_append,List.length_map,Array.length_toList,List.getElem?_map,List.getElem?_drop,Nat.zero_le,true_and,Nat.zero_add,Nat.sub_zero]
  by_cases hi : i<d.size
  ·rw [if_pos hi,List.getElem?_eq_getElem (by omega),Option.map_some,if_pos hi,Array.getElem?_toList,Array.getElem?_eq_getElem hi,getElem!_pos d i hi];rfl
  ·rw [if_neg hi,show d.size+(i - d.size)=i by omega]
   cases h : c[i]? with
   |none=>rfl
   |some x=>rw [Option.map_some,if_neg hi]
end Go.Sh
namespace Go.Proofs
open Go.Sh Go.RowKit
set_option maxRecDepth 100000
set_option linter.unusedSimpArgs false
set_option linter.unusedVariables false
def sortI (l : List Int) : List Int:=l.mergeSort fun x y=>decide (x≤y)
theorem Zz {l : List Int} : (sortI l).length=l.length:=List.length_mergeSort l
variable {w0 w : World} {r : Gh} {L : List Asr} {X : Nat→Prop}
theorem adt {v : Value} {l : List Int} {K : Value→World→Prop} (S : StX X w0 r w (.row v 3 1 l.length (ints l)::L)) (hl : l.length<4611686018427387904)
  (h : ∀ w',StX X w0 r w' (.row v 3 1 l.length (ints (sortI l))::L)→K (.tuple #[]) w') : zd Tryz.prog Tryz.jG #[v] w K:=by
 have hr : w.ownsRow 0 3 1 v l.length (ints l):=S.has _ (List.mem_cons_self ..)
 rcases qI hr with ⟨rfl,h1,h2⟩|⟨g,cap,c,rfl,hg,B,hn,hm,hcl,ht⟩
 ·have hl0 : l = []:=List.eq_nil_of_length_eq_zero h1
  subst hl0
  refine Calls.mono (Any.slices_Sort_int_none Tryz.afN none 0 w) ?_
  rintro e w' ⟨rfl,rfl⟩
  exact ⟨_,rfl,h _ (by rw [show sortI [] = [] by simp [sortI]];exact S)⟩
 ·rw [Nat.mul_one] at hcl ht
  have hcell : ∀ j,j<l.length→w.cell? ⟨g,j,none⟩=some (.int .i64 l[j]!):=fun j hj=>by
   have : (c.take l.length)[j]? = some (.int .i64 l[j]!):=by
    rw [ht,ints,List.getElem?_map,List.getElem?_eq_getElem hj,getElem!_pos l j hj];rfl
   rw [List.getElem?_take,if_pos hj] at this
   rw [B.cell];exact this
  have hfz : ∀ j,w.frozen? ⟨g,j,none⟩=false:=fun j=>B.unfrozen j
  refine Calls.mono (Any.slices_Sort_int Tryz.afN g 0 cap l w (fun j hj=>⟨?_,hfz _⟩) (Array.getElem?_eq_some_iff.1 B).1 hl) ?_
  ·have hj : j<l.length:=by simpa using hj
   rw [Nat.zero_add,hcell j hj]
   simp [getElem!_pos,hj]
  rintro e w' ⟨rfl,q,os,hw⟩
  obtain ⟨hE,hB⟩:=acL (d:=(sortI l).toArray) B (by simp [Zz];omega) hw
  refine ⟨_,rfl,h w' ?_⟩
  refine S.turn (p:=[]) (x:=.row (.slice (some ⟨g,0,none⟩) l.length cap) 3 1 l.length (ints l)) (y:=.row (.slice (some ⟨g,0,none⟩) l.length cap) 3 1 l.length (ints (sortI l))) ?_ ?_ fun k hk=>.inl hk
  ·exact hE.mono fun k _ hk=>by subst hk;rfl
  ·have:=Z7 (base:=0) (e:=3) (size:=1) (n:=l.length) (cap:=cap) (Nat.zero_le _) hB hn hm (by simp [Zz];omega)
   have e : ((sortI l).toArray.toList.map (Value.int .i64)++c.drop (sortI l).toArray.size).take (l.length*1)=ints (sortI l):=by
    rw [Nat.mul_one,List.take_append_of_le_length (by simp [Zz])]
    exact List.take_of_length_le (by simp [Zz])
   rwa [e] at this
end Go.Proofs
end
section
namespace Go.Proofs.Tryz
open Go.Sh
set_option maxRecDepth 100000
def qh (t0 t1 : Value) (w : World) (K : VW) : Prop:=
 ca x9 #[t0,t1] w fun t7 w1=>
 bt .geq 3 t7 (i6 0) fun t8=>K t8 w1
theorem ZU {t0 t1 : Value} {w : World} {K : VW} (h : qh t0 t1 w K) : zd prog z8 #[t0,t1] w K:=
 okC false (.s (.r (rz 1 0 0)) (.s (.r (rz 5 0 32)) (.n))) func66 rfl (by kernel_rfl) (by kernel_rfl) h
def jn (t0 t1 : Value) (w : World) (K : VW) : Prop:=
 pp (Builtin.len_ #[28] 3 #[t0]) fun t7=>zm [(i6 0)] w (fun s2 _d3 w4 K1=>
 bf .lss 3 (s2.getD 0 undef) t7 fun t9=>zc t9 (xl w4 28 t0 (s2.getD 0 undef) 3 fun t15=>bf .eql 3 t1 t15 fun t16=>zc t16 (K (s2.getD 0 undef) w4) (bt .add 3 (s2.getD 0 undef) (i6 1) fun t18=>K1 [t18] w4)) (K (i6 (-1)) w4))
theorem YR {t0 t1 : Value} {w : World} {K : VW} (h : jn t0 t1 w K) : zd prog x9 #[t0,t1] w K:=
 okC false (.s (.r (rz 1 0 0)) (.s (.s (.r (rz 3 0 0)) (.b (.lp [8] (.s (.r (rz 1 0 0)) (.s (.c (.n) (.n)) (.s (.b (.s (.r (rz 2 0 0)) (.s (.r (rz 6 0 256)) (.c (.s (.r (rz 2 0 0)) (.n)) (.n))))) (.r (rz 2 0 0)))))))) (.s (.r (rz 1 0 0)) (.n)))) func100 rfl (by kernel_rfl) (by kernel_rfl) h
def jd (t0 t1 : Value) (w : World) (K : VW) : Prop:=
 za (fun K1=>
 bt .lss 3 t1 (i6 0) fun t10=>zc t10 (pp (Instr.makeInterface 9 (Value.string { data:=#[99,97,110,110,111,116,32,98,101,32,110,101,103,97,116,105,118,101] })) fun _t11=>False) (K1 [] w)) (fun _s2 _d3 w4=>
 pp (Builtin.len_ #[28] 3 #[t0]) fun t14=>pp (convert 3 148 t14) fun t15=>pp (convert 3 148 t1) fun t17=>ca ve #[t15,t17] w4 fun t18 w6=>
 pe t18 0 fun t19=>pe t18 1 fun t20=>za (fun K7=>
 bt .gtr 148 t19 (Value.int .u64 0) fun t22=>za (fun K11=>gIf t22 false (bt .gtr 148 t20 (Value.int .u64 9223372036854775807) fun t25=>K11 [t25] w6) (K11 [undef] w6)) (fun s12 _d13 w14=>
 zb t22 tr_ (s12.getD 0 undef) fun t26=>zc t26 (pp (Instr.makeInterface 9 (Value.string { data:=#[116,104,101,32,114,101,115,117,108,116,32,111,102,32,40,108,101,110,40,120,41,32,42,32,99,111,117,110,116,41,32,111,118,101,114,102,108,111,119,115] })) fun _t27=>False) (K7 [] w14))) (fun _s8 _d9 w10=>
 pp (convert 148 3 t20) fun t29=>pw w10 (Instr.makeSlice 28 t29 t29) fun t30 w16=>
 pw w16 (Builtin.copy_ #[28,28] 3 #[t30,t0]) fun t33 w17=>
 zm [t33] w17 (fun s19 _d20 w21 K18=>
 pp (Builtin.len_ #[28] 3 #[t30]) fun t36=>bf .lss 3 (s19.getD 0 undef) t36 fun t37=>zc t37 (pp (Instr.sliceAt 28 t30 (some (s19.getD 0 undef)) none none) fun t41=>pp (Instr.sliceAt 28 t30 none (some (s19.getD 0 undef)) none) fun t44=>pw w21.drew (Builtin.copy_ #[28,28] 3 #[t41,t44]) fun t45 w22=>
 bf .add 3 (s19.getD 0 undef) t45 fun t46=>K18 [t46] w22) (K t30 w21))))
theorem YI {t0 t1 : Value} {w : World} {K : VW} (h : jd t0 t1 w K) : zd prog xQ #[t0,t1] w K:=
 okC false (.s (.r (rz 1 0 0)) (.j [] (.s (.r (rz 2 0 0)) (.c (.r (rz 2 0 8)) (.n))) (.s (.r (rz 11 0 2048)) (.j [] (.s (.r (ra 3 0 0 (.grp 23 false (ri 2 3 0) [25] (rz 1 5 0)))) (.c (.r (rz 2 0 8)) (.n))) (.s (.r (rz 4 0 32)) (.s (.r (rz 4 0 32)) (.s (.b (.lp [8] (.s (.s (.r (rz 4 0 0)) (.c (.n) (.n))) (.b (.r (rz 10 0 32768)))))) (.s (.r (rz 2 0 0)) (.n))))))))) func68 rfl (by kernel_rfl) (by kernel_rfl) h
def qi (t0 t1 : Value) (w : World) (K : VW) : Prop:=
 za (fun K1=>
 bt .lss 3 t1 (i6 0) fun t10=>zc t10 (pp (Instr.makeInterface 9 (Value.string { data:=#[99,97,110,110,111,116,32,98,101,32,110,101,103,97,116,105,118,101] })) fun _t11=>False) (K1 [] w)) (fun _s2 _d3 w4=>
 pp (Builtin.len_ #[75] 3 #[t0]) fun t14=>pp (convert 3 148 t14) fun t15=>pp (convert 3 148 t1) fun t17=>ca ve #[t15,t17] w4 fun t18 w6=>
 pe t18 0 fun t19=>pe t18 1 fun t20=>za (fun K7=>
 bt .gtr 148 t19 (Value.int .u64 0) fun t22=>za (fun K11=>gIf t22 false (bt .gtr 148 t20 (Value.int .u64 9223372036854775807) fun t25=>K11 [t25] w6) (K11 [undef] w6)) (fun s12 _d13 w14=>
 zb t22 tr_ (s12.getD 0 undef) fun t26=>zc t26 (pp (Instr.makeInterface 9 (Value.string { data:=#[116,104,101,32,114,101,115,117,108,116,32,111,102,32,40,108,101,110,40,120,41,32,42,32,99,111,117,110,116,41,32,111,118,101,114,102,108,111,119,115] })) fun _t27=>False) (K7 [] w14))) (fun _s8 _d9 w10=>
 pp (convert 148 3 t20) fun t29=>pw w10 (Instr.makeSlice 75 t29 t29) fun t30 w16=>
 pw w16 (Builtin.copy_ #[75,75] 3 #[t30,t0]) fun t33 w17=>
 zm [t33] w17 (fun s19 _d20 w21 K18=>
 pp (Builtin.len_ #[75] 3 #[t30]) fun t36=>bf .lss 3 (s19.getD 0 undef) t36 fun t37=>zc t37 (pp (Instr.sliceAt 75 t30 (some (s19.getD 0 undef)) none none) fun t41=>pp (Instr.sliceAt 75 t30 none (some (s19.getD 0 undef)) none) fun t44=>pw w21.drew (Builtin.copy_ #[75,75] 3 #[t41,t44]) fun t45 w22=>
 bf .add 3 (s19.getD 0 undef) t45 fun t46=>K18 [t46] w22) (K t30 w21))))
theorem ZV {t0 t1 : Value} {w : World} {K : VW} (h : qi t0 t1 w K) : zd prog yT #[t0,t1] w K:=
 okC false (.s (.r (rz 1 0 0)) (.j [] (.s (.r (rz 2 0 0)) (.c (.r (rz 2 0 8)) (.n))) (.s (.r (rz 11 0 2048)) (.j [] (.s (.r (ra 3 0 0 (.grp 23 false (ri 2 3 0) [25] (rz 1 5 0)))) (.c (.r (rz 2 0 8)) (.n))) (.s (.r (rz 4 0 32)) (.s (.r (rz 4 0 32)) (.s (.b (.lp [8] (.s (.s (.r (rz 4 0 0)) (.c (.n) (.n))) (.b (.r (rz 10 0 32768)))))) (.s (.r (rz 2 0 0)) (.n))))))))) func97 rfl (by kernel_rfl) (by kernel_rfl) h
def qF (t0 t1 : Value) (w : World) (K : VW) : Prop:=
 pp (Builtin.len_ #[75] 3 #[t0]) fun t7=>pp (Builtin.len_ #[75] 3 #[t1]) fun t9=>bf .neq 3 t7 t9 fun t10=>zc t10 (K fa_ w) (pp (Builtin.len_ #[75] 3 #[t0]) fun t12=>zm [(i6 0)] w (fun s2 _d3 w4 K1=>
 bf .lss 3 (s2.getD 0 undef) t12 fun t14=>zc t14 (xl w4.drew 75 t0 (s2.getD 0 undef) 4 fun t19=>xl w4.drew 75 t1 (s2.getD 0 undef) 4 fun t23=>bf .neq 4 t19 t23 fun t24=>zc t24 (K fa_ w4.drew) (bt .add 3 (s2.getD 0 undef) (i6 1) fun t25=>K1 [t25] w4.drew)) (K tr_ w4)))
theorem Yd {t0 t1 : Value} {w : World} {K : VW} (h : qF t0 t1 w K) : zd prog xG #[t0,t1] w K:=
 okC false (.s (.r (rz 1 0 0)) (.s (.s (.r (rz 5 0 0)) (.c (.s (.r (rz 1 0 0)) (.n)) (.n))) (.s (.s (.r (rz 3 0 0)) (.b (.lp [13] (.s (.r (rz 1 0 0)) (.s (.c (.n) (.n)) (.s (.b (.s (.r (rz 2 0 0)) (.s (.r (rz 9 0 16448)) (.c (.s (.r (rz 1 0 0)) (.n)) (.n))))) (.r (rz 2 0 0)))))))) (.s (.r (rz 1 0 0)) (.n))))) func98 rfl (by kernel_rfl) (by kernel_rfl) h
end Go.Proofs.Tryz
end
section
namespace Go.Proofs
open Go.Sh Go.RowKit
set_option maxRecDepth 100000
set_option linter.unusedSimpArgs false
set_option linter.unusedVariables false
def xr (c : List Value) (x : Bool) : Prop:=c = [.bool x]
def bls (m : List Bool) : List Value:=m.map Value.bool
theorem yI {m : List Bool} : (bls m).length=m.length:=List.length_map _
theorem xm {m : List Bool} : RowOf 1 xr (bls m) m:=⟨by rw [yI,Nat.mul_one],fun j hj=>by
 rw [Nat.mul_one,bls,← List.map_drop,← List.map_take,List.drop_eq_getElem_cons hj];rfl⟩
theorem zS {l : List Int} : RowOf 1 zu (ints l) l:=⟨by rw [zI,Nat.mul_one],fun j hj=>by
 rw [Nat.mul_one,ints,← List.map_drop,← List.map_take,List.drop_eq_getElem_cons hj];rfl⟩
theorem ahi {α : Type} {r : Gh} {V : α→Value} {p : Option Addr} {n cap : Nat} {l : List α} (h : SlG 1 r (fun c x=>c = [V x]) (.slice p n cap) l) {i : Nat} (hi : i<l.length) :
  ∃ b off,p=some ⟨b,off,none⟩∧n=l.length∧Ob r fun w=>w.cell? ⟨b,off+i,none⟩=some (V l[i]):=by
 have hsh:=h.shape
 obtain ⟨p',cap',e,_,_⟩:=hsh
 obtain ⟨b,off,c,hE,hc,hcc,hcl⟩:=h.get (by decide) hi
 obtain rfl : c=_:=hcc
 cases e
 cases hE
 refine ⟨b,off,rfl,rfl,?_⟩
 have:=hcl 0 _ rfl
 rwa [show off+i*1+0=off+i by omega] at this
theorem zE {r : Gh} {p : Option Addr} {n cap : Nat} {l : List Int} (h : SlG 1 r zu (.slice p n cap) l) {i : Nat} (hi : i<l.length) : ∃ b off,p=some ⟨b,off,none⟩∧n=l.length∧Ob r fun w=>w.cell? ⟨b,off+i,none⟩=some (.int .i64 l[i]):=ahi (V:=Value.int .i64) h hi
theorem jU {r : Gh} {p : Option Addr} {n cap : Nat} {l : List Bool} (h : SlG 1 r xr (.slice p n cap) l) {i : Nat} (hi : i<l.length) : ∃ b off,p=some ⟨b,off,none⟩∧n=l.length∧Ob r fun w=>w.cell? ⟨b,off+i,none⟩=some (.bool l[i]):=ahi (V:=Value.bool) h hi
theorem afr {l : List Int} {x : Int} {v : Value} {w : World} {r : Gh} {K : Value→World→Prop} (hr : Holds r w) (hl : SlG 1 r zu v l) (hf : l.length≤maxLen)
  (h : ∀ i : Int,(0≤i↔x ∈ l)→K (.int .i64 i) w) : zd Tryz.prog Tryz.x9 #[v,.int .i64 x] w K:=by
 refine Tryz.YR ?_
 unfold Tryz.jn
 obtain ⟨p,cap,rfl,_,_⟩:=hl.shape
 have hf : l.length≤9223372036854775807:=hf
 refine gp_ ?_
 refine zh (ι:=Nat) (fun i=>[.int .i64 (i : Nat)]) (fun i w'=>w'=w∧i≤l.length∧x ∉ l.take i) (fun i=>l.length - i) 0 rfl ⟨rfl,Nat.zero_le _,by simp⟩ ?_
 rintro i d w' ⟨rfl,hi,hn⟩ K1 hK1
 simp only [List.getD_cons_zero]
 refine gp_ ?_
 refine zj (fun hlt=>?_) (fun hge=>?_)
 ·have hlt : i<l.length:=by omega
  obtain ⟨b,off,rfl,_,hc⟩:=zE hl hlt
  refine gp_ ?_
  refine zi (by rw [Int.toNat_natCast];exact hc _ hr) ?_
  refine gp_ ?_
  refine zj (fun he=>?_) (fun he=>?_)
  ·exact h _ ⟨fun _=>by rw [he];exact List.getElem_mem hlt,fun _=>Int.natCast_nonneg _⟩
  ·refine gp_ ?_
   refine hK1 (i+1) _ ⟨rfl,hlt,?_⟩ (by omega)
   rw [List.take_succ_eq_append_getElem hlt,List.mem_append,List.mem_singleton]
   exact fun h=>h.elim hn he
 ·have : i=l.length:=by omega
  subst this
  rw [List.take_length] at hn
  exact h _ ⟨fun h=>by omega,fun h=>absurd h hn⟩
theorem qX {l : List Int} {x : Int} {v : Value} {w : World} {r : Gh} {K : Value→World→Prop} (hr : Holds r w) (hl : SlG 1 r zu v l) (hf : l.length≤maxLen)
  (h : K (.bool (decide (x ∈ l))) w) : zd Tryz.prog Tryz.z8 #[v,.int .i64 x] w K:=by
 refine Tryz.ZU ?_
 unfold Tryz.qh
 refine afr hr hl hf fun i hi=>?_
 refine gp_ ?_
 have e : decide (0≤i)=decide (x ∈ l):=by
  rw [decide_eq_decide];exact hi
 rw [e];exact h
theorem aeG {l m : List Bool} {v u : Value} {w : World} {r : Gh} {K : Value→World→Prop} (hr : Holds r w) (hl : SlG 1 r xr v l) (hm : SlG 1 r xr u m) (hf : l.length≤maxLen)
  (h : ∀ w',Ext w w'→K (.bool (decide (l=m))) w') : zd Tryz.prog Tryz.xG #[v,u] w K:=by
 refine Tryz.Yd ?_
 unfold Tryz.qF
 obtain ⟨p,cap,rfl,_,_⟩:=hl.shape
 obtain ⟨q,cap',rfl,_,_⟩:=hm.shape
 have hf : l.length≤9223372036854775807:=hf
 have S:=St.start hr
 refine gg_ ?_
 refine zj (fun hne=>?_) (fun heq=>?_)
 ·have:=h w (.refl _)
  rwa [decide_eq_false (fun e=>hne (by rw [e]))] at this
 have hll : l.length=m.length:=by omega
 refine gp_ ?_
 refine zh (ι:=Nat) (fun i=>[.int .i64 (i : Nat)]) (fun i w'=>StX noX w r w' []∧i≤l.length∧l.take i=m.take i) (fun i=>l.length - i) 0 rfl ⟨S,Nat.zero_le _,by simp⟩ ?_
 clear S
 rintro i d w' ⟨S,hi,he⟩ K1 hK1
 simp only [List.getD_cons_zero]
 refine gp_ ?_
 refine zj (fun hlt=>?_) (fun hge=>?_)
 ·have hlt : i<l.length:=by omega
  have S:=S.go (Ext.drew _)
  obtain ⟨b,off,rfl,_,hc⟩:=jU hl hlt
  obtain ⟨b',off',rfl,_,hc'⟩:=jU hm (i:=i) (by omega)
  refine gg_ ?_
  refine zi (by rw [Int.toNat_natCast];exact S.at hc) ?_
  refine gg_ ?_
  refine zi (by rw [Int.toNat_natCast];exact S.at hc') ?_
  refine gg_ ?_
  refine c_b (fun hne=>?_) (fun heq=>?_)
  ·have:=h _ S.ext
   rwa [decide_eq_false (fun e=>by subst e;simp at hne)] at this
  ·refine gg_ ?_
   refine hK1 (i+1) _ ⟨S,hlt,?_⟩ (by omega)
   rw [List.take_succ_eq_append_getElem hlt,List.take_succ_eq_append_getElem (by omega),he]
   have : l[i]=m[i]'(by omega):=by simpa using heq
   rw [this]
 ·have : i=l.length:=by omega
  subst this
  rw [List.take_length,hll,List.take_length] at he
  have:=h _ S.ext
  rwa [decide_eq_true he] at this
theorem VD {l : List Int} {v : Value} {w0 w : World} {r : Gh} {L : List Asr} {X : Nat→Prop} {K : Value→World→Prop} (S : StX X w0 r w L) (hl : SlG 1 r zu v l) (hf : l.length≤1000000)
  (h : ∀ v' w',StX X w0 r w' (.row v' 3 1 l.length (ints l)::L)→K v' w') : zd Tryz.prog Tryz.ka #[v] w K:=by
 obtain ⟨p,cap,rfl,hp,_⟩:=hl.shape
 by_cases h0 : l = []
 ·subst h0
  cases p with
  |none=>
   have:=hp rfl;subst this
   refine Calls.mono (Any.slices_Clone_int_nil Tryz.Jr 0 0 w) ?_
   rintro e w' ⟨rfl,rfl⟩
   exact ⟨_,rfl,h _ _ (S.ownNil 3 1)⟩
  |some a=>
   refine Calls.mono (Any.slices_Clone_int_zero Tryz.Jr a cap w) ?_
   rintro e w' ⟨v',rfl,ho,_,hB⟩
   have hE : Ext w w':=⟨hB.os,hB.tape,hB.output,hB.size,hB.block⟩
   exact ⟨_,rfl,h _ _ (S.take hE ho)⟩
 ·obtain ⟨b,off,rfl,_,_⟩:=zE hl (i:=0) (List.length_pos_iff.2 h0)
  refine Calls.mono (Any.slices_Clone_int Tryz.Jr b off l.length cap l w (Nat.le_refl _) (by omega) fun j hj=>?_) ?_
  ·obtain ⟨b',off',hE,_,hc⟩:=zE hl hj
   cases hE
   rw [S.at hc,List.getD_eq_getElem?_getD,List.getElem?_eq_getElem hj];rfl
  rintro e w' ⟨v',rfl,ho,_,hB⟩
  have hE : Ext w w':=⟨hB.os,hB.tape,hB.output,hB.size,hB.block⟩
  rw [List.take_length] at ho
  exact ⟨_,rfl,h _ _ (S.take hE ho)⟩
theorem abf {x y : Nat} {w : World} {K : Value→World→Prop} (hx : x<4294967296) (hy : y<4294967296)
  (h : K (.tuple #[.int .u64 0,.int .u64 (x*y : Nat)]) w) : zd Tryz.prog Tryz.ve #[.int .u64 (x : Nat),.int .u64 (y : Nat)] w K:=by
 refine Calls.mono (Any.bits_Mul Tryz.ai9 x y (by omega) (by omega) w) ?_
 rintro e w' ⟨rfl,rfl⟩
 have h1 : x*y<18446744073709551616:=Nat.lt_of_lt_of_le (Nat.mul_lt_mul'' hx hy) (by decide)
 rw [Nat.div_eq_of_lt h1,Nat.mod_eq_of_lt h1]
 exact ⟨_,rfl,h⟩
theorem adu {v : Value} {l : List Int} {w0 w : World} {r : Gh} {L : List Asr} {X : Nat→Prop} {K : Value→World→Prop} (S : StX X w0 r w (.row v 3 1 l.length (ints l)::L)) (hl : l.length<4611686018427387904)
  (h : ∀ w',StX X w0 r w' (.row v 3 1 l.length (ints l.reverse)::L)→K (.tuple #[]) w') : zd Tryz.prog Tryz.qy #[v] w K:=by
 have hr : w.ownsRow 0 3 1 v l.length (ints l):=S.has _ (List.mem_cons_self ..)
 rcases qI hr with ⟨rfl,h1,h2⟩|⟨g,cap,c,rfl,hg,B,hn,hm,hcl,ht⟩
 ·have hl0 : l = []:=List.eq_nil_of_length_eq_zero h1
  subst hl0
  refine Calls.mono (Any.slices_Reverse_int_empty Tryz.afO none 0 w) ?_
  rintro e w' ⟨rfl,rfl⟩
  exact ⟨_,rfl,h _ (by simpa using S)⟩
 ·rw [Nat.mul_one] at hcl ht
  have hcell : ∀ j,j<l.length→w.cell? ⟨g,j,none⟩=some (.int .i64 l[j]!):=fun j hj=>by
   have : (c.take l.length)[j]? = some (.int .i64 l[j]!):=by
    rw [ht,ints,List.getElem?_map,List.getElem?_eq_getElem hj,getElem!_pos l j hj];rfl
   rw [List.getElem?_take,if_pos hj] at this
   rw [B.cell];exact this
  have hfz : ∀ j,w.frozen? ⟨g,j,none⟩=false:=fun j=>B.unfrozen j
  refine Calls.mono (Any.slices_Reverse_int Tryz.afO g 0 cap l w (fun j hj=>⟨?_,hfz _⟩) (by omega)) ?_
  ·have hj : j<l.length:=by simpa using hj
   rw [Nat.zero_add,hcell j hj]
   simp [getElem!_pos,hj]
  rintro e w' ⟨rfl,q,hw⟩
  obtain ⟨hE,hB⟩:=acL (w':=w') (q:=q) (d:=l.reverse.toArray) (os:=#[]) B (by simp;omega) (by rw [hw];simp [Sort.grow];rfl)
  refine ⟨_,rfl,h w' ?_⟩
  refine S.turn (p:=[]) (x:=.row (.slice (some ⟨g,0,none⟩) l.length cap) 3 1 l.length (ints l)) (y:=.row (.slice (some ⟨g,0,none⟩) l.length cap) 3 1 l.length (ints l.reverse)) ?_ ?_ fun k hk=>.inl hk
  ·exact hE.mono fun k _ hk=>by subst hk;rfl
  ·have:=Z7 (base:=0) (e:=3) (size:=1) (n:=l.length) (cap:=cap) (Nat.zero_le _) hB hn hm (by simp;omega)
   have e : (l.reverse.toArray.toList.map (Value.int .i64)++c.drop l.reverse.toArray.size).take (l.length*1)=ints l.reverse:=by
    rw [Nat.mul_one,List.take_append_of_le_length (by simp)]
    exact List.take_of_length_le (by simp)
   rwa [e] at this
theorem Qx {z : Bool} {n sb : Nat} {T : TypeId} {w0 w : World} {r : Gh} {L : List Asr} {X : Nat→Prop} {K : Value→World→Prop} {f : List Value→List Asr} (S : StX X w0 r w L) [hA : At sb L [Value.bool z] T f] (h1 : 1≤n) (h2 : n≤100000)
  (h : ∀ b w',StX X w0 r w' (.cell b (List.replicate n (Value.bool z)) 4::L)→K (.slice (some ⟨b,0,none⟩) n n) w') : zd Tryz.prog Tryz.yT #[.slice (some ⟨sb,0,none⟩) 1 1,.int .i64 (n : Nat)] w K:=by
 refine Tryz.ZV ?_
 unfold Tryz.qi
 refine zp (fun s w'=>s = []∧w'=w) (fun K1 hK1=>?_) ?_
 ·refine gg_ ?_
  refine zj (fun hn=>by omega) (fun _=>?_)
  exact hK1 _ _ ⟨rfl,rfl⟩
 rintro s w' ⟨rfl,rfl⟩ d
 refine gg_ ?_
 refine abf (x:=1) (y:=n) (by decide) (by omega) ?_
 rw [Nat.one_mul]
 refine gS_ ?_
 refine zp (fun s w''=>s = []∧w''=w') (fun K7 hK7=>?_) ?_
 ·refine gg_ ?_
  refine zk (c:=false) (fun _ K2 hK2=>?_) ?_
  ·refine gg_ ?_
   rw [decide_eq_false (by omega)]
   exact hK2
  refine c_f (by simp) ?_
  exact hK7 _ _ ⟨rfl,rfl⟩
 rintro s w'' ⟨rfl,rfl⟩ d
 refine gg_ ?_
 refine S.mkS (by omega) (by omega) fun b w1 S=>?_
 rw [Int.toNat_natCast] at S ⊢
 refine S.cpM (b:=b) (cs:=[Value.bool z]) (by rw [List.length_singleton];exact (Nat.min_eq_left h1).symm) (fun j v hj=>?_) (by rw [List.length_singleton,List.length_replicate];omega) (by simp [Value.oneCell']) fun w2 S=>?_
 ·have B:=S.blk sb
  rw [Nat.zero_add,B.cell];exact hj
 have S : StX X w0 r w2 (.cell b (List.replicate 1 (Value.bool z)++List.replicate (n - 1) (Value.bool false)) 4::L):=by
  have e : (List.replicate n (Value.bool false)).take 0 ++ [Value.bool z]++(List.replicate n (Value.bool false)).drop (0 + [Value.bool z].length)=List.replicate 1 (Value.bool z)++List.replicate (n - 1) (Value.bool false):=by simp
  rw [← e];exact S
 refine zh (ι:=Nat) (fun k=>[.int .i64 (k : Nat)]) (fun k w'=>1≤k∧k≤n∧StX X w0 r w' (.cell b (List.replicate k (Value.bool z)++List.replicate (n - k) (Value.bool false)) 4::L)) (fun k=>n - k) 1 rfl ⟨Nat.le_refl _,h1,S⟩ ?_
 repeat clear S
 rintro k d w3 ⟨hk1,hk2,S⟩ K18 hK18
 simp only [List.getD_cons_zero]
 refine gg_ ?_
 refine zj (fun hlt=>?_) (fun hge=>?_)
 ·have hlt : k<n:=by omega
  have S:=S.go (Ext.drew _)
  refine gp_ ?_
  refine gp_ ?_
  rw [if_neg (by omega),Option.map_some,xc,Int.toNat_natCast]
  refine S.cpM (b:=b) (cs:=List.replicate (min k (n - k)) (Value.bool z)) (by rw [List.length_replicate]) (fun j v hj=>?_) (by simp only [List.length_replicate,List.length_append];omega) (fun v hv=>by rw [(List.mem_replicate.1 hv).2];rfl) fun w4 S=>?_
  ·have B:=S.blk b
   rw [List.getElem?_replicate] at hj
   split at hj
   ·rw [Nat.zero_add,B.cell,List.getElem?_append_left (by rw [List.length_replicate];omega),List.getElem?_replicate,if_pos (by omega)];exact hj
   ·cases hj
  rw [List.length_replicate]
  refine gp_ ?_
  refine hK18 (k+min k (n - k)) _ ⟨by omega,by omega,?_⟩ (by omega)
  have e : (List.replicate k (Value.bool z)++List.replicate (n - k) (Value.bool false)).take (0+k*1)++List.replicate (min k (n - k)) (Value.bool z)++(List.replicate k (Value.bool z)++List.replicate (n - k) (Value.bool false)).drop (0+k*1+(List.replicate (min k (n - k)) (Value.bool z)).length)=List.replicate (k+min k (n - k)) (Value.bool z)++List.replicate (n - (k+min k (n - k))) (Value.bool false):=by
   rw [Nat.zero_add,Nat.mul_one,List.length_replicate,List.take_left' (by simp),List.drop_append,List.drop_of_length_le (by simp),List.length_replicate,List.nil_append,List.drop_replicate,← List.replicate_append_replicate]
   congr 2;omega
  rw [← e];exact S
 have hke : k=n:=by omega
 subst hke
 rw [Nat.sub_self,List.replicate_zero,List.append_nil] at S
 exact h _ _ S
theorem aeH {z : Int} {n sb : Nat} {T : TypeId} {w0 w : World} {r : Gh} {L : List Asr} {X : Nat→Prop} {K : Value→World→Prop} {f : List Value→List Asr} (S : StX X w0 r w L) [hA : At sb L [Value.int .i64 z] T f] (h1 : 1≤n) (h2 : n≤100000)
  (h : ∀ b w',StX X w0 r w' (.cell b (List.replicate n (Value.int .i64 z)) 3::L)→K (.slice (some ⟨b,0,none⟩) n n) w') : zd Tryz.prog Tryz.xQ #[.slice (some ⟨sb,0,none⟩) 1 1,.int .i64 (n : Nat)] w K:=by
 refine Tryz.YI ?_
 unfold Tryz.jd
 refine zp (fun s w'=>s = []∧w'=w) (fun K1 hK1=>?_) ?_
 ·refine gg_ ?_
  refine zj (fun hn=>by omega) (fun _=>?_)
  exact hK1 _ _ ⟨rfl,rfl⟩
 rintro s w' ⟨rfl,rfl⟩ d
 refine gg_ ?_
 refine abf (x:=1) (y:=n) (by decide) (by omega) ?_
 rw [Nat.one_mul]
 refine gS_ ?_
 refine zp (fun s w''=>s = []∧w''=w') (fun K7 hK7=>?_) ?_
 ·refine gg_ ?_
  refine zk (c:=false) (fun _ K2 hK2=>?_) ?_
  ·refine gg_ ?_
   rw [decide_eq_false (by omega)]
   exact hK2
  refine c_f (by simp) ?_
  exact hK7 _ _ ⟨rfl,rfl⟩
 rintro s w'' ⟨rfl,rfl⟩ d
 refine gg_ ?_
 refine S.mkS (by omega) (by omega) fun b w1 S=>?_
 rw [Int.toNat_natCast] at S ⊢
 refine S.cpM (b:=b) (cs:=[Value.int .i64 z]) (by rw [List.length_singleton];exact (Nat.min_eq_left h1).symm) (fun j v hj=>?_) (by rw [List.length_singleton,List.length_replicate];omega) (by simp [Value.oneCell']) fun w2 S=>?_
 ·have B:=S.blk sb
  rw [Nat.zero_add,B.cell];exact hj
 have S : StX X w0 r w2 (.cell b (List.replicate 1 (Value.int .i64 z)++List.replicate (n - 1) (Value.int .i64 0)) 3::L):=by
  have e : (List.replicate n (Value.int .i64 0)).take 0 ++ [Value.int .i64 z]++(List.replicate n (Value.int .i64 0)).drop (0 + [Value.int .i64 z].length)=List.replicate 1 (Value.int .i64 z)++List.replicate (n - 1) (Value.int .i64 0):=by simp
  rw [← e];exact S
 refine zh (ι:=Nat) (fun k=>[.int .i64 (k : Nat)]) (fun k w'=>1≤k∧k≤n∧StX X w0 r w' (.cell b (List.replicate k (Value.int .i64 z)++List.replicate (n - k) (Value.int .i64 0)) 3::L)) (fun k=>n - k) 1 rfl ⟨Nat.le_refl _,h1,S⟩ ?_
 repeat clear S
 rintro k d w3 ⟨hk1,hk2,S⟩ K18 hK18
 simp only [List.getD_cons_zero]
 refine gg_ ?_
 refine zj (fun hlt=>?_) (fun hge=>?_)
 ·have hlt : k<n:=by omega
  have S:=S.go (Ext.drew _)
  refine gp_ ?_
  refine gp_ ?_
  rw [if_neg (by omega),Option.map_some,xc,Int.toNat_natCast]
  refine S.cpM (b:=b) (cs:=List.replicate (min k (n - k)) (Value.int .i64 z)) (by rw [List.length_replicate]) (fun j v hj=>?_) (by simp only [List.length_replicate,List.length_append];omega) (fun v hv=>by rw [(List.mem_replicate.1 hv).2];rfl) fun w4 S=>?_
  ·have B:=S.blk b
   rw [List.getElem?_replicate] at hj
   split at hj
   ·rw [Nat.zero_add,B.cell,List.getElem?_append_left (by rw [List.length_replicate];omega),List.getElem?_replicate,if_pos (by omega)];exact hj
   ·cases hj
  rw [List.length_replicate]
  refine gp_ ?_
  refine hK18 (k+min k (n - k)) _ ⟨by omega,by omega,?_⟩ (by omega)
  have e : (List.replicate k (Value.int .i64 z)++List.replicate (n - k) (Value.int .i64 0)).take (0+k*1)++List.replicate (min k (n - k)) (Value.int .i64 z)++(List.replicate k (Value.int .i64 z)++List.replicate (n - k) (Value.int .i64 0)).drop (0+k*1+(List.replicate (min k (n - k)) (Value.int .i64 z)).length)=List.replicate (k+min k (n - k)) (Value.int .i64 z)++List.replicate (n - (k+min k (n - k))) (Value.int .i64 0):=by
   rw [Nat.zero_add,Nat.mul_one,List.length_replicate,List.take_left' (by simp),List.drop_append,List.drop_of_length_le (by simp),List.length_replicate,List.nil_append,List.drop_replicate,← List.replicate_append_replicate]
   congr 2;omega
  rw [← e];exact S
 have hke : k=n:=by omega
 subst hke
 rw [Nat.sub_self,List.replicate_zero,List.append_nil] at S
 exact h _ _ S
end Go.Proofs
end
section
namespace Go.Proofs
set_option linter.unusedVariables false
set_option linter.unusedSimpArgs false
abbrev zT : Int→Prop:=fun _=>False
def Dom (n : zg) (p q : Int) : Prop:=p=q∨p=0∨¬ Rchd n (· = p) 0 q
def befN (n : zg) (q : Int) : List Int:=((List.range n.length).filter fun p=>(n.getD p []).contains q).map Int.ofNat
theorem qY {n : zg} {q p : Int} : p ∈ befN n q↔isN n p∧q ∈ nxt n p:=by
 rw [befN,List.mem_map]
 constructor
 ·rintro ⟨i,hi,rfl⟩
  rw [List.mem_filter,List.mem_range,List.contains_iff_mem] at hi
  exact ⟨⟨Int.natCast_nonneg i,by rw [Int.ofNat_eq_natCast];omega⟩,hi.2⟩
 ·rintro ⟨⟨h0,h1⟩,h⟩
  refine ⟨p.toNat,?_,Int.toNat_of_nonneg h0⟩
  rw [List.mem_filter,List.mem_range,List.contains_iff_mem]
  exact ⟨by omega,h⟩
abbrev yH:=List (Option (List Bool))
def rwA (R : yH) (q : Int) : Option (List Bool):=R.getD q.toNat none
def rwH (R : yH) (p i : Int) : Bool:=match rwA R p with|some m=>mk' m i|none=>true
def rwF (n : zg) (R : yH) (q : Int) : List Bool:=(List.range n.length).map fun (i : Nat)=>decide ((i : Int)=q)||(befN n q).all fun p=>rwH R p i
theorem Yg {n : zg} {R : yH} {q : Int} : (rwF n R q).length=n.length:=by simp [rwF]
theorem abg {n : zg} {R : yH} {q i : Int} (hi : isN n i) : mk' (rwF n R q) i=true↔i=q∨∀ p ∈ befN n q,rwH R p i=true:=by
 have h0:=hi.1;have h1:=hi.2
 rw [mk',rwF,List.getD_eq_getElem?_getD,List.getElem?_map,List.getElem?_range (by omega)]
 simp [Int.toNat_of_nonneg h0]
def rwW (R : yH) : Nat:=(R.map fun o=>match o with|some m=>m.countP id|none=>0).sum
structure Abv (n : zg) (R : yH) : Prop where
 len : R.length=n.length
 rows : ∀ q m,rwA R q=some m→m.length=n.length
 some' : ∀ q,isN n q→((rwA R q).isSome=true↔Rchd n zT 0 q)
 zero : rwA R 0=some (zy (List.replicate n.length false) 0)
 sound : ∀ q m,isN n q→rwA R q=some m→∀ i,isN n i→Dom n i q→mk' m i=true
 post : ∀ q m,isN n q→q≠0→rwA R q=some m→∀ i,isN n i→mk' (rwF n R q) i=true→mk' m i=true
theorem aja {R : yH} {q x : Int} {o : Option (List Bool)} (hq : 0≤q) (hq2 : q<R.length) (hx : 0≤x) : rwA (R.set q.toNat o) x=if x=q then o else rwA R x:=by
 rw [rwA,List.getD_eq_getElem?_getD,List.getElem?_set]
 by_cases h : x=q
 ·subst h;rw [if_pos rfl,if_pos rfl,if_pos (by omega)];rfl
 ·rw [if_neg (by omega),if_neg h];rw [rwA,List.getD_eq_getElem?_getD]
theorem acM : ∀ {a b : List Bool},a.length=b.length→(∀ i,a.getD i false=true→b.getD i false=true)→a.countP id≤b.countP id∧(a≠b→a.countP id<b.countP id)
 |[],[],_,_=>⟨Nat.le_refl _,fun h=>absurd rfl h⟩
 |x::a,y::b,hl,h=>by
  have ih:=acM (a:=a) (b:=b) (by simpa using hl) fun i hi=>by simpa using h (i+1) (by simpa using hi)
  have h0:=h 0
  simp only [List.getD_cons_zero] at h0
  simp only [List.countP_cons,id]
  cases x with
  |true=>
   rw [h0 rfl]
   refine ⟨by have:=ih.1;simp;omega,fun hne=>?_⟩
   have:=ih.2 fun e=>hne (by rw [e])
   simp;omega
  |false=>
   cases y with
   |true=>refine ⟨by have:=ih.1;simp;omega,fun _=>by have:=ih.1;simp;omega⟩
   |false=>
    refine ⟨by have:=ih.1;simp;omega,fun hne=>?_⟩
    have:=ih.2 fun e=>hne (by rw [e])
    simp;omega
theorem afP : ∀ {l : List Nat} {k v : Nat},k<l.length→(l.set k v).sum+l.getD k 0=l.sum+v
 |[],k,v,h=>by simp at h
 |a::l,0,v,h=>by simp;omega
 |a::l,k+1,v,h=>by
  have:=afP (l:=l) (k:=k) (v:=v) (by simpa using h)
  simp only [List.set_cons_succ,List.sum_cons,List.getD_cons_succ]
  omega
theorem ajb {R : yH} {q : Int} {m m' : List Bool} (hq : q.toNat<R.length) (h : rwA R q=some m) : rwW (R.set q.toNat (some m'))+m.countP id=rwW R+m'.countP id:=by
 rw [rwW,rwW,List.map_set]
 have:=afP (l:=R.map fun o=>match o with|some m=>m.countP id|none=>0) (k:=q.toNat) (v:=m'.countP id) (by rw [List.length_map];exact hq)
 rw [rwA,List.getD_eq_getElem?_getD,List.getElem?_eq_getElem hq,Option.getD_some] at h
 have e : (R.map fun o=>match o with|some m=>m.countP id|none=>0).getD q.toNat 0=m.countP id:=by
  rw [List.getD_eq_getElem?_getD,List.getElem?_map,List.getElem?_eq_getElem hq,h];rfl
 rw [e] at this
 exact this
theorem Abv.turn {n : zg} (hn : ym n) {R : yH} (h : Abv n R) {q : Int} {m : List Bool} (hq : isN n q) (hq0 : q≠0) (hm : rwA R q=some m) :
  Abv n (R.set q.toNat (some (rwF n R q)))∧rwW (R.set q.toNat (some (rwF n R q)))≤rwW R∧(rwF n R q≠m→rwW (R.set q.toNat (some (rwF n R q)))<rwW R):=by
 have q0:=hq.1
 have q1 : q<R.length:=by rw [h.len];exact hq.2
 have hset : ∀ {x : Int},0≤x→rwA (R.set q.toNat (some (rwF n R q))) x=if x=q then some (rwF n R q) else rwA R x:=fun hx=>aja q0 q1 hx
 have hsub : ∀ i,isN n i→mk' (rwF n R q) i=true→mk' m i=true:=h.post q m hq hq0 hm
 have hH : ∀ p i,isN n p→isN n i→rwH (R.set q.toNat (some (rwF n R q))) p i=true→rwH R p i=true:=fun p i hp hi hh=>by
  rw [rwH,hset hp.1] at hh
  by_cases e : p=q
  ·subst e
   rw [if_pos rfl] at hh
   rw [rwH,hm]
   exact hsub i hi hh
  ·rw [if_neg e] at hh;exact hh
 have hF : ∀ x i,isN n i→mk' (rwF n (R.set q.toNat (some (rwF n R q))) x) i=true→mk' (rwF n R x) i=true:=fun x i hi hh=>by
  rw [abg hi] at hh ⊢
  rcases hh with e|hh
  ·exact .inl e
  ·exact .inr fun p hp=>hH p i (qY.1 hp).1 hi (hh p hp)
 have hml:=h.rows q m hm
 have hcnt:=acM (a:=rwF n R q) (b:=m) (by rw [Yg,hml]) fun i hi=>by
  have hi1 : i<n.length:=by
   refine Nat.lt_of_not_le fun hl=>?_
   rw [List.getD_eq_getElem?_getD,List.getElem?_eq_none (by rw [Yg];exact hl)] at hi
   cases hi
  have:=hsub (i : Nat) ⟨Int.natCast_nonneg i,by omega⟩ hi
  exact this
 have hw:=ajb (R:=R) (q:=q) (m:=m) (m':=rwF n R q) (by omega) hm
 refine ⟨⟨by rw [List.length_set];exact h.len,fun x m' hx=>?_,fun x hx=>?_,?_,fun x m' hx hx' i hi hd=>?_,fun x m' hx hx0 hx' i hi hh=>?_⟩,by omega,fun hne=>by have:=hcnt.2 hne;omega⟩
 ·by_cases e : x.toNat=q.toNat
  ·rw [rwA,e,List.getD_eq_getElem?_getD,List.getElem?_set_self (by omega)] at hx
   cases hx;exact Yg
  ·rw [rwA,List.getD_eq_getElem?_getD,List.getElem?_set_ne (fun h=>e h.symm)] at hx
   exact h.rows x m' (by rw [rwA,List.getD_eq_getElem?_getD];exact hx)
 ·rw [hset hx.1,← h.some' x hx]
  by_cases e : x=q
  ·subst e;rw [if_pos rfl,hm];simp
  ·rw [if_neg e]
 ·rw [hset (Int.le_refl _),if_neg (fun e=>hq0 e.symm)];exact h.zero
 ·rw [hset hx.1] at hx'
  by_cases e : x=q
  ·subst e
   rw [if_pos rfl] at hx'
   cases hx'
   rw [abg hi]
   rcases hd with e|hd
   ·exact .inl e
   ·refine .inr fun p hp=>?_
    obtain ⟨hp1,hp2⟩:=qY.1 hp
    rw [rwH]
    split
    ·rename_i m2 hm2
     refine h.sound p m2 hp1 hm2 i hi ?_
     rcases hd with e|hd
     ·exact .inr (.inl e)
     ·by_cases hip : i=p
      ·exact .inl hip
      ·exact .inr (.inr fun hr=>hd (.step hr (.inr fun e=>hip e.symm) hp2))
    ·rfl
  ·rw [if_neg e] at hx';exact h.sound x m' hx hx' i hi hd
 ·rw [hset hx.1] at hx'
  by_cases e : x=q
  ·subst e
   rw [if_pos rfl] at hx'
   cases hx'
   exact hF x i hi hh
  ·rw [if_neg e] at hx'
   exact h.post x m' hx hx0 hx' i hi (hF x i hi hh)
theorem Abv.start {n : zg} {R : yH} (h0 : 0<n.length) (hl : R.length=n.length) (hz : rwA R 0=some (zy (List.replicate n.length false) 0))
  (ho : ∀ q,isN n q→q≠0→(Rchd n zT 0 q→rwA R q=some (List.replicate n.length true))∧(¬ Rchd n zT 0 q→rwA R q=none)) : Abv n R:=by
 have hmk : ∀ i,isN n i→mk' (List.replicate n.length true) i=true:=fun i hi=>by
  have:=hi.1;have:=hi.2
  rw [mk',List.getD_eq_getElem?_getD,List.getElem?_replicate,if_pos (by omega)];rfl
 refine ⟨hl,fun q m hm=>?_,fun q hq=>?_,hz,fun q m hq hm i hi hd=>?_,fun q m hq hq0 hm i hi _=>?_⟩
 ·by_cases hq : q.toNat<n.length
  ·by_cases e : q.toNat=0
   ·rw [rwA,e] at hm
    rw [rwA] at hz
    simp only [Int.toNat_zero] at hz
    rw [hz] at hm
    cases hm
    rw [zG,List.length_replicate]
   ·have hqn : isN n q:=⟨by omega,by omega⟩
    by_cases hr : Rchd n zT 0 q
    ·rw [(ho q hqn (by omega)).1 hr] at hm;cases hm;exact List.length_replicate
    ·rw [(ho q hqn (by omega)).2 hr] at hm;cases hm
  ·rw [rwA,List.getD_eq_getElem?_getD,List.getElem?_eq_none (by omega)] at hm;cases hm
 ·by_cases e : q=0
  ·subst e;rw [hz];simp only [Option.isSome_some,true_iff];exact .base
  ·by_cases hr : Rchd n zT 0 q
   ·rw [(ho q hq e).1 hr];simp [hr]
   ·rw [(ho q hq e).2 hr];simp [hr]
 ·by_cases e : q=0
  ·subst e
   rw [hz] at hm;cases hm
   rw [xt (Int.le_refl _) (by rw [List.length_replicate];omega) hi.1]
   rcases hd with e|e|hd
   ·simp [e]
   ·simp [e]
   ·exact absurd .base hd
  ·by_cases hr : Rchd n zT 0 q
   ·rw [(ho q hq e).1 hr] at hm;cases hm;exact hmk i hi
   ·rw [(ho q hq e).2 hr] at hm;cases hm
 ·by_cases hr : Rchd n zT 0 q
  ·rw [(ho q hq hq0).1 hr] at hm;cases hm;exact hmk i hi
  ·rw [(ho q hq hq0).2 hr] at hm;cases hm
noncomputable def ku (n : zg) (q : Int) : Option (List Bool):=by
 classical exact if Rchd n zT 0 q then some ((List.range n.length).map fun i=>decide (Dom n (i : Nat) q)) else none
theorem Js {n : zg} {q : Int} {m : List Bool} (h : ku n q=some m) : Rchd n zT 0 q∧m.length=n.length∧∀ i,isN n i→(mk' m i=true↔Dom n i q):=by
 rw [ku] at h
 split at h
 ·rename_i hr
  cases h
  refine ⟨hr,by simp,fun i hi=>?_⟩
  have h0:=hi.1;have h1:=hi.2
  rw [mk',List.getD_eq_getElem?_getD,List.getElem?_map,List.getElem?_range (by omega)]
  simp [Int.toNat_of_nonneg h0]
 ·cases h
theorem ahj {n : zg} {q : Int} (h : ¬ Rchd n zT 0 q) : ku n q=none:=by rw [ku,if_neg h]
theorem afQ {n : zg} {q : Int} (h : Rchd n zT 0 q) : ∃ m,ku n q=some m:=by rw [ku,if_pos h];exact ⟨_,rfl⟩
theorem Abv.end {n : zg} (hn : ym n) (h0 : 0<n.length) {R : yH} (h : Abv n R) (hf : ∀ q,isN n q→q≠0→Rchd n zT 0 q→rwA R q=some (rwF n R q)) {q : Int} (hq : isN n q) : rwA R q=ku n q:=by
 have hz0 : isN n 0:=⟨Int.le_refl _,by omega⟩
 by_cases hr : Rchd n zT 0 q
 ·obtain ⟨m,hm⟩:=Option.isSome_iff_exists.1 ((h.some' q hq).2 hr)
  obtain ⟨m',hm'⟩:=afQ hr
  obtain ⟨_,hl',hd'⟩:=Js hm'
  rw [hm,hm']
  congr 1
  refine qj (by rw [h.rows q m hm,hl']) fun i i0 i1=>?_
  have hi : isN n i:=⟨i0,by rw [← h.rows q m hm];exact i1⟩
  rw [Bool.eq_iff_iff,hd' i hi]
  refine ⟨fun hmi=>?_,fun hd=>h.sound q m hq hm i hi hd⟩
  refine Classical.byContradiction fun hnd=>?_
  rw [Dom,not_or,not_or,Classical.not_not] at hnd
  obtain ⟨hiq,hi0,hrc⟩:=hnd
  have key : ∀ v,Rchd n (· = i) 0 v→Rchd n zT 0 v∧(v≠i→∀ mv,rwA R v=some mv→mk' mv i=false):=fun v hv=>by
   induction hv with
   |base=>
    refine ⟨.base,fun _ mv hmv=>?_⟩
    rw [h.zero] at hmv;cases hmv
    rw [xt (Int.le_refl _) (by rw [List.length_replicate];omega) i0,decide_eq_false hi0,Bool.false_or,mk',List.getD_eq_getElem?_getD,List.getElem?_replicate]
    split<;>rfl
   |@step v v' hv hc hp ih=>
    have hrv' : Rchd n zT 0 v':=.step ih.1 (.inr id) hp
    refine ⟨hrv',fun hvi mv hmv=>?_⟩
    have hv' : isN n v':=yu hn hp
    have hvN:=hv.isN hn hz0
    by_cases e0 : v'=0
    ·subst e0
     rw [h.zero] at hmv;cases hmv
     rw [xt (Int.le_refl _) (by rw [List.length_replicate];omega) i0,decide_eq_false hi0,Bool.false_or,mk',List.getD_eq_getElem?_getD,List.getElem?_replicate]
     split<;>rfl
    ·rw [hf v' hv' e0 hrv'] at hmv
     cases hmv
     refine Bool.eq_false_iff.2 fun hmk=>?_
     rw [abg hi] at hmk
     rcases hmk with e|hmk
     ·exact hvi e.symm
     ·have h1:=hmk v (qY.2 ⟨hvN,hp⟩)
      obtain ⟨mv,hmv⟩:=Option.isSome_iff_exists.1 ((h.some' v hvN).2 ih.1)
      rw [rwH,hmv] at h1
      have hvne : v≠i:=by
       rcases hc with e|hc
       ·rw [e];exact fun e=>hi0 e.symm
       ·exact hc
      have:=ih.2 hvne mv hmv
      have h1 : mk' mv i=true:=h1
      rw [this] at h1;cases h1
  have:=(key q hrc).2 (fun e=>hiq e.symm) m hm
  rw [this] at hmi;cases hmi
 ·rw [ahj hr]
  cases hm : rwA R q with
  |none=>rfl
  |some m=>exact absurd ((h.some' q hq).1 (by rw [hm];rfl)) hr
end Go.Proofs
end
