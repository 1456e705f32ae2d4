/-
  The document's answer of layer 9: Structs, Types, step, Walk.
  The document's answer of layer 9: step, Walk.
  The document's answer of layer 10: small parts.
  The document's answer of layer 10: rest.
  Contracts: Borrowed, Called of region.
  Contracts: SameType of the reference, typeFits and spoil of law 13.
  Contracts: the example of law 13, and what is told of it.
  What is told of the example of law 13; awake.
  Contracts: fits of law 13; lists of numbers read in a memory that stays.
  What is cleared: the end of a slice of one's own.
  Contracts: a function, a point of a program; Assigns, Type, Operands of graph.
  The document's answer of layer 10: walk, to, operand, args of an asker.
  The document's answer of layer 10: operand, args of an asker.
  Joined conditions with calls in them; facts of an asker.
  The document's answer of layer 10: a point.
  The document's answer of layer 10: what a type implies; the head of a graph.
  The document's answer of layer 10: the head of a graph.
  The document's answer of layer 10: Check, May, Is.
  The document's answer of layer 13: moved, numbered, Walk.
-/
import Derived.Test.YtngfnikkdhbajaaGreatQUe
import Derived.Test.YtngfnikkdhbajaaGreatQUd
import Derived.Test.YtngfnikkdhbajaaGreatQUc
import GoSem.Builtin.Clear
section
namespace Go.Proofs
open Go.Sh
set_option maxRecDepth 100000
set_option linter.unusedSimpArgs false
set_option linter.unusedVariables false
set_option maxHeartbeats 1000000 in
theorem Yl {ss : List StD} {p : Option Addr} {cap : Nat} {w : World} {r : Gh} {K : Value→World→Prop} (hr : Holds r w) (hs : StG r p ss)
  (h : ∀ w',Ext w w'→K (.bool (decide ((zz ss).2=0))) w') : ze Tryz.prog Tryz.ky #[.slice p ss.length cap] w K:=by
 refine Tryz.JG ?_
 unfold Tryz.ZY
 have S:=St.start hr
 refine gg_ ?_
 refine c_b (fun hbig=>?_) (fun hsm=>?_)
 ·have hbig : 32<ss.length:=by have:=of_decide_eq_true hbig;omega
  rw [zz,if_pos hbig] at h
  exact h _ S.ext
 have hsm : ¬ 32<ss.length:=by have:=of_decide_eq_false hsm;omega
 rw [zz,if_neg hsm] at h
 refine zk (ι:=Nat) (fun i=>[.int .i64 (i : Nat)]) (fun i w'=>i≤ss.length∧(∀ j,j<i→yS ss j=false)∧StX noX w r w' []) (fun i=>ss.length - i) 0 rfl ⟨Nat.zero_le _,fun j hj=>by omega,S⟩ ?_
 clear S
 rintro i d w1 ⟨hi,hb,S⟩ K1 hK1
 rw [List.getD_cons_zero]
 refine gg_ ?_
 refine c_b (fun hlt=>?_) (fun hge=>?_)
 ·have hlt : i<ss.length:=by simpa using hlt
  have hbadd : yS ss i=true→∀ w',Ext w w'→K (.bool false) w':=fun hbd w' e=>by
   have hf:=kJ hlt hbd hb
   have:=h w' e
   rw [hf,if_pos hlt] at this
   exact this
  obtain ⟨b,off,q,capq,rfl,hcell,hq0,hqc,hf⟩:=yZ hs hlt
  have hlen:=qU hlt
  have htl:=yi hlt
  refine gg_ ?_
  refine zm (by rw [Int.toNat_natCast];exact S.at hcell) ?_
  refine gg_ ?_
  refine zh (c:=decide (8<(zd ss i).length)) (fun _ K2 hK2=>?_) ?_
  ·refine gg_ ?_
   refine zm (by rw [Int.toNat_natCast];exact S.at hcell) ?_
   refine gg_ ?_
   rw [show decide ((8 : Int)<(ss[i].fs.length : Int))=decide (8<(zd ss i).length) from decide_eq_decide.2 (by omega)]
   exact hK2
  rw [show decide ((ss[i].fs.length : Int)<1)=decide ((zd ss i).length<1) from decide_eq_decide.2 (by omega)]
  refine c_b (fun hl=>?_) (fun hl=>?_)
  ·refine hbadd ?_ _ S.ext
   rw [yS,hl];rfl
  have hl8 : (zd ss (i : Int)).length≤8:=by
   simp only [Bool.or_eq_false_iff,decide_eq_false_iff_not] at hl;omega
  refine zk (ι:=Nat) (fun k=>[.int .i64 (k : Nat)]) (fun k w'=>k≤(zd ss i).length∧(((zd ss i).take k).any fun t=>!zy ss.length 48 t||decide (0<t.regs.length))=false∧StX noX w r w' []) (fun k=>(zd ss i).length - k) 0 rfl ⟨Nat.zero_le _,by simp,S⟩ ?_
  clear S
  rintro k d w2 ⟨hk,hno,S⟩ K9 hK9
  rw [List.getD_cons_zero]
  refine gg_ ?_
  refine zm (by rw [Int.toNat_natCast];exact S.at hcell) ?_
  refine gg_ ?_
  refine c_b (fun hlt2=>?_) (fun hge2=>?_)
  ·have hlt2 : k<ss[i].fs.length:=by simpa using hlt2
   have hlt3 : k<(zd ss i).length:=by omega
   have hel : (zd ss i)[k]=ss[i].fs[k].2:=by simp only [htl,List.getElem_map]
   obtain ⟨b2,off2,c,rfl,hcl,hcc,hty⟩:=xV hf hlt2
   refine gg_ ?_
   refine zm (by rw [Int.toNat_natCast];exact S.at hcell) ?_
   refine gg_ ?_
   refine zq (n:=5) (c:=c) hcl (fun j v hj=>by
    have:=S.at (hcc (j+1) v (by simpa using hj))
    rw [Int.toNat_natCast,Nat.add_assoc _ 1 j,Nat.add_comm 1 j];exact this) ?_
   refine gg_ ?_
   refine jq 48 (by decide) S.holds hty fun w3 e3=>?_
   have S:=S.go e3
   refine gg_ ?_
   have hmt : mtB ss.length 48 false ss[i].fs[k].2 = !(!zy ss.length 48 ss[i].fs[k].2||decide (0<ss[i].fs[k].2.regs.length)):=by
    rw [mtB,Bool.false_or,Bool.not_or,Bool.not_not,← decide_not]
    congr 1
    exact decide_eq_decide.2 (by omega)
   rw [hmt,Bool.not_not]
   refine c_b (fun hy=>?_) (fun hn=>?_)
   ·refine hbadd ?_ _ S.ext
    have : ((zd ss i).any fun t=>!zy ss.length 48 t||decide (0<t.regs.length))=true:=List.any_eq_true.2 ⟨_,List.getElem_mem hlt3,by rw [hel];exact hy⟩
    rw [yS,this,Bool.or_true]
   ·refine gg_ ?_
    rw [show ((k : Int)+1)=((k+1 : Nat) : Int) by omega]
    refine hK9 (k+1) _ ⟨hlt3,?_,S⟩ (by omega)
    rw [List.take_succ_eq_append_getElem hlt3,List.any_append,hno,hel]
    simp only [List.any_cons,List.any_nil,Bool.false_or,Bool.or_false]
    exact hn
  ·have hie : k=(zd ss i).length:=by
    have : ¬ k<ss[i].fs.length:=by simpa using hge2
    omega
   rw [hie,List.take_length] at hno
   refine gg_ ?_
   rw [show ((i : Int)+1)=((i+1 : Nat) : Int) by omega]
   refine hK1 (i+1) _ ⟨hlt,fun j hj=>?_,S⟩ (by omega)
   by_cases hji : j=i
   ·rw [hji,yS,hl,hno];rfl
   ·exact hb j (by omega)
 have hie : i=ss.length:=by
  have : ¬ i<ss.length:=by simpa using hge
  omega
 rw [hie] at hb
 have h1 : ¬ yX ss.length (yS ss)<ss.length:=by rw [kI hb];omega
 rw [if_neg h1] at h
 have hgd:=YW hb
 refine zk (ι:=Nat) (fun i=>[.int .i64 (i : Nat)]) (fun i w'=>i≤ss.length∧(∀ j,j<i→ko ss j=false)∧StX noX w r w' []) (fun i=>ss.length - i) 0 rfl ⟨Nat.zero_le _,fun j hj=>by omega,S⟩ ?_
 clear S hie hge hi
 rintro i d w5 ⟨hi,hb2,S⟩ K1 hK1
 rw [List.getD_cons_zero]
 refine gg_ ?_
 refine c_b (fun hlt=>?_) (fun hge=>?_)
 ·have hlt : i<ss.length:=by simpa using hlt
  refine VZ hgd (by omega) hlt (xJ hb) S.holds hs fun w6 e6=>?_
  have S:=S.go e6
  refine c_b (fun hy=>?_) (fun hn=>?_)
  ·have hf:=kJ hlt hy hb2
   rw [hf,if_pos hlt] at h
   exact h _ S.ext
  ·refine gg_ ?_
   rw [show ((i : Int)+1)=((i+1 : Nat) : Int) by omega]
   refine hK1 (i+1) _ ⟨hlt,fun j hj=>?_,S⟩ (by omega)
   by_cases hji : j=i
   ·rw [hji];exact hn
   ·exact hb2 j (by omega)
 have hie : i=ss.length:=by
  have : ¬ i<ss.length:=by simpa using hge
  omega
 rw [hie] at hb2
 have h2 : ¬ yX ss.length (ko ss)<ss.length:=by rw [kI hb2];omega
 rw [if_neg h2] at h
 have hac:=QQ hgd hb2
 refine zk (ι:=Nat) (fun i=>[.int .i64 (i : Nat)]) (fun i w'=>i≤ss.length∧(∀ j,j<i→jR ss j=false)∧StX noX w r w' []) (fun i=>ss.length - i) 0 rfl ⟨Nat.zero_le _,fun j hj=>by omega,S⟩ ?_
 clear S hie hge hi
 rintro i d w5 ⟨hi,hb3,S⟩ K1 hK1
 rw [List.getD_cons_zero]
 refine gg_ ?_
 refine c_b (fun hlt=>?_) (fun hge=>?_)
 ·have hlt : i<ss.length:=by simpa using hlt
  refine zo (cs:=#[.int .u8 5,.bool false,.int .i64 0,.int .i64 i,.slice none 0 0]) (by kernel_rfl) ?_
  refine abL hgd hac 40 (t:=.mk 5 false 0 i []) (by decide) (by have:=VH ss (.mk 5 false 0 i []);omega) ?_ (by omega) (xJ hb) S.holds hs (zI (r:=r)) fun x w9 e9 _ hx=>?_
  ·rw [yU]
   simp [TyD.k,TyD.m,TyD.re,TyD.of,TyD.st]
   omega
  have S:=S.go e9
  refine gg_ ?_
  rw [show decide ((x : Int) > 16)=decide (16<wF ss 40 (.mk 5 false 0 i [])) from decide_eq_decide.2 (by omega)]
  refine c_b (fun hy=>?_) (fun hn=>?_)
  ·have hf:=kJ (p:=jR ss) hlt hy hb3
   rw [hf,if_pos hlt] at h
   exact h _ S.ext
  ·refine gg_ ?_
   rw [show ((i : Int)+1)=((i+1 : Nat) : Int) by omega]
   refine hK1 (i+1) _ ⟨hlt,fun j hj=>?_,S⟩ (by omega)
   by_cases hji : j=i
   ·rw [hji];exact hn
   ·exact hb3 j (by omega)
 have hie : i=ss.length:=by
  have : ¬ i<ss.length:=by simpa using hge
  omega
 rw [hie] at hb3
 have h3 : ¬ yX ss.length (jR ss)<ss.length:=by rw [kI hb3];omega
 rw [if_neg h3] at h
 exact h _ S.ext
theorem abN {ss : List StD} {tys : List TyD} {p q : Option Addr} {cap capt : Nat} {w : World} {r : Gh} {K : Value→World→Prop} (hr : Holds r w) (hs : StG r p ss) (ht : TysG r q tys) (htl : tys.length≤maxLen)
  (h : ∀ w',Ext w w'→K (.bool (decide ((zz ss).2=0)&&tys.all fun t=>zK ss t)) w') : ze Tryz.prog Tryz.vB #[.slice p ss.length cap,.slice q tys.length capt] w K:=by
 refine Tryz.aam ?_
 unfold Tryz.Xr
 have S:=St.start hr
 have htl' : tys.length≤9223372036854775807:=htl
 refine Yl S.holds hs fun w1 e1=>?_
 have S:=S.go e1
 refine gp_ ?_
 by_cases hst : (zz ss).2=0
 ·rw [decide_eq_true hst] at h ⊢
  refine c_f rfl ?_
  refine zk (ι:=Nat) (fun i=>[.int .i64 (i : Nat)]) (fun i w'=>i≤tys.length∧((tys.take i).all fun t=>zK ss t)=true∧StX noX w r w' []) (fun i=>tys.length - i) 0 rfl ⟨Nat.zero_le _,by simp,S⟩ ?_
  clear S
  rintro i d w2 ⟨hi,hall,S⟩ K2 hK2
  rw [List.getD_cons_zero]
  refine gg_ ?_
  refine zj (fun hlt=>?_) (fun hge=>?_)
  ·have hlt : i<tys.length:=by omega
   obtain ⟨b,off,c,rfl,hc,hcell,hto⟩:=ht i hlt
   obtain ⟨q2,cap2,rfl,ht2⟩:=zV hto
   refine gg_ ?_
   refine zq (n:=5) hc (fun j v hj=>by rw [Int.toNat_natCast];exact S.at (hcell j v hj)) ?_
   refine gg_ ?_
   refine jq 48 (by decide) S.holds ht2 fun w3 e3=>?_
   have S:=S.go e3
   rw [acE]
   refine gg_ ?_
   have hm : zK ss tys[i]=zy ss.length 48 tys[i]:=by rw [zK,decide_eq_true hst,Bool.true_and]
   refine c_b (fun hb=>?_) (fun hb=>?_)
   ·have hf : (tys.all fun t=>zK ss t)=false:=by
     rw [List.all_eq_false]
     exact ⟨tys[i],List.getElem_mem hlt,by rw [hm];simpa using hb⟩
    have:=h _ S.ext
    rw [hf,Bool.and_false] at this
    exact this
   ·refine gg_ ?_
    rw [show ((i : Int)+1)=((i+1 : Nat) : Int) by omega]
    refine hK2 (i+1) _ ⟨hlt,?_,S⟩ (by omega)
    rw [List.take_succ_eq_append_getElem hlt,List.all_append,hall]
    simp only [List.all_cons,List.all_nil,Bool.true_and,Bool.and_true]
    rw [hm];simpa using hb
  ·have hie : i=tys.length:=by omega
   rw [hie,List.take_length] at hall
   have:=h _ S.ext
   rw [hall,Bool.and_true] at this
   exact this
 ·rw [decide_eq_false hst] at h ⊢
  refine c_t rfl ?_
  exact h _ S.ext
end Go.Proofs
end
section
namespace Go.Proofs
open Go.Sh
set_option maxRecDepth 100000
set_option linter.unusedSimpArgs false
set_option linter.unusedVariables false
theorem QA {ss : List StD} {t : TyD} {k : Int} {p q : Option Addr} {cap ct : Nat} {w : World} {r : Gh} {K : Value→World→Prop} (hft : Fine ss t) (hr : Holds r w) (hs : StG r p ss) (htt : TyG r (tyV t q ct) t)
  (h : ∀ t' q' c' (n : Int) (ok : Bool) w',Ext w w'→TyG r (tyV t' q' c') t'→(ok=true→zD ss t k=some (t',n))→(ok=false→zD ss t k=none)→K (.tuple #[tyV t' q' c',.int .i64 n,.bool ok]) w') :
  ze Tryz.prog Tryz.ji #[.slice p ss.length cap,tyV t q ct,.int .i64 k] w K:=by
 refine Tryz.abk ?_
 unfold Tryz.XV
 have S:=St.start hr
 refine S.box fun b4 w1 S=>?_
 have S : StX noX w r w1 [.cell b4 (tyL t q ct) 31]:=S
 refine S.al fun b6 w2 S=>?_
 have down : (t.k=3∨t.k=4)→∃ uu,t.of = [uu]:=by
  intro hk
  rcases hft.cases with ⟨_,h1⟩|⟨uu,h1,_⟩
  ·omega
  ·exact ⟨uu,h1⟩
 have hinn : ∀ {hw : Int},k = -1→((t.k=3∧hw=1)∨(t.k=4∧hw=if t.m then 2 else 3))→∀ {uu : TyD},t.of = [uu]→zD ss t k=some (uu,hw):=fun hk1 h34 uu hof=>by
  rcases h34 with ⟨h1,h2⟩|⟨h1,h2⟩
  ·rw [zD,if_pos ⟨hk1,h1⟩,hof,h2];rfl
  ·rw [zD,if_neg (by omega),if_pos ⟨hk1,h1⟩,hof,h2];rfl
 have stay : ∀ {w3 : World} {L : List Asr},zD ss t k=none→StX noX w r w3 (.cell b6 yL 31 :: .cell b4 (tyL t q ct) 31::L)→
   opQ Tryz.prog w3 (Instr.loadAt 31 (.pointer (some ⟨b4,0,none⟩))) fun v=>opU Tryz.prog w3 (Instr.storeAt 31 (.pointer (some ⟨b6,0,none⟩)) v) fun w4=>opQ Tryz.prog w4 (zf 31 (.pointer (some ⟨b6,0,none⟩))) fun v'=>K (.tuple #[v',.int .i64 0,.bool false]) w4:=by
  intro w3 L hn S
  refine S.ldB (b:=b4) ?_ rfl
  refine S.stB (b:=b6) fun w4 S=>?_
  refine S.ceB (b:=b6) ?_ rfl
  exact h _ _ _ 0 false _ S.ext htt (fun hh=>by cases hh) fun _=>hn
 refine gg_ ?_
 refine zj (fun hk1=>?_) (fun hk1=>?_)
 ·refine gg_ ?_
  refine zj (fun h3=>?_) (fun h3=>?_)
  ·obtain ⟨uu,hof⟩:=down (.inl h3)
   obtain ⟨bo,oo,q2,cap2,rfl,ht2,hcc⟩:=jp htt hof
   have hl1 : t.of.length=1:=by rw [hof];rfl
   refine gg_ ?_
   refine zq (n:=5) (c:=tyL uu q2 cap2) rfl (fun j v hj=>by simpa using S.at (hcc j v hj)) ?_
   refine S.stB (b:=b6) fun w3 S=>?_
   refine S.ceB (b:=b6) ?_ rfl
   exact h _ _ _ 1 true _ S.ext ht2 (fun _=>hinn hk1 (.inl ⟨h3,rfl⟩) hof) fun hh=>by cases hh
  refine gg_ ?_
  refine zg (c:=t.m) (fun _ K2 hK2=>by refine gg_ ?_;exact hK2) ?_
  refine c_b (fun hM=>?_) (fun hM=>?_)
  ·have hM : t.k=4∧t.m=true:=by simpa using hM
   obtain ⟨uu,hof⟩:=down (.inr hM.1)
   obtain ⟨bo,oo,q2,cap2,rfl,ht2,hcc⟩:=jp htt hof
   have hl1 : t.of.length=1:=by rw [hof];rfl
   refine gg_ ?_
   refine zq (n:=5) (c:=tyL uu q2 cap2) rfl (fun j v hj=>by simpa using S.at (hcc j v hj)) ?_
   refine S.stB (b:=b6) fun w3 S=>?_
   refine S.ceB (b:=b6) ?_ rfl
   exact h _ _ _ 2 true _ S.ext ht2 (fun _=>hinn hk1 (.inr ⟨hM.1,by rw [hM.2];rfl⟩) hof) fun hh=>by cases hh
  refine gg_ ?_
  refine zj (fun h4=>?_) (fun h4=>?_)
  ·have hm : t.m=false:=by
    cases e : t.m
    ·rfl
    ·rw [e,decide_eq_true h4] at hM;cases hM
   obtain ⟨uu,hof⟩:=down (.inr h4)
   obtain ⟨bo,oo,q2,cap2,rfl,ht2,hcc⟩:=jp htt hof
   have hl1 : t.of.length=1:=by rw [hof];rfl
   refine gg_ ?_
   refine zq (n:=5) (c:=tyL uu q2 cap2) rfl (fun j v hj=>by simpa using S.at (hcc j v hj)) ?_
   refine S.stB (b:=b6) fun w3 S=>?_
   refine S.ceB (b:=b6) ?_ rfl
   exact h _ _ _ 3 true _ S.ext ht2 (fun _=>hinn hk1 (.inr ⟨h4,by rw [hm];rfl⟩) hof) fun hh=>by cases hh
  ·exact stay (by rw [zD,if_neg (by omega),if_neg (by omega),if_neg (by omega)]) S
 ·refine gg_ ?_
  refine zh (c:=decide (k<0)) (fun _ K2 hK2=>by refine gg_ ?_;exact hK2) ?_
  refine zh (c:=decide (((zd ss t.st).length : Int)≤k)) (fun h5 K2 hK2=>?_) ?_
  ·have h5 : t.k=5∧0≤k:=by simpa using h5
   obtain ⟨hst0,hst1⟩:=hft.st h5.1
   have hslt : t.st.toNat<ss.length:=by omega
   obtain ⟨b,off,q9,capq,rfl,hcell9,_,_,hfl⟩:=yZ hs hslt
   have hlen : (zd ss t.st).length=ss[t.st.toNat].fs.length:=by
    rw [← qU hslt];simp only [zd,Int.toNat_natCast]
   refine gg_ ?_
   refine zm (S.at hcell9) ?_
   refine gg_ ?_
   rw [← hlen]
   exact hK2
  refine c_b (fun hX=>?_) (fun hX=>?_)
  ·refine stay ?_ S
   rw [zD,if_neg (by omega),if_neg (by omega)]
   split
   ·rename_i h5
    have h50:=h5.1
    rw [List.getElem?_eq_none]
    ·rfl
    ·have : ((zd ss t.st).length : Int)≤k:=by
      simp only [Bool.or_eq_true,decide_eq_true_eq] at hX;omega
     omega
   ·rfl
  ·have hX : (t.k=5∧0≤k)∧k<(zd ss t.st).length:=by
    simp only [Bool.or_eq_false_iff,decide_eq_false_iff_not] at hX;omega
   obtain ⟨⟨hk5,hk0⟩,hkl⟩:=hX
   obtain ⟨hst0,hst1⟩:=hft.st hk5
   have hslt : t.st.toNat<ss.length:=by omega
   obtain ⟨b,off,q9,capq,rfl,hcell9,_,_,hfl⟩:=yZ hs hslt
   have htl2 : zd ss t.st=ss[t.st.toNat].fs.map (·.2):=by
    rw [← yi hslt];simp only [zd,Int.toNat_natCast]
   have hkf : k.toNat<ss[t.st.toNat].fs.length:=by
    rw [htl2,List.length_map] at hkl;omega
   obtain ⟨b10,off9,c9,rfl,hc9,hcell8,ht9⟩:=xV hfl hkf
   obtain ⟨q2,cap2,rfl,ht2⟩:=zV ht9
   refine gg_ ?_
   refine zm (S.at hcell9) ?_
   refine gg_ ?_
   refine zq (n:=5) (c:=tyL _ q2 cap2) rfl (fun j v hj=>by have:=S.at (hcell8 (j+1) v hj);rwa [show off9+k.toNat*6+(j+1)=off9+k.toNat*6+1+j by omega] at this) ?_
   refine S.stB (b:=b6) fun w3 S=>?_
   refine S.ceB (b:=b6) ?_ rfl
   refine h _ _ _ 0 true _ S.ext ht2 (fun _=>?_) fun hh=>by cases hh
   rw [zD,if_neg (by omega),if_neg (by omega),if_pos ⟨hk0,hk5⟩,htl2,List.getElem?_map,List.getElem?_eq_getElem hkf];rfl
set_option maxHeartbeats 2000000 in
theorem QB {ss : List StD} {tys : List TyD} {p : PlD} {c : List Value} {p0 q : Option Addr} {cap0 capt : Nat} {w : World} {r : Gh} {K : Value→World→Prop} (hr : Holds r w) (hs : StG r p0 ss) (ht : TysG r q tys) (htl : tys.length≤maxLen) (hp : PlG r c p)
  (hN : ∀ w',zW ss tys p=none→Ext w w'→K (.tuple #[adR,.slice none 0 0,.bool false]) w')
  (hS : ∀ t g q cap vg s w',zW ss tys p=some (t,g)→Ext w w'→New w s w'→TyG r (tyV t q cap) t→SlG 1 s kp vg g→K (.tuple #[tyV t q cap,vg,.bool true]) w') :
  ze Tryz.prog Tryz.jh #[.slice p0 ss.length cap0,.slice q tys.length capt,.agg c.toArray] w K:=by
 obtain ⟨v,rfl,hl⟩:=hp
 obtain ⟨qs,caps,rfl,_,_⟩:=hl.sl.shape
 have hbl:=hl.lt
 have htl' : tys.length≤9223372036854775807:=htl
 refine Tryz.abj ?_
 unfold Tryz.XU
 have S:=St.start hr
 refine S.box fun b5 w1 S=>?_
 refine S.al fun b6 w3 S=>?_
 have S : StX noX w r w3 [.cell b6 yL 31,.cell b5 [.int .i64 p.l,.slice qs p.ps.length caps] 47]:=S
 refine gg_ ?_
 refine zh (c:=decide ((tys.length : Int)≤p.l)) (fun _ K2 hK2=>by refine gg_ ?_;exact hK2) ?_
 refine zh (c:=decide (8<p.ps.length)) (fun _ K2 hK2=>?_) ?_
 ·refine gg_ ?_
  rw [show decide ((8 : Int)<(p.ps.length : Int))=decide (8<p.ps.length) from decide_eq_decide.2 (by omega)]
  exact hK2
 refine yw (c:=!(decide ((zz ss).2=0)&&tys.all fun t=>zK ss t)) (fun _ K2 hK2=>?_) fun w4 e4=>?_
 ·refine abN S.holds hs ht htl fun w6 e6=>?_
  refine gp_ ?_
  exact hK2 _ e6
 have S:=S.go e4
 have hO : yx ss tys p = !(((decide (p.l<0)||decide ((tys.length : Int)≤p.l))||decide (8<p.ps.length)) || !(decide ((zz ss).2=0)&&tys.all fun t=>zK ss t)):=by
  rw [yx]
  simp only [Bool.not_or,Bool.not_not]
  congr 1
  rw [← decide_not,← decide_not,← decide_not]
  congr 1
  ·congr 1<;>exact decide_eq_decide.2 (by omega)
  ·exact decide_eq_decide.2 (by omega)
 refine c_b (fun hbad=>?_) (fun hgood=>?_)
 ·rw [hbad] at hO
  refine zo (cs:=#[.int .u8 0,.bool false,.int .i64 0,.int .i64 0,.slice none 0 0]) (by kernel_rfl) ?_
  refine S.stB (b:=b6) fun w4 S=>?_
  refine S.ceB (b:=b6) ?_ rfl
  exact hN _ (Qx hO) S.ext
 rw [hgood] at hO
 have hO : yx ss tys p=true:=hO
 have hO2:=hO
 simp only [yx,Bool.and_eq_true,decide_eq_true_eq,List.all_eq_true] at hO2
 obtain ⟨⟨⟨hl0,hl1⟩,hl8⟩,hst,hmay⟩:=hO2
 obtain ⟨h32,_,hg,_⟩:=xb hst
 have hlt0 : p.l.toNat<tys.length:=by omega
 have hW : zW ss tys p=zB ss p.ps tys[p.l.toNat]:=by
  rw [zW,if_pos hO,List.getD_eq_getElem?_getD,List.getElem?_eq_getElem hlt0];rfl
 rw [hW] at hN hS
 obtain ⟨bt,ot,ct,rfl,hct,hcell,htc⟩:=ht p.l.toNat hlt0
 have hfi : Fine ss tys[p.l.toNat]:=(jn (hmay _ (List.getElem_mem hlt0))).2
 generalize tys[p.l.toNat]=t0 at hN hS htc hfi
 obtain ⟨q0,cap1,rfl,ht0⟩:=zV htc
 clear hgood hbl
 refine gg_ ?_
 refine zq (n:=5) hct (fun j v hj=>S.at (hcell j v hj)) ?_
 refine S.al fun b9 w7 S=>?_
 refine S.stB (b:=b9) fun w7 S=>?_
 have S:=S.ownNil 3 1
 refine zk (ι:=Nat × Value × TyD × Option Addr × Nat × List Int) (fun i=>[i.2.1,.int .i64 (i.1 : Nat)]) (fun i w'=>i.1≤p.ps.length∧zB ss (p.ps.take i.1) t0=some (i.2.2.1,i.2.2.2.2.2)∧TyG r (tyV i.2.2.1 i.2.2.2.1 i.2.2.2.2.1) i.2.2.1∧
  StX noX w r w' [.row i.2.1 3 1 i.1 (ints i.2.2.2.2.2),.cell b9 (tyL i.2.2.1 i.2.2.2.1 i.2.2.2.2.1) 31,.cell b6 yL 31,.cell b5 [.int .i64 p.l,.slice qs p.ps.length caps] 47]) (fun i=>p.ps.length - i.1) (0,.slice none 0 0,t0,q0,cap1,[]) rfl ⟨Nat.zero_le _,rfl,ht0,S⟩ ?_
 clear S
 rintro ⟨i,vg,t,q,cap,g⟩ d w8 ⟨hi,hw,htt,S⟩ K6 hK6
 simp only at hi hw htt S ⊢
 simp only [List.getD_cons_zero,List.getD_cons_succ]
 have hft : Fine ss t:=Zd hg hfi hw
 have hgl : g.length=(p.ps.take i).length:=Yh hw
 rw [List.length_take] at hgl
 refine gg_ ?_
 refine zj (fun hlt=>?_) (fun hge=>?_)
 rotate_left
 ·have hie : i=p.ps.length:=by omega
  rw [hie,List.take_length] at hw
  refine S.ldB (b:=b9) ?_ rfl
  refine S.stB (b:=b6) fun w9 S=>?_
  refine S.ceB (b:=b6) ?_ rfl
  obtain ⟨s,S,hsl,_,hab⟩:=S.doneRow (l:=g) (R:=kp) (sz:=1) ⟨by rw [y9,Nat.mul_one],fun j hj=>by
   show _=_
   rw [Nat.mul_one,ints,← List.map_drop,← List.map_take,List.drop_eq_getElem_cons hj];rfl⟩ (by decide) (by omega)
  exact hS _ _ _ _ _ s _ hw S.ext (S.newOf fun b o ho=>(hab b o ho).resolve_right id) htt hsl
 have hlt : i<p.ps.length:=by omega
 obtain ⟨k,hke⟩ : ∃ k,p.ps[i]=k:=⟨_,rfl⟩
 obtain ⟨bs,os,cs,rfl,hcs,hck,hcl⟩:=hl.sl.get (by decide) hlt
 rw [hke] at hck
 obtain ⟨rfl,hin⟩:=hck
 have hstep : zB ss (p.ps.take (i+1)) t0=(zD ss t k).map fun s=>(s.1,g ++ [s.2]):=by
  rw [List.take_succ_eq_append_getElem hlt,Xk,hw,hke];rfl
 have hbadk : zD ss t k=none→zB ss p.ps t0=none:=fun e=>by
  have:=Xl (m:=p.ps.drop (i+1)) (hstep.trans (by rw [e];rfl))
  rwa [List.take_append_drop] at this
 refine zp (fun s w'=>∃ b12 t' q' c' n ok,s = [.pointer (some ⟨b12,0,none⟩),.int .i64 n,.bool ok]∧TyG r (tyV t' q' c') t'∧(ok=true→zD ss t k=some (t',n))∧(ok=false→zD ss t k=none)∧
  StX noX w r w' [.cell b12 (tyL t' q' c') 31,.row vg 3 1 i (ints g),.cell b9 (tyL t q cap) 31,.cell b6 yL 31,.cell b5 [.int .i64 p.l,.slice (some ⟨bs,os,none⟩) p.ps.length caps] 47]) (fun K24 hK24=>?_) ?_
 ·have S:=S.go (Ext.drew _)
  refine S.ldB (b:=b9) ?_ rfl
  refine gg_ ?_
  refine zm (v:=.int .i64 k) (by simpa using S.at (hcl 0 _ rfl)) ?_
  refine And.intro ?_ ?_
  ·refine QA hft S.holds hs htt fun t' q' c' n ok w9 e9 ht' h1 h2=>?_
   have S:=S.go e9
   refine gS_ ?_
   refine S.alU fun b12 w10 S=>?_
   refine S.stB (b:=b12) fun w11 S=>?_
   exact hK24 _ _ ⟨b12,t',q',c',n,ok,rfl,ht',h1,h2,S⟩
  ·refine S.alU fun b12 w10 S=>?_
   refine QA hft S.holds hs htt fun t' q' c' n ok w9 e9 ht' h1 h2=>?_
   have S:=S.go e9
   refine gS_ ?_
   refine S.stB (b:=b12) fun w11 S=>?_
   exact hK24 _ _ ⟨b12,t',q',c',n,ok,rfl,ht',h1,h2,S⟩
 clear S
 rintro _ w12 ⟨b12,t',q',c',n,ok,rfl,ht',h1,h2,S⟩ d12
 simp only [List.getD_cons_zero,List.getD_cons_succ]
 refine gp_ ?_
 cases ok with
 |false=>
  refine c_t rfl ?_
  refine zo (cs:=#[.int .u8 0,.bool false,.int .i64 0,.int .i64 0,.slice none 0 0]) (by kernel_rfl) ?_
  refine S.stB (b:=b6) fun w13 S=>?_
  refine S.ceB (b:=b6) ?_ rfl
  exact hN _ (hbadk (h2 rfl)) S.ext
 |true=>
  refine c_f rfl ?_
  refine S.ldB (b:=b12) ?_ rfl
  refine S.stB (b:=b9) fun w13 S=>?_
  refine S.lit (e:=3) (cs:=[.int .i64 n]) (by kernel_rfl) fun b14 w14 S=>?_
  refine S.ap (m':=1) (Sl.blk (S.blk b14)) (fun v15 w15 S=>?_) (by omega)
  have S:=(S.drop b14).drop b12
  have hins : ints g ++ [.int .i64 n]=ints (g ++ [n]):=by rw [ints,ints,List.map_append];rfl
  rw [hins] at S
  refine gg_ ?_
  rw [show ((i : Int)+1)=((i+1 : Nat) : Int) by omega]
  exact hK6 (i+1,v15,t',q',c',g ++ [n]) _ ⟨hlt,hstep.trans (by rw [h1 rfl];rfl),ht',S⟩ (by show p.ps.length - (i+1)<p.ps.length - i;omega)
end Go.Proofs
end
section
namespace Go.Proofs
open Go.Sh
set_option maxRecDepth 100000
set_option linter.unusedSimpArgs false
set_option linter.unusedVariables false
theorem xa {p : PlD} {c : List Value} {w : World} {r : Gh} {K : Value→World→Prop} (hr : Holds r w) (hp : PlG r c p)
  (h : ∀ w',Ext w w'→K (.bool (xc p)) w') : ze Tryz.prog Tryz.yp #[.agg c.toArray] w K:=by
 refine Tryz.X1 ?_
 unfold Tryz.vO
 obtain ⟨v,rfl,hl⟩:=hp
 obtain ⟨qs,caps,rfl,_,_⟩:=hl.sl.shape
 have S:=St.start hr
 refine S.box fun b1 w1 S=>?_
 have S : StX noX w r w1 [.cell b1 [.int .i64 p.l,.slice qs p.ps.length caps] 47]:=S
 refine gg_ ?_
 refine zg (c:=decide (p.ps.length=0)) (fun _ K2 hK2=>?_) ?_
 ·refine gg_ ?_
  rw [decide_eq_decide.2 (xU p.ps.length)]
  exact hK2
 exact h _ S.ext
theorem jE {o : OpD} {c : List Value} {w : World} {r : Gh} {K : Value→World→Prop} (hr : Holds r w) (ho : OpG r c o)
  (h : ∀ w',Ext w w'→K (.bool (j3 o)) w') : ze Tryz.prog Tryz.xm #[.agg c.toArray] w K:=by
 refine Tryz.Y9 ?_
 unfold Tryz.jy
 obtain ⟨v,rfl,hl⟩:=ho
 obtain ⟨qs,caps,rfl,_,_⟩:=hl.sl.shape
 have S:=St.start hr
 refine S.box fun b1 w1 S=>?_
 have S : StX noX w r w1 [.cell b1 [.int .u8 o.k,.int .i64 o.n,.int .i64 o.pl.l,.slice qs o.pl.ps.length caps] 50]:=S
 refine gg_ ?_
 refine zg (c:=decide (o.n=0)) (fun _ K2 hK2=>by refine gg_ ?_;exact hK2) ?_
 refine zs (c:=xc o.pl) (fun _ K2 hK2=>?_) fun w5 e5=>?_
 ·refine gg_ ?_
  refine S.ldN (b:=b1) ?_
  refine xa (p:=o.pl) S.holds ⟨_,rfl,hl⟩ fun w6 e6=>hK2 _ e6
 exact h _ (S.go e5).ext
theorem zU {t : TyD} {q : Option Addr} {cap : Nat} {k : Int} {w : World} {r : Gh} {K : Value→World→Prop} (hr : Holds r w)
  (h : ∀ w',Ext w w'→K (.bool (isK t k)) w') : ze Tryz.prog Tryz.zL #[tyV t q cap,.int .u8 k] w K:=by
 refine Tryz.ac8 ?_
 unfold Tryz.Vp
 have S:=St.start hr
 refine S.box fun b1 w1 S=>?_
 have S : StX noX w r w1 [.cell b1 (tyL t q cap) 31]:=S
 refine gg_ ?_
 exact h _ S.ext
theorem acR {s : ByteArray} {w : World} {K : Value→World→Prop}
  (h : K (.bool (ya s [[43],[45],[42],[47],[37]])) w) : ze Tryz.prog Tryz.Zr #[.string s] w K:=by
 refine Tryz.abo ?_
 unfold Tryz.XZ
 refine gg_ ?_
 refine zh (c:=s.toList == [45]) (fun _ K2 hK2=>by refine gg_ ?_;exact hK2) ?_
 refine zh (c:=s.toList == [42]) (fun _ K2 hK2=>by refine gg_ ?_;exact hK2) ?_
 refine zh (c:=s.toList == [47]) (fun _ K2 hK2=>by refine gg_ ?_;exact hK2) ?_
 refine zh (c:=s.toList == [37]) (fun _ K2 hK2=>by refine gg_ ?_;exact hK2) ?_
 have e : ((((s.toList == [43])||(s.toList == [45]))||(s.toList == [42]))||(s.toList == [47])||(s.toList == [37]))=ya s [[43],[45],[42],[47],[37]]:=by
  simp only [ya,List.any_cons,List.any_nil,Bool.or_false,Bool.or_assoc]
 rw [← e] at h
 exact h
theorem aaP {s : ByteArray} {w : World} {K : Value→World→Prop}
  (h : K (.bool (ya s [[61,61],[33,61],[60],[60,61],[62],[62,61]])) w) : ze Tryz.prog Tryz.jO #[.string s] w K:=by
 refine Tryz.Vq ?_
 unfold Tryz.YH
 refine gg_ ?_
 refine zh (c:=s.toList == [33,61]) (fun _ K2 hK2=>by refine gg_ ?_;exact hK2) ?_
 refine zh (c:=s.toList == [60]) (fun _ K2 hK2=>by refine gg_ ?_;exact hK2) ?_
 refine zh (c:=s.toList == [60,61]) (fun _ K2 hK2=>by refine gg_ ?_;exact hK2) ?_
 refine zh (c:=s.toList == [62]) (fun _ K2 hK2=>by refine gg_ ?_;exact hK2) ?_
 refine zh (c:=s.toList == [62,61]) (fun _ K2 hK2=>by refine gg_ ?_;exact hK2) ?_
 have e : (((((s.toList == [61,61])||(s.toList == [33,61]))||(s.toList == [60]))||(s.toList == [60,61])||(s.toList == [62]))||(s.toList == [62,61]))=ya s [[61,61],[33,61],[60],[60,61],[62],[62,61]]:=by
  simp only [ya,List.any_cons,List.any_nil,Bool.or_false,Bool.or_assoc]
 rw [← e] at h
 exact h
def ys (m : Int) : List Int→Int
 |[]=>m
 |k::l=>ys (max m k) l
theorem V4 (k : Int) : ∀ (l : List Int) (m : Int),ys m (l ++ [k])=max (ys m l) k
 |[],m=>rfl
 |x::l,m=>by rw [List.cons_append,ys,ys,V4 k l]
theorem js {l : List Int} {v : Value} {w : World} {r : Gh} {K : Value→World→Prop} (hr : Holds r w) (hl : SlG 1 r kp v l) (hb : l.length≤1000000)
  (h : ∀ w',Ext w w'→K (.int .i64 (ys 0 l)) w') : ze Tryz.prog Tryz.xH #[v] w K:=by
 refine Tryz.abp ?_
 unfold Tryz.X0
 obtain ⟨p,cap,rfl,_,_⟩:=hl.shape
 have S:=St.start hr
 refine zk (ι:=Nat) (fun i=>[.int .i64 (ys 0 (l.take i)),.int .i64 (i : Nat)]) (fun i w'=>i≤l.length∧StX noX w r w' []) (fun i=>l.length - i) 0 rfl ⟨Nat.zero_le _,S⟩ ?_
 clear S
 rintro i d w2 ⟨hi,S⟩ K1 hK1
 simp only [List.getD_cons_zero,List.getD_cons_succ]
 refine gg_ ?_
 refine zj (fun hlt=>?_) (fun hge=>?_)
 ·have hlt : i<l.length:=by omega
  have hs : ys 0 (l.take (i+1))=max (ys 0 (l.take i)) l[i]:=by rw [List.take_succ_eq_append_getElem hlt,V4]
  obtain ⟨b,off,c,rfl,hc,hcc,hcell⟩:=hl.get (by decide) hlt
  obtain rfl : c=_:=hcc
  have hx : Ob r fun w=>w.cell? ⟨b,off+i,none⟩=some (.int .i64 l[i]):=by simpa using hcell 0 _ rfl
  refine zp (fun s w'=>s = [.int .i64 (ys 0 (l.take (i+1)))]∧w'=w2) (fun K5 hK5=>?_) ?_
  rotate_left
  ·rintro _ _ ⟨rfl,rfl⟩ d3
   rw [List.getD_cons_zero]
   refine gg_ ?_
   rw [show ((i : Int)+1)=((i+1 : Nat) : Int) by omega]
   exact hK1 (i+1) _ ⟨hlt,S⟩ (by omega)
  refine gg_ ?_
  refine zm (by simpa using S.at hx) ?_
  refine gg_ ?_
  refine zj (fun hgt=>?_) (fun hle=>?_)
  ·refine gg_ ?_
   refine zm (by simpa using S.at hx) ?_
   exact hK5 _ _ ⟨by rw [hs,Int.max_eq_right (by omega)],rfl⟩
  ·exact hK5 _ _ ⟨by rw [hs,Int.max_eq_left (by omega)],rfl⟩
 ·have hie : i=l.length:=by omega
  rw [hie,List.take_length]
  exact h _ S.ext
theorem XH {s s' : Int} : ∀ (n : Nat) {a b : TyD} {w : World} {r : Gh} {va vb : Value} {K : Value→World→Prop},zy s n a=true→zy s' n b=true→Holds r w→TyG r va a→TyG r vb b→
  (∀ w',Ext w w'→K (.bool (xv yd n a b)) w')→ze Tryz.prog Tryz.yA #[va,vb] w K:=by
 intro n
 induction n with
 |zero=>intro a b w r va vb K h;cases h
 |succ n ih=>
  intro a b w r va vb K ha hb hr hva hvb h
  refine Tryz.aao ?_
  unfold Tryz.Xt
  have hva0:=hva
  have hvb0:=hvb
  obtain ⟨p1,cap1,rfl,_⟩:=hva
  obtain ⟨p2,cap2,rfl,_⟩:=hvb
  have S:=St.start hr
  refine S.box fun b2 w1 S=>?_
  refine S.box fun b3 w2 S=>?_
  have S : StX noX w r w2 [.cell b3 (tyL b p2 cap2) 31,.cell b2 (tyL a p1 cap1) 31]:=S
  refine gg_ ?_
  refine zh (c:=!(a.m == b.m)) (fun _ K2 hK2=>by refine gg_ ?_;exact hK2) ?_
  refine zh (c:=decide (a.st≠b.st)) (fun _ K2 hK2=>by refine gg_ ?_;exact hK2) ?_
  refine zh (c:=decide (a.of.length≠b.of.length)) (fun _ K2 hK2=>?_) ?_
  ·refine gg_ ?_
   rw [show decide ((a.of.length : Int)≠(b.of.length : Int))=decide (a.of.length≠b.of.length) from decide_eq_decide.2 (by omega)]
   exact hK2
  have key : a.k=b.k→a.of.length=b.of.length:=fun hk=>by
   rcases zF ha with ⟨h1,h2⟩|⟨u,h1,_,h2⟩<;>rcases zF hb with ⟨h3,h4⟩|⟨x,h3,_,h4⟩<;>rw [h1,h3]<;>first|rfl|omega
  refine c_b (fun hbad=>?_) (fun hok=>?_)
  ·have:=h _ S.ext
   rw [Qd] at this
   ·exact this
   ·simp only [Bool.or_eq_true,decide_eq_true_eq,yd,Bool.not_true] at hbad ⊢
    rcases hbad with (hh|hh)|hh
    ·exact .inl (.inl hh)
    ·exact .inl (.inr hh)
    ·exact .inl (.inl (.inl fun hk=>hh (key hk)))
  have hflat : (!(decide (a.k≠b.k) || !(a.m == b.m)||decide (a.st≠b.st) || !yd a.re b.re))=true:=by
   simp only [Bool.or_eq_false_iff] at hok
   rw [hok.1.1.1,hok.1.1.2,hok.1.2];rfl
  have hk : a.k=b.k:=by
   simp only [Bool.or_eq_false_iff,decide_eq_false_iff_not] at hok;omega
  have S:=S.go (Ext.drew _)
  rcases zF ha with ⟨ho,hk2⟩|⟨u,ho,hu,hk2⟩
  ·have hl0 : a.of.length=0:=by rw [ho];rfl
   rw [VD ho,hflat] at h
   refine gg_ ?_
   refine yw (c:=true) (fun hb=>?_) fun w5 e5=>?_
   ·exfalso;simp [hl0] at hb
   rw [Bool.or_true]
   exact h _ (S.go e5).ext
  ·have hob : ∃ x,b.of = [x]∧zy s' n x=true:=by
    rcases zF hb with ⟨h3,h4⟩|⟨x,h3,h5,h4⟩
    ·omega
    ·exact ⟨x,h3,h5⟩
   obtain ⟨x,hox,hx⟩:=hob
   have hl1 : a.of.length=1:=by rw [ho];rfl
   have hl2 : b.of.length=1:=by rw [hox];rfl
   obtain ⟨bo,oo,q3,cap3,rfl,hc3,ht3⟩:=jp hva0 ho
   obtain ⟨bx,ox,q4,cap4,rfl,hc4,ht4⟩:=jp hvb0 hox
   rw [VE ho hox,hflat,Bool.true_and] at h
   refine gg_ ?_
   refine yw (c:=xv yd n u x) (fun _ K2 hK2=>?_) fun w5 e5=>?_
   ·refine gg_ ?_
    refine zq (n:=5) (c:=tyL u q3 cap3) rfl (fun j v hj=>by simpa using S.at (ht3 j v hj)) ?_
    refine gg_ ?_
    refine zq (n:=5) (c:=tyL x q4 cap4) rfl (fun j v hj=>by simpa using S.at (ht4 j v hj)) ?_
    exact ih hu hx S.holds hc3 hc4 fun w6 e6=>hK2 _ e6
   rw [show decide ((a.of.length : Int)=0)=false by rw [hl1];rfl,Bool.false_or]
   exact h _ (S.go e5).ext
end Go.Proofs
end
section
namespace Go.Proofs
open Go.Sh
set_option maxRecDepth 100000
set_option linter.unusedSimpArgs false
set_option linter.unusedVariables false
def z0 : List UInt8:=[84,65,66,76,70,83,78,85,77,69]
def V5 (p : PtD) : List Bool:=[xc p.to,j3 p.a,j3 p.b,decide (p.args.length=0),xc p.fr,p.sign.toList == [],decide (p.fn=0),decide (p.st=0),!p.mu,decide (p.el=0)]
def kr (has : List UInt8) (c : Int) : Bool:=has.any fun x=>decide ((x.toNat : Int)=c)
def thR (p : PtD) (has : List UInt8) (i : Nat) : Bool:=kr has (zQ z0 i)||(V5 p).getD i true
def kY (p : PtD) (has : List UInt8) (n : Nat) : Bool:=(List.range n).all (thR p has)
theorem adX (p : PtD) (has : List UInt8) (n : Nat) : kY p has (n+1)=(kY p has n&&thR p has n):=by
 rw [kY,List.range_succ,List.all_append];simp [kY]
theorem afk {p : PtD} {h : JT} {L : List UInt8} (e0 : kr L 84=h.to) (e1 : kr L 65=h.a) (e2 : kr L 66=h.b) (e3 : kr L 76=h.args) (e4 : kr L 70=h.fr) (e5 : kr L 83=h.sign) (e6 : kr L 78=h.fn) (e7 : kr L 85=h.st) (e8 : kr L 77=h.mu) (e9 : kr L 69=h.el) : kY p L 10=zH p h:=by
 have r10 : List.range 10 = [0,1,2,3,4,5,6,7,8,9]:=rfl
 have b0 : zQ z0 0=84:=rfl
 have b1 : zQ z0 1=65:=rfl
 have b2 : zQ z0 2=66:=rfl
 have b3 : zQ z0 3=76:=rfl
 have b4 : zQ z0 4=70:=rfl
 have b5 : zQ z0 5=83:=rfl
 have b6 : zQ z0 6=78:=rfl
 have b7 : zQ z0 7=85:=rfl
 have b8 : zQ z0 8=77:=rfl
 have b9 : zQ z0 9=69:=rfl
 rw [kY,r10]
 simp only [List.all_cons,List.all_nil,Bool.and_true,thR,b0,b1,b2,b3,b4,b5,b6,b7,b8,b9,e0,e1,e2,e3,e4,e5,e6,e7,e8,e9,V5,List.getD_cons_zero,List.getD_cons_succ,zH,Zb,id]
 ac_rfl
set_option maxHeartbeats 4000000 in
theorem acS {p : PtD} {has : List UInt8} {c : List Value} {w : World} {r : Gh} {K : Value→World→Prop} (hr : Holds r w) (hp : PtG r c p) (hh : has.length≤100)
  (h : ∀ w',Ext w w'→K (.bool (kY p has 10)) w') : ze Tryz.prog Tryz.zO #[.agg c.toArray,.string (bs has)] w K:=by
 refine Tryz.abn ?_
 unfold Tryz.XY
 obtain ⟨q1,q2,q3,q4,q5,c1,c2,c3,c4,c5,rfl,hp0⟩:=kk hp
 obtain ⟨_,_,_,_,_,hE,k1,k2,k3,k4,k5⟩:=hp0
 cases hE
 have S:=St.start hr
 refine S.box fun b1 w1 S=>?_
 have S : StX noX w r w1 [.cell b1 (ptL p q1 q2 q3 q4 q5 c1 c2 c3 c4 c5) 53]:=S
 refine zk (ι:=Nat) (fun i=>[.bool (kY p has i),.int .i64 (i : Nat)]) (fun i w'=>i≤10∧StX noX w r w' [.cell b1 (ptL p q1 q2 q3 q4 q5 c1 c2 c3 c4 c5) 53]) (fun i=>10 - i) 0 rfl ⟨Nat.zero_le _,S⟩ ?_
 clear S
 rintro i d w2 ⟨hi,S⟩ K2 hK2
 simp only [List.getD_cons_zero,List.getD_cons_succ]
 refine gg_ ?_
 refine zj (fun hlt=>?_) (fun hge=>?_)
 rotate_left
 ·have hie : i=10:=by omega
  rw [hie];exact h _ S.ext
 have hlt : i<10:=by omega
 refine zp (fun s w'=>s = [.bool (kY p has (i+1))]∧StX noX w r w' [.cell b1 (ptL p q1 q2 q3 q4 q5 c1 c2 c3 c4 c5) 53]) (fun K6 hK6=>?_) ?_
 rotate_left
 ·clear S
  rintro _ w3 ⟨rfl,S⟩ d3
  rw [List.getD_cons_zero]
  refine gg_ ?_
  rw [show ((i : Int)+1)=((i+1 : Nat) : Int) by omega]
  exact hK2 (i+1) _ ⟨hlt,S⟩ (by omega)
 have hcl : z0.length=10:=rfl
 show opP Tryz.prog (Instr.index 9 (.string (bs z0)) _) _
 refine gg_ ?_
 rw [Int.toNat_natCast]
 refine zk (ι:=Nat) (fun k=>[.bool (kr (has.take k) (zQ z0 i)),.int .i64 (k : Nat)]) (fun k w'=>k≤has.length∧StX noX w r w' [.cell b1 (ptL p q1 q2 q3 q4 q5 c1 c2 c3 c4 c5) 53]) (fun k=>has.length - k) 0 rfl ⟨Nat.zero_le _,S⟩ ?_
 clear S
 rintro k d w4 ⟨hk,S⟩ K10 hK10
 simp only [List.getD_cons_zero,List.getD_cons_succ]
 refine gg_ ?_
 refine zj (fun hlt2=>?_) (fun hge2=>?_)
 ·have hlt2 : k<has.length:=by omega
  have hs : kr (has.take (k+1)) (zQ z0 i)=(kr (has.take k) (zQ z0 i)||decide (zQ has k=zQ z0 i)):=by
   rw [kr,List.take_succ_eq_append_getElem hlt2,List.any_append]
   simp only [List.any_cons,List.any_nil,Bool.or_false]
   have : zQ has k=(has[k].toNat : Int):=by rw [zQ,List.getD_eq_getElem?_getD,List.getElem?_eq_getElem hlt2];rfl
   rw [this];rfl
  refine zh (c:=decide (zQ has k=zQ z0 i)) (fun _ K2 hK2=>?_) ?_
  ·refine gg_ ?_
   rw [Int.toNat_natCast]
   exact hK2
  rw [← hs]
  refine gg_ ?_
  rw [show ((k : Int)+1)=((k+1 : Nat) : Int) by omega]
  exact hK10 (k+1) _ ⟨hlt2,S⟩ (by omega)
 have hke : k=has.length:=by omega
 rw [hke,List.take_length]
 have hth : kY p has (i+1)=(kY p has i&&(kr has (zQ z0 i)||(V5 p).getD i true)):=adX p has i
 refine c_b (fun hin=>?_) (fun hno=>?_)
 ·rw [hin,Bool.true_or,Bool.and_true] at hth
  exact hK6 _ _ ⟨by rw [hth],S⟩
 rw [hno,Bool.false_or] at hth
 clear hno hK10 hge2 hke hk
 have fin : ∀ {w9 : World},Ext w4 w9→K6 [.bool (kY p has i&&(V5 p).getD i true)] w9:=fun e=>hK6 _ _ ⟨by rw [hth],S.go e⟩
 clear hK6 hth
 have hpto : PlG r [.int .i64 p.to.l,.slice q1 p.to.ps.length c1] p.to:=⟨_,rfl,k1⟩
 have hpfr : PlG r [.int .i64 p.fr.l,.slice q5 p.fr.ps.length c5] p.fr:=⟨_,rfl,k5⟩
 have hoa : OpG r [.int .u8 p.a.k,.int .i64 p.a.n,.int .i64 p.a.pl.l,.slice q2 p.a.pl.ps.length c2] p.a:=⟨_,rfl,k2⟩
 have hob : OpG r [.int .u8 p.b.k,.int .i64 p.b.n,.int .i64 p.b.pl.l,.slice q3 p.b.pl.ps.length c3] p.b:=⟨_,rfl,k3⟩
 have hi10 : i=0∨i=1∨i=2∨i=3∨i=4∨i=5∨i=6∨i=7∨i=8∨i=9:=by omega
 rcases hi10 with rfl|rfl|rfl|rfl|rfl|rfl|rfl|rfl|rfl|rfl
 ·rw [show zQ z0 0=84 from rfl]
  refine gg_ ?_
  refine c_t (by decide) ?_
  refine zs (c:=xc p.to) (fun _ K9 hK9=>?_) fun w9 e9=>fin e9
  refine gg_ ?_
  refine S.ldN (b:=b1) ?_
  exact xa S.holds hpto fun w6 e6=>hK9 _ e6
 ·rw [show zQ z0 1=65 from rfl]
  iterate 1 (refine gg_ ?_;refine c_f (by decide) ?_)
  refine gg_ ?_
  refine c_t (by decide) ?_
  refine zs (c:=j3 p.a) (fun _ K9 hK9=>?_) fun w9 e9=>fin e9
  refine gg_ ?_
  refine S.ldN (b:=b1) ?_
  exact jE S.holds hoa fun w6 e6=>hK9 _ e6
 ·rw [show zQ z0 2=66 from rfl]
  iterate 2 (refine gg_ ?_;refine c_f (by decide) ?_)
  refine gg_ ?_
  refine c_t (by decide) ?_
  refine zs (c:=j3 p.b) (fun _ K9 hK9=>?_) fun w9 e9=>fin e9
  refine gg_ ?_
  refine S.ldN (b:=b1) ?_
  exact jE S.holds hob fun w6 e6=>hK9 _ e6
 ·rw [show zQ z0 3=76 from rfl]
  iterate 3 (refine gg_ ?_;refine c_f (by decide) ?_)
  refine gg_ ?_
  refine c_t (by decide) ?_
  refine zg (c:=decide (p.args.length=0)) (fun _ K9 hK9=>?_) (fin (Ext.refl _))
  refine gg_ ?_
  rw [decide_eq_decide.2 (xU p.args.length)]
  exact hK9
 ·rw [show zQ z0 4=70 from rfl]
  iterate 4 (refine gg_ ?_;refine c_f (by decide) ?_)
  refine gg_ ?_
  refine c_t (by decide) ?_
  refine zs (c:=xc p.fr) (fun _ K9 hK9=>?_) fun w9 e9=>fin e9
  refine gg_ ?_
  refine S.ldN (b:=b1) ?_
  exact xa S.holds hpfr fun w6 e6=>hK9 _ e6
 ·rw [show zQ z0 5=83 from rfl]
  iterate 5 (refine gg_ ?_;refine c_f (by decide) ?_)
  refine gg_ ?_
  refine c_t (by decide) ?_
  refine zg (c:=p.sign.toList == []) (fun _ K9 hK9=>?_) (fin (Ext.refl _))
  refine gg_ ?_
  exact hK9
 ·rw [show zQ z0 6=78 from rfl]
  iterate 6 (refine gg_ ?_;refine c_f (by decide) ?_)
  refine gg_ ?_
  refine c_t (by decide) ?_
  refine zg (c:=decide (p.fn=0)) (fun _ K9 hK9=>?_) (fin (Ext.refl _))
  refine gg_ ?_
  exact hK9
 ·rw [show zQ z0 7=85 from rfl]
  iterate 7 (refine gg_ ?_;refine c_f (by decide) ?_)
  refine gg_ ?_
  refine c_t (by decide) ?_
  refine zg (c:=decide (p.st=0)) (fun _ K9 hK9=>?_) (fin (Ext.refl _))
  refine gg_ ?_
  exact hK9
 ·rw [show zQ z0 8=77 from rfl]
  iterate 8 (refine gg_ ?_;refine c_f (by decide) ?_)
  refine gg_ ?_
  refine c_t (by decide) ?_
  refine zg (c:=!p.mu) (fun _ K9 hK9=>?_) (fin (Ext.refl _))
  refine gg_ ?_
  exact hK9
 ·rw [show zQ z0 9=69 from rfl]
  iterate 9 (refine gg_ ?_;refine c_f (by decide) ?_)
  refine gg_ ?_
  refine c_t (by decide) ?_
  refine zg (c:=decide (p.el=0)) (fun _ K9 hK9=>?_) (fin (Ext.refl _))
  refine gg_ ?_
  exact hK9
end Go.Proofs
end
section
namespace Go.Proofs
open Go.Sh
set_option maxRecDepth 100000
set_option linter.unusedSimpArgs false
set_option linter.unusedVariables false
def jt (u : UnD) (fn q : Int) : Option PtD:=u.fs[fn.toNat]?.bind fun g=>g.pts[q.toNat]?
noncomputable def vL (u : UnD) (fn q : Int) : TyD × Int:=
 if atE u fn q 4≠0 then (zr,atE u fn q 4)
 else match jt u fn q with
  |some p=>(.mk 4 p.mu (atL (zn u fn q).1.at' q) 0 [(yy u.ss (zn u fn q).1.tys p.fr).1],(yy u.ss (zn u fn q).1.tys p.fr).2)
  |none=>(zr,2)
theorem acT {u : UnD} {fn q : Int} (hc : isU u fn q=true) (hq : 0≤q) : ∃ hl : q.toNat<(zn u fn q).1.at'.length,(zn u fn q).1.at'[q.toNat]=atL (zn u fn q).1.at' q:=by
 obtain ⟨hM,hf0,hlt,hql,hT⟩:=qJ hc
 have hl : q.toNat<(zn u fn q).1.at'.length:=by rw [hT,show (allD u u.fs[fn.toNat],(0 : Int)).1=allD u u.fs[fn.toNat] from rfl,J4.2];omega
 exact ⟨hl,by rw [atL,List.getD_eq_getElem?_getD,List.getElem?_eq_getElem hl];rfl⟩
set_option maxHeartbeats 1000000 in
theorem vV {u : UnD} {fn q : Int} {v : Value} {w : World} {r : Gh} {K : Value→World→Prop} (hr : Holds r w) (hu : UnG r v u)
  (h : ∀ v' s w',Ext w w'→New w s w'→TyG s v' (vL u fn q).1→K (.tuple #[v',.int .i64 (vL u fn q).2]) w') : ze Tryz.prog Tryz.xD #[v,.int .i64 fn,.int .i64 q] w K:=by
 refine Tryz.Qp ?_
 unfold Tryz.vT
 have hu0:=hu
 obtain ⟨p0,cap0,vf,rfl,_,_,hst,hsl,hfn⟩:=hu
 obtain ⟨qf,capf,rfl,_,_⟩:=hfn.sl.shape
 have S:=St.start hr
 refine S.box fun b3 w1 S=>?_
 have S : StX noX w r w1 [.cell b3 [.slice p0 u.ss.length cap0,.slice qf u.fs.length capf,.int .i64 u.mn] 25]:=S
 refine S.al fun b6 w2 S=>?_
 refine S.ldB (b:=b3) ?_ rfl
 refine Jy S.holds hu0 fun v3 d cp p s w3 e3 n3 hd hp hz=>?_
 obtain ⟨S,d3,a3⟩:=S.tell e3 n3
 obtain ⟨q1,c1,q2,c2,rfl,g1,g2⟩:=hd.shape
 obtain ⟨x1,x2,x3,x4,x5,y1,y2,y3,y4,y5,rfl,hp0⟩:=kk hp
 have hB : vL u fn q=if atE u fn q 4≠0 then (zr,atE u fn q 4) else match jt u fn q with
  |some p=>(.mk 4 p.mu (atL (zn u fn q).1.at' q) 0 [(yy u.ss (zn u fn q).1.tys p.fr).1],(yy u.ss (zn u fn q).1.tys p.fr).2)
  |none=>(zr,2):=rfl
 generalize atE u fn q 4=e at hz hB
 refine gS_ ?_
 refine S.al fun b8 w4 S=>?_
 refine S.al fun b9 w5 S=>?_
 refine S.stB (b:=b8) fun w6 S=>?_
 refine S.stB (b:=b9) fun w7 S=>?_
 refine gP_ ?_
 refine zj (fun hne=>?_) (fun heq=>?_)
 ·rw [if_pos hne] at hB
  rw [hB] at h
  refine zo (cs:=#[.int .u8 0,.bool false,.int .i64 0,.int .i64 0,.slice none 0 0]) (by kernel_rfl) ?_
  refine S.stB (b:=b6) fun w8 S=>?_
  refine gG_ ?_
  exact h _ nothing _ S.ext New.nothing zI
 have heq : e=0:=by omega
 obtain ⟨hc,hq0,rfl,hpt,hop,_⟩:=hz heq
 have hpt : jt u fn q=some p:=hpt
 rw [if_neg (by omega),hpt] at hB
 dsimp only at hB
 rw [hB] at h
 have htl : (zn u fn q).1.tys.length≤maxLen:=by have:=J5 (u:=u) (fn:=fn) (q:=q);simp only [maxLen];omega
 obtain ⟨hal,hat⟩:=acT hc hq0
 obtain ⟨_,_,_,_,_,_,hpf⟩:=id hp0
 obtain ⟨_,_,_,_,h5⟩:=(show _∧_∧_∧_∧_ from by
  obtain ⟨_,_,_,_,_,hE,k1,k2,k3,k4,k5⟩:=hp0
  cases hE
  exact ⟨k1,k2,k3,k4,k5⟩)
 refine gP_ ?_
 refine S.ld (b:=b3) ?_ rfl
 refine gP_ ?_
 refine S.ld (b:=b8) ?_ rfl
 refine gP_ ?_
 refine S.ldN (b:=b9) ?_
 refine Qz S.holds hst.up (xg g1).up htl (p:=p.fr) ⟨_,rfl,h5.cells⟩ fun v9 sn w9 e9 n9 t9 c9=>?_
 obtain ⟨S,d9,a9⟩:=S.tell e9 n9
 have t90:=t9
 obtain ⟨p9,cap9,rfl,_⟩:=t9
 refine gS_ ?_
 refine S.al fun b11 w10 S=>?_
 refine S.stB (b:=b11) fun w11 S=>?_
 have S:=S.go (Ext.drew _)
 obtain ⟨ba,oa,ca,hqa,hca,hcc,hcell⟩:=g2.get (by decide) hal
 subst hqa
 obtain rfl : ca=_:=hcc
 refine gG_ ?_
 refine zm (v:=.int .i64 (atL (zn u fn q).1.at' q)) (by rw [← hat];simpa using S.at (hcell 0 _ rfl)) ?_
 refine gG_ ?_
 refine S.litU (vm (c:=tyL (yy u.ss (zn u fn q).1.tys p.fr).1 p9 cap9) t90) fun b12 w12 S=>?_
 refine zo (cs:=#[.int .u8 4,.bool p.mu,.int .i64 (atL (zn u fn q).1.at' q),.int .i64 0,.slice (some ⟨b12,0,none⟩) 1 1]) (by kernel_rfl) ?_
 refine S.stB (b:=b6) fun w13 S=>?_
 refine S.ceB (b:=b6) ?_ rfl
 have hm:=S.mine (.cell b12 (tyL (yy u.ss (zn u fn q).1.tys p.fr).1 p9 cap9) 31) (by simp) b12 rfl
 have S:=(S.frzAt b12).reGh
 refine h _ (sn.or (one b12 (tyL (yy u.ss (zn u fn q).1.tys p.fr).1 p9 cap9) 31)) _ S.ext (S.newOf ?_) (vi t90)
 rintro b o (hb|⟨rfl,_⟩)
 ·exact a9 b o hb
 ·exact hm.1.resolve_right id
def yg (a : Int) (t : TyD) : TyD:=t.lay ((regsT t).map fun k=>a+k)
theorem adY {t : TyD} {a q : Int} {b5 b9 : Nat} {c9 : List Value} {l : List Int} {p2 : Option Addr} {cp2 : Nat} {v : Value} {w : World} {r : Gh} {K : Value→World→Prop} (hB : isB t=true) (hreg : ∀ x ∈ t.regs,0≤x∧x<8) (ha : t.regs≠[]→0≤a∧a≤1000)
  (h9 : Ob r fun w=>Blk w b9 c9 41) (hc9 : c9[4]? = some (.slice p2 l.length cp2)) (h5 : Ob r fun w=>Blk w b5 [.int .i64 q] 3) (hl : SlG 1 r kp (.slice p2 l.length cp2) l) (hq0 : 0≤q) (hq : q.toNat<l.length) (hqa : l[q.toNat]=a)
  (hr : Holds r w) (hv : TyG r v t) (h : ∀ v' sn w',Ext w w'→New w sn w'→TyG sn v' (yg a t)→K v' w') :
  zJ Tryz.prog (.func (.func Tryz.k7) #[] #[.pointer (some ⟨b9,0,none⟩),.pointer (some ⟨b5,0,none⟩)]) #[v] w K:=by
 refine QP (by kernel_rfl) ?_
 refine Tryz.Qu ?_
 unfold Tryz.vU
 have hv0:=hv
 obtain ⟨p1,cap1,rfl,_⟩:=hv
 have S:=St.start hr
 refine S.box fun b1 w1 S=>?_
 have S : StX noX w r w1 [.cell b1 (tyL t p1 cap1) 31]:=S
 refine S.al fun b4 w2 S=>?_
 refine S.ldB (b:=b1) ?_ rfl
 refine gP_ ?_
 have hrT : regsT t=t.regs:=by rw [regsT,hB];rfl
 refine Yj (Lc:=fun _=>[]) (m:=t.regs.map fun k=>a+k) hB (List.length_map ..) (fun x hx=>?_) (fun i hi {M w K} S h=>?_) (M:=[.cell b4 yL 31,.cell b1 (tyL t p1 cap1) 31]) S hv0 fun v' sn w3 S a3 ht hc=>?_
 ·obtain ⟨k,hk,rfl⟩:=List.mem_map.1 hx
  have:=hreg k hk
  have:=ha (List.ne_nil_of_mem hk)
  omega
 ·refine QP (by kernel_rfl) ?_
  refine Tryz.Xg ?_
  unfold Tryz.jC
  have hk:=hreg _ (List.getElem_mem hi)
  have hak:=ha (List.ne_nil_of_mem (List.getElem_mem hi))
  obtain ⟨ba,oa,ca,hpa,hca,hcc,hcell⟩:=hl.get (by decide) hq
  subst hpa
  obtain rfl : ca=_:=hcc
  refine gP_ ?_
  refine zm (v:=.slice (some ⟨ba,oa,none⟩) l.length cp2) (by rw [(S.at h9).cell];exact hc9) ?_
  refine zm (v:=.int .i64 q) (by rw [(S.at h5).cell];rfl) ?_
  refine gP_ ?_
  refine zm (v:=.int .i64 a) (by rw [← hqa];simpa using S.at (hcell 0 _ rfl)) ?_
  refine gP_ ?_
  have:=h _ S
  rw [List.getElem_map] at this
  exact this
 have ht0:=ht
 obtain ⟨p3,cap3,rfl,_⟩:=ht
 have S : StX noX w (r.or sn) w3 [.cell b4 yL 31,.cell b1 (tyL t p1 cap1) 31]:=S
 refine S.stB (b:=b4) fun w4 S=>?_
 refine S.ceB (b:=b4) ?_ rfl
 refine h _ sn _ S.ext (S.newOf a3) ?_
 rw [yg,hrT];exact ht0
noncomputable def jX (u : UnD) (fn q : Int) : List TyD × TyD × Int:=
 if atE u fn q 7≠0 then ([],zr,atE u fn q 7)
 else match jt u fn q with
  |some p=>match u.fs[p.fn.toNat]? with
   |some f=>(((f.tys.drop 1).take f.pn.toNat).map (yg (atL (zn u fn q).1.at' q)),yg (atL (zn u fn q).1.at' q) (f.tys.headD zr),0)
   |none=>([],zr,2)
  |none=>([],zr,2)
theorem acU {u : UnD} {fn q : Int} {p : PtD} (hlt : fn.toNat<u.fs.length) (h : jt u fn q=some p) : ∃ hq : q.toNat<u.fs[fn.toNat].pts.length,u.fs[fn.toNat].pts[q.toNat]=p:=by
 rw [jt,List.getElem?_eq_getElem hlt,Option.bind_some] at h
 exact List.getElem?_eq_some_iff.1 h
theorem aeH {u : UnD} {fn q : Int} {p : PtD} (hc : isU u fn q=true) (hq : 0≤q) (hp : jt u fn q=some p) (hn : ptN u p≠0) : 0≤atL (zn u fn q).1.at' q∧atL (zn u fn q).1.at' q+ptN u p≤(zn u fn q).1.ct:=by
 obtain ⟨hM,hf0,hlt,hql,hT⟩:=qJ hc
 obtain ⟨hql',rfl⟩:=acU hlt hp
 obtain ⟨hl,ha⟩:=acT hc hq
 have hN:=fun p hp=>hM.ptN (List.getElem_mem hlt) (p:=p) hp
 have hH:=hM.hd hlt
 have e1 : (zn u fn q).1=allD u u.fs[fn.toNat]:=by rw [hT]
 rw [← ha]
 have e2 : (zn u fn q).1.at'=atK u u.fs[fn.toNat].pts (u.fs[fn.toNat].lv+zS u.fs[fn.toNat].tys):=by rw [e1];rfl
 have e3 : (zn u fn q).1.at'[q.toNat]=u.fs[fn.toNat].lv+zS u.fs[fn.toNat].tys+atC u (u.fs[fn.toNat].pts.take q.toNat):=by
  simp only [e2]
  rw [aez hql',if_neg hn]
 rw [e3,e1]
 have h1:=ZN (u:=u) (l:=u.fs[fn.toNat].pts) (fun p hp=>(hN p hp).1) q.toNat
 have h2:=ZN (u:=u) (l:=u.fs[fn.toNat].pts) (fun p hp=>(hN p hp).1) (q.toNat+1)
 rw [J0 hql'] at h2
 have h3:=qH u.fs[fn.toNat].tys
 have h4:=hH.lv0
 show _∧_≤u.fs[fn.toNat].lv+zS u.fs[fn.toNat].tys+atC u u.fs[fn.toNat].pts
 omega
set_option maxHeartbeats 2000000 in
theorem Ym {u : UnD} {fn q : Int} {v : Value} {w : World} {r : Gh} {K : Value→World→Prop} (hr : Holds r w) (hu : UnG r v u)
  (h : ∀ vl v' s w',Ext w w'→New w s w'→SlG 5 s (TyC s) vl (jX u fn q).1→TyG s v' (jX u fn q).2.1→K (.tuple #[vl,v',.int .i64 (jX u fn q).2.2]) w') : ze Tryz.prog Tryz.kv #[v,.int .i64 fn,.int .i64 q] w K:=by
 refine Tryz.JV ?_
 unfold Tryz.Yd
 have hu0:=hu
 obtain ⟨p0,cap0,vf,rfl,_,_,hst,hsl,hfn⟩:=hu
 obtain ⟨qf,capf,rfl,_,_⟩:=hfn.sl.shape
 have S:=St.start hr
 refine S.box fun b3 w1 S=>?_
 have S : StX noX w r w1 [.cell b3 [.slice p0 u.ss.length cap0,.slice qf u.fs.length capf,.int .i64 u.mn] 25]:=S
 refine S.box fun b5 w2 S=>?_
 have S : StX noX w r w2 [.cell b5 [.int .i64 q] 3,.cell b3 [.slice p0 u.ss.length cap0,.slice qf u.fs.length capf,.int .i64 u.mn] 25]:=S
 refine S.al fun b7 w2 S=>?_
 refine S.ldB (b:=b3) ?_ rfl
 refine S.ld (b:=b5) ?_ rfl
 refine Jy S.holds hu0 fun v3 d cp p s w3 e3 n3 hd hp hz=>?_
 obtain ⟨S,d3,a3⟩:=S.tell e3 n3
 obtain ⟨q1,c1,q2,c2,rfl,g1,g2⟩:=hd.shape
 obtain ⟨x1,x2,x3,x4,x5,y1,y2,y3,y4,y5,rfl,hp0⟩:=kk hp
 have hB : jX u fn q=if atE u fn q 7≠0 then ([],zr,atE u fn q 7) else match jt u fn q with
  |some p=>match u.fs[p.fn.toNat]? with
   |some f=>(((f.tys.drop 1).take f.pn.toNat).map (yg (atL (zn u fn q).1.at' q)),yg (atL (zn u fn q).1.at' q) (f.tys.headD zr),0)
   |none=>([],zr,2)
  |none=>([],zr,2):=rfl
 generalize atE u fn q 7=e at hz hB
 refine gS_ ?_
 refine S.al fun b9 w4 S=>?_
 refine S.al fun b10 w5 S=>?_
 refine S.stB (b:=b9) fun w6 S=>?_
 refine S.stB (b:=b10) fun w7 S=>?_
 refine gP_ ?_
 refine zj (fun hne=>?_) (fun heq=>?_)
 ·rw [if_pos hne] at hB
  rw [hB] at h
  have S:=S.go (Ext.drew _)
  refine S.ldB (b:=b7) ?_ rfl
  refine S.stB (b:=b7) fun w8 S=>?_
  refine gG_ ?_
  exact h _ _ nothing _ S.ext New.nothing SlG.nil zI
 have heq : e=0:=by omega
 obtain ⟨hc,hq0,rfl,hpt,hop,hct⟩:=hz heq
 have hpt : jt u fn q=some p:=hpt
 obtain ⟨hM,hf0,hlt,hql,hT⟩:=qJ hc
 obtain ⟨hql',hpm⟩:=acU hlt hpt
 have hpc:=jr (hM.pts _ (List.getElem_mem hlt) p (by rw [← hpm];exact List.getElem_mem _)) hop
 have hltf : p.fn.toNat<u.fs.length:=by omega
 rw [if_neg (by omega),hpt] at hB
 dsimp only at hB
 rw [List.getElem?_eq_getElem hltf] at hB
 dsimp only at hB
 rw [hB] at h
 have hHf:=hM.hd hltf
 have hff:=hHf.fine hM.ok
 obtain ⟨hal,hat⟩:=acT hc hq0
 have hptn : ptN u p=u.fs[p.fn.toNat].lv:=by rw [ptN,if_neg (by omega),if_pos hop,aaE,List.getElem?_eq_getElem hltf]
 have hlow:=aeH hc hq0 hpt
 rw [hptn] at hlow
 generalize hA : atL (zn u fn q).1.at' q=A at h hat hlow
 obtain ⟨bf,of,cf,rfl,hcf,hgc,hfo⟩:=hfn.sl.get (by decide) hltf
 generalize u.fs[p.fn.toNat]=f at h hHf hff hlow hgc
 obtain ⟨vo,vt,vn,vp,rfl,k1,k2,k3,k4⟩:=hgc
 obtain ⟨qo,capo,rfl,_,_⟩:=k1.sl.shape
 obtain ⟨qt,capt,rfl,_,hct2⟩:=k2.sl.shape
 obtain ⟨qn,capn,rfl,_,_⟩:=k3.sl.shape
 obtain ⟨qp,capp,rfl,_,_⟩:=k4.sl.shape
 obtain ⟨hlv0,hlv8,hpn0,hpn8,hpn1,hty,_,htys,_,_,_,_,_⟩:=hHf
 refine gG_ ?_
 refine zq (n:=7) hcf (fun j v hj=>S.at (hfo j v hj)) ?_
 refine S.al fun b11 w8 S=>?_
 refine S.stB (b:=b11) fun w9 S=>?_
 have S:=(S.frzAt b9).frzAt b5
 refine gG_ ?_
 have hlen : (f.pn+1).toNat - (1 : Int).toNat=((f.tys.drop 1).take f.pn.toNat).length:=by rw [List.length_take,List.length_drop];omega
 rw [hlen]
 have hsub:=(xg k2.sl).sub (a:=(1 : Int).toNat) (n:=f.pn.toNat) (cap:=capt) hct2
 have hlst : (f.tys.drop (1 : Int).toNat).take f.pn.toNat=(f.tys.drop 1).take f.pn.toNat:=rfl
 rw [hlst] at hsub
 generalize (if capt=(1 : Int).toNat then qt else qt.map (·.add ((1 : Int).toNat*5)))=qs at hsub ⊢
 have hfacts : ∀ (j : Nat) (hj : j<f.tys.length),(j : Int)≤f.pn→isB f.tys[j]=true∧(∀ x ∈ f.tys[j].regs,0≤x∧x<8)∧(f.tys[j].regs≠[]→0≤A∧A≤1000):=fun j hj hjp=>by
  have hB:=(hff.all _ (List.getElem_mem hj)).is hff.few
  have hrT : regsT f.tys[j]=f.tys[j].regs:=by rw [regsT,hB];rfl
  have hr:=ZO htys hj (by omega)
  rw [hrT] at hr
  refine ⟨hB,fun x hx=>by have:=hr x hx;omega,fun hne=>?_⟩
  obtain ⟨x,hx⟩:=List.exists_mem_of_ne_nil _ hne
  have:=hr x hx
  have:=hlow (by omega)
  omega
 have hpar : ∀ (j : Nat) (hj : j<((f.tys.drop 1).take f.pn.toNat).length),isB ((f.tys.drop 1).take f.pn.toNat)[j]=true∧(∀ x ∈ ((f.tys.drop 1).take f.pn.toNat)[j].regs,0≤x∧x<8)∧(((f.tys.drop 1).take f.pn.toNat)[j].regs≠[]→0≤A∧A≤1000):=fun j hj=>by
  rw [List.length_take,List.length_drop] at hj
  rw [List.getElem_take,List.getElem_drop]
  exact hfacts (1+j) (by omega) (by omega)
 have hpl : ((f.tys.drop 1).take f.pn.toNat).length≤8:=by rw [List.length_take,List.length_drop];omega
 generalize hps : (f.tys.drop 1).take f.pn.toNat=ps at h hsub hpar hpl ⊢
 have S:=S.ownNil 31 5
 have S : StX noX w ((((r.or s).or (one b9 (rgL (zn u fn q).1.lv (zn u fn q).1.pt (zn u fn q).1.ct (.slice q1 (zn u fn q).1.tys.length c1) (.slice q2 (zn u fn q).1.at'.length c2)) 41)).or (one b5 [.int .i64 q] 3)).or nothing) w9 [.row (.slice none 0 0) 31 5 0 [],.cell b11 [.string f.name,.int .i64 f.lv,.slice qo f.outs.length capo,.int .i64 f.pn,.slice qt f.tys.length capt,.slice qn f.nms.length capn,.slice qp f.pts.length capp] 58,
  .cell b10 (ptL p x1 x2 x3 x4 x5 y1 y2 y3 y4 y5) 53,.cell b7 yL 31,.cell b3 [.slice p0 u.ss.length cap0,.slice (some ⟨bf,of,none⟩) u.fs.length capf,.int .i64 u.mn] 25]:=S.to _
 have hcl : ∀ {s' : Gh} {t : TyD} {v9 : Value} {w9 : World} {M : List Asr} {K9 : Value→World→Prop},isB t=true→(∀ x ∈ t.regs,0≤x∧x<8)→(t.regs≠[]→0≤A∧A≤1000)→
   StX noX w ((((r.or s).or (one b9 (rgL (zn u fn q).1.lv (zn u fn q).1.pt (zn u fn q).1.ct (.slice q1 (zn u fn q).1.tys.length c1) (.slice q2 (zn u fn q).1.at'.length c2)) 41)).or (one b5 [.int .i64 q] 3)).or s') w9 M→TyG r v9 t→
   (∀ v' sn w',Ext w9 w'→New w9 sn w'→TyG sn v' (yg A t)→K9 v' w')→zJ Tryz.prog (.func (.func Tryz.k7) #[] #[.pointer (some ⟨b9,0,none⟩),.pointer (some ⟨b5,0,none⟩)]) #[v9] w9 K9:=fun h1 h2 h3 S hv hk=>
  adY (l:=(zn u fn q).1.at') (cp2:=c2) (c9:=rgL (zn u fn q).1.lv (zn u fn q).1.pt (zn u fn q).1.ct (.slice q1 (zn u fn q).1.tys.length c1) (.slice q2 (zn u fn q).1.at'.length c2)) h1 h2 h3 (yR (b:=b9)).up rfl (yR (b:=b5)).up g2.cells hq0 hal hat S.holds hv.up hk
 refine zk (ι:=Nat × Value × Gh × List Value) (fun i=>[i.2.1,.int .i64 (i.1 : Nat)]) (fun i w'=>i.1≤ps.length∧RowOf 5 (TyC i.2.2.1) i.2.2.2 ((ps.take i.1).map (yg A))∧Above w i.2.2.1∧
  StX noX w ((((r.or s).or (one b9 (rgL (zn u fn q).1.lv (zn u fn q).1.pt (zn u fn q).1.ct (.slice q1 (zn u fn q).1.tys.length c1) (.slice q2 (zn u fn q).1.at'.length c2)) 41)).or (one b5 [.int .i64 q] 3)).or i.2.2.1) w' [.row i.2.1 31 5 i.1 i.2.2.2,.cell b11 [.string f.name,.int .i64 f.lv,.slice qo f.outs.length capo,.int .i64 f.pn,.slice qt f.tys.length capt,.slice qn f.nms.length capn,.slice qp f.pts.length capp] 58,
   .cell b10 (ptL p x1 x2 x3 x4 x5 y1 y2 y3 y4 y5) 53,.cell b7 yL 31,.cell b3 [.slice p0 u.ss.length cap0,.slice (some ⟨bf,of,none⟩) u.fs.length capf,.int .i64 u.mn] 25]) (fun i=>ps.length - i.1) (0,.slice none 0 0,nothing,[]) rfl ⟨Nat.zero_le _,RowOf.nil,Above.no,S⟩ ?_
 clear S
 rintro ⟨i,vp,s',xs⟩ d w10 ⟨hi,hrow,hab,S⟩ K6 hK6
 simp only at hi hrow hab S ⊢
 simp only [List.getD_cons_zero,List.getD_cons_succ]
 refine gP_ ?_
 refine zj (fun hlt2=>?_) (fun hge=>?_)
 ·have hlt2 : i<ps.length:=by omega
  obtain ⟨bt,ot,ct,rfl,hct3,htc,hto⟩:=hsub i hlt2
  obtain ⟨q4,cap4,rfl,ht4⟩:=zV hto
  obtain ⟨hp1,hp2,hp3⟩:=hpar i hlt2
  refine gP_ ?_
  refine zq (n:=5) hct3 (fun j v hj=>by rw [Int.toNat_natCast];exact S.at (htc j v hj)) ?_
  refine S.al fun b14 w11 S=>?_
  refine S.stB (b:=b14) fun w12 S=>?_
  refine S.ldB (b:=b14) ?_ rfl
  refine hcl hp1 hp2 hp3 S ht4 fun v5 sn w13 e13 n13 h13=>?_
  obtain ⟨S,d13,a13⟩:=S.tell e13 n13
  obtain ⟨q6,cap6,rfl,_⟩:=id h13
  refine S.lit (vm (c:=tyL (yg A ps[i]) q6 cap6) h13) fun b15 w14 S=>?_
  refine S.ap (m':=1) (Sl.blk (S.blk b15)) (fun v15 w15 S=>?_) (by omega)
  have S:=((S.drop b15).drop b14).reGh
  refine gP_ ?_
  rw [show ((i : Int)+1)=((i+1 : Nat) : Int) by omega]
  refine hK6 (i+1,v15,s'.or sn,xs++tyL (yg A ps[i]) q6 cap6) _ ⟨hlt2,?_,hab.or' a13,S⟩ (by show ps.length - (i+1)<ps.length - i;omega)
  show RowOf 5 (TyC (s'.or sn)) (xs++tyL (yg A ps[i]) q6 cap6) ((ps.take (i+1)).map (yg A))
  rw [List.take_succ_eq_append_getElem hlt2,List.map_append]
  exact (hrow.mono fun c x hx=>TyG.up hx).snoc rfl (TyG.up h13)
 have hie : i=ps.length:=by omega
 subst hie
 rw [List.take_length] at hrow
 obtain ⟨s2,S,hsl2,_,hab2⟩:=S.doneRow hrow (by decide) (by rw [List.length_map])
 have hab2 : Above w s2:=fun b o ho=>(hab2 b o ho).resolve_right id
 have hpos : 0<f.tys.length:=by omega
 have hhd : f.tys.headD zr=f.tys[0]:=by rw [List.headD_eq_head?_getD,List.head?_eq_getElem?,List.getElem?_eq_getElem hpos,Option.getD_some]
 obtain ⟨bt,ot,ct,rfl,hct3,htc,hto⟩:=xg k2.sl 0 hpos
 obtain ⟨q4,cap4,rfl,ht4⟩:=zV hto
 obtain ⟨hp1,hp2,hp3⟩:=hfacts 0 hpos (by omega)
 have S:=S.reGh
 refine gG_ ?_
 refine zq (n:=5) hct3 (fun j v hj=>by simpa using S.at (htc j v hj)) ?_
 refine hcl hp1 hp2 hp3 S ht4 fun v5 sn w13 e13 n13 h13=>?_
 obtain ⟨S,d13,a13⟩:=S.tell e13 n13
 obtain ⟨q6,cap6,rfl,_⟩:=id h13
 have S:=S.reGh
 refine S.stB (b:=b7) fun w14 S=>?_
 refine S.ceB (b:=b7) ?_ rfl
 rw [hhd] at h
 rw [heq]
 exact h _ _ ((s'.or s2).or sn) _ S.ext (S.newOf ((hab.or' hab2).or' a13)) (hsl2.up' inferInstance fun c x hx=>TyG.up hx) (TyG.up h13)
end Go.Proofs
end
section
namespace Go.Proofs
open Go.Sh
set_option maxRecDepth 100000
set_option linter.unusedSimpArgs false
set_option linter.unusedVariables false
theorem yB : ∀ (n : Nat) (t : TyD),t.ht≤n→t.few→∀ {w : World} {r : Gh} {va vb : Value} {K : Value→World→Prop},Holds r w→TyG r va t→TyG r vb t→
  (∀ w',Ext w w'→K (.bool true) w')→ze Tryz.prog Tryz.z6 #[va,vb] w K:=by
 intro n
 induction n with
 |zero=>intro t h;cases t;simp [TyD.ht] at h
 |succ n ih=>
  intro t hn hf w r va vb K hr ha hb h
  obtain ⟨hlen,hfs⟩:=TyD.few_of hf
  obtain ⟨p,cap,rfl,_,_,hra⟩:=ha
  obtain ⟨q,cap',rfl,_,_,hrb⟩:=hb
  refine Tryz.Q2 ?_
  unfold Tryz.ZB
  have S:=St.start hr
  refine S.box fun b2 w1 S=>?_
  refine S.box fun b3 w2 S=>?_
  refine gG_ ?_
  refine zh (c:=false) (fun _ K2 hK2=>?_) ?_
  ·refine gG_ ?_
   simpa using hK2
  refine zh (c:=false) (fun _ K2 hK2=>?_) ?_
  ·refine gG_ ?_
   simpa using hK2
  refine zh (c:=false) (fun _ K2 hK2=>?_) ?_
  ·refine gG_ ?_
   simpa using hK2
  refine zh (c:=false) (fun _ K2 hK2=>?_) ?_
  ·refine gG_ ?_
   simpa using hK2
  refine c_f (by simp) ?_
  refine zk (ι:=Nat) (fun i=>[.int .i64 i]) (fun i w'=>i≤t.of.length∧StX noX w r w' [.cell b3 (Value.agg #[.int .u8 t.k,.bool t.m,.int .i64 t.re,.int .i64 t.st,.slice q t.of.length cap']).cells.toList 31,.cell b2 (Value.agg #[.int .u8 t.k,.bool t.m,.int .i64 t.re,.int .i64 t.st,.slice p t.of.length cap]).cells.toList 31])
   (fun i=>t.of.length - i) 0 rfl ⟨Nat.zero_le _,S⟩ ?_
  clear S
  rintro i d w3 ⟨hi,S⟩ K6 hK6
  rw [List.getD_cons_zero]
  refine gG_ ?_
  refine c_b (fun hlt=>?_) (fun hge=>h _ S.ext)
  have hlt : i<t.of.length:=by simpa using hlt
  have S:=S.go (Ext.drew _)
  obtain ⟨ba,oa,ca,rfl,hca1,hca2,hca3⟩:=ki S hra hlt
  obtain ⟨bb,ob,cb,rfl,hcb1,hcb2,hcb3⟩:=ki S hrb hlt
  refine gG_ ?_
  refine zq (n:=5) hca1 (fun j v hj=>by rw [Int.toNat_natCast];exact hca2 j v hj) ?_
  refine gG_ ?_
  refine zq (n:=5) hcb1 (fun j v hj=>by rw [Int.toNat_natCast];exact hcb2 j v hj) ?_
  refine ih (t.of[i]) (by have:=TyD.ht_of (List.getElem_mem hlt);omega) (hfs _ (List.getElem_mem hlt)) S.holds hca3 hcb3 fun w4 e4=>?_
  have S:=S.go e4
  refine gG_ ?_
  rw [show ((i : Int)+1)=((i+1 : Nat) : Int) by omega]
  exact hK6 (i+1) _ ⟨hlt,S⟩ (by omega)
end Go.Proofs
end
section
namespace Go.Sh
theorem StX.mkSU {P : Program} {X : Nat→Prop} {w0 w : World} {r : Gh} {L : List Asr} {t e : TypeId} {bytes : Nat} {kl : IntKind} {n : Int} {z : Value} (S : StX X w0 r w L) [hT : ApT P t e 1 bytes] [hz : ZrT P e [z]] {K : Value→World→Prop} (h0 : 0≤n) (hb : (bytes : Int)*n≤281474976710656)
  (h : ∀ b w',StX X w0 r w' (.cell b (List.replicate n.toNat z) e::L)→K (.slice (some ⟨b,0,none⟩) n.toNat n.toNat) w') : opW P w (Instr.makeSlice t (.int kl n) (.int kl n)) fun t' w'=>Ext w w'∧K t' w':=
 aeg hT.h hz.h h0 hb fun b w' hb e _ B=>⟨e,h b w' (S.add e (by omega) B)⟩
theorem StX.litNew {w0 w : World} {r : Gh} {L M : List Asr} {α : Type} {sz : Nat} {R : List Value→α→Prop} {l : List α} {e : TypeId} {xs : List Value} (S : StX noX w0 r w L) (b : Nat) [h : vI b L xs e M] (hr : RowOf sz R xs l) (hz : 0<sz) :
  StX noX w0 (r.or (one b xs e)) w M∧SlG sz (one b xs e) R (.slice (some ⟨b,0,none⟩) l.length l.length) l∧Above w0 (one b xs e):=by
 have S1:=S.front b
 have hm:=S1.mine (.cell b xs e) List.mem_cons_self b rfl
 obtain ⟨S2,h2⟩:=S1.litSl hr hz
 exact ⟨S2,h2,by rintro b' o ⟨rfl,_⟩;exact hm.1.resolve_right id⟩
end Go.Sh
namespace Go.Proofs
open Go.Sh
set_option maxRecDepth 100000
set_option linter.unusedSimpArgs false
set_option linter.unusedVariables false
theorem qX {α : Type} {sz : Nat} {R : List Value→α→Prop} {c : List Value} {x : α} (hc : c.length=sz) (hx : R c x) : RowOf sz R c [x]:=RowOf.nil.snoc (xs:=[]) hc hx
theorem xY {α : Type} {sz : Nat} {R : List Value→α→Prop} {c xs : List Value} {x : α} {l : List α} (hc : c.length=sz) (hx : R c x) (h : RowOf sz R xs l) : RowOf sz R (c++xs) (x::l):=by
 obtain ⟨h1,h2⟩:=h
 refine ⟨by rw [List.length_append,List.length_cons,h1,hc,Nat.succ_mul,Nat.add_comm],fun i hi=>?_⟩
 cases i with
 |zero=>rw [Nat.zero_mul,List.drop_zero,List.take_append_of_le_length (by omega),List.take_of_length_le (by omega)];exact hx
 |succ i=>
  have e : ((c++xs).drop ((i+1)*sz))=xs.drop (i*sz):=by
   rw [show (i+1)*sz=c.length+i*sz by rw [hc,Nat.succ_mul,Nat.add_comm],← List.drop_drop,List.drop_left'];rfl
  rw [e]
  exact h2 i (by simpa using hi)
theorem Y4 {α : Type} {sz : Nat} {r : Gh} {R : List Value→α→Prop} {v : Value} {l : List α} (h : SlG sz r R v l) (hl : l.length≤1000000:=by decide) : SlB sz r R v l:=⟨h,by simp only [maxLen];omega⟩
def QC : TyD:=.mk 4 true (-1) 0 [zZ]
def plD (l : Int) : PlD:=⟨l,[]⟩
def agv (n : Int) : OpD:=⟨1,n,vr⟩
def hp0 : PtD:=⟨4,plD 2,Yk,Yk,[],ByteArray.empty,plD 1,true,0,0,1,0,0⟩
def hp1 : PtD:=⟨1,plD 1,agv 2,Yk,[],ByteArray.empty,vr,false,0,0,2,0,0⟩
def hp2 : PtD:=⟨1,⟨2,[-1]⟩,agv 3,Yk,[],ByteArray.empty,vr,false,0,0,3,0,0⟩
def hp3 : PtD:=⟨14,vr,Yk,Yk,[],ByteArray.empty,vr,false,0,0,0,0,0⟩
def qC : GrD:=⟨ByteArray.empty,0,[],0,[zZ,zZ,QC],[ByteArray.empty,ByteArray.empty,ByteArray.empty],[hp0,hp1,hp2,hp3]⟩
def xn : UnD:=⟨[],[qC],0⟩
abbrev ZR : List Value:=[.int .u8 1,.bool false,.int .i64 0,.int .i64 0,.slice none 0 0]
abbrev agw : Value:=.agg #[.int .u8 1,.bool false,.int .i64 0,.int .i64 0,.slice none 0 0]
abbrev agx (n : Int) : Value:=.agg #[.int .u8 1,.int .i64 n,.int .i64 0,.slice none 0 0]
abbrev hl0 : List Value:=[.int .u8 4,.int .i64 2,.slice none 0 0,.int .u8 0,.int .i64 0,.int .i64 0,.slice none 0 0,.int .u8 0,.int .i64 0,.int .i64 0,.slice none 0 0,.slice none 0 0,.string ByteArray.empty,.int .i64 1,.slice none 0 0,.bool true,.int .i64 0,.int .i64 0,.int .i64 1,.int .i64 0,.int .i64 0]
abbrev hl1 : List Value:=[.int .u8 1,.int .i64 1,.slice none 0 0,.int .u8 1,.int .i64 2,.int .i64 0,.slice none 0 0,.int .u8 0,.int .i64 0,.int .i64 0,.slice none 0 0,.slice none 0 0,.string ByteArray.empty,.int .i64 0,.slice none 0 0,.bool false,.int .i64 0,.int .i64 0,.int .i64 2,.int .i64 0,.int .i64 0]
abbrev hl2 (b : Nat) : List Value:=[.int .u8 1,.int .i64 2,.slice (some ⟨b,0,none⟩) 1 1,.int .u8 1,.int .i64 3,.int .i64 0,.slice none 0 0,.int .u8 0,.int .i64 0,.int .i64 0,.slice none 0 0,.slice none 0 0,.string ByteArray.empty,.int .i64 0,.slice none 0 0,.bool false,.int .i64 0,.int .i64 0,.int .i64 3,.int .i64 0,.int .i64 0]
abbrev hl3 : List Value:=[.int .u8 14,.int .i64 0,.slice none 0 0,.int .u8 0,.int .i64 0,.int .i64 0,.slice none 0 0,.int .u8 0,.int .i64 0,.int .i64 0,.slice none 0 0,.slice none 0 0,.string ByteArray.empty,.int .i64 0,.slice none 0 0,.bool false,.int .i64 0,.int .i64 0,.int .i64 0,.int .i64 0,.int .i64 0]
theorem Jz {w : World} {K : Value→World→Prop} (h : ∀ w',Ext w w'→K agw w') : ze Tryz.prog Tryz.xf #[] w K:=by
 refine Tryz.acp ?_
 unfold Tryz.Jn
 have S : StX noX w nothing w []:=St.start (fun _ _ h=>h.elim)
 refine S.al fun b0 w1 S=>?_
 refine zo (cs:=ZR.toArray) (by kernel_rfl) ?_
 refine S.stB (b:=b0) fun w2 S=>?_
 refine S.ceB (b:=b0) ?_ rfl
 exact h _ S.ext
theorem adk {n : Int} {w : World} {K : Value→World→Prop} (h : ∀ w',Ext w w'→K (agx n) w') : ze Tryz.prog Tryz.zu #[.int .i64 n] w K:=by
 refine Tryz.acr ?_
 unfold Tryz.Jp
 have S : StX noX w nothing w []:=St.start (fun _ _ h=>h.elim)
 refine S.al fun b0 w1 S=>?_
 refine zo (cs:=#[.int .u8 1,.int .i64 n,.int .i64 0,.slice none 0 0]) (by kernel_rfl) ?_
 refine S.stB (b:=b0) fun w2 S=>?_
 refine S.ceB (b:=b0) ?_ rfl
 exact h _ S.ext
theorem adl {m : Bool} {w : World} {K : Value→World→Prop} (h : ∀ q cap sn w',Ext w w'→New w sn w'→TyG sn (tyV (.mk 4 m (-1) 0 [zZ]) q cap) (.mk 4 m (-1) 0 [zZ])→K (tyV (.mk 4 m (-1) 0 [zZ]) q cap) w') : ze Tryz.prog Tryz.kh #[.bool m] w K:=by
 refine Tryz.acq ?_
 unfold Tryz.Jo
 have S : StX noX w nothing w []:=St.start (fun _ _ h=>h.elim)
 refine S.al fun b2 w1 S=>?_
 refine Jz fun w2 e2=>?_
 have S:=S.go e2
 refine S.lit (e:=31) (cs:=ZR) (by kernel_rfl) fun b5 w3 S=>?_
 refine zo (cs:=#[.int .u8 4,.bool m,.int .i64 (-1),.int .i64 0,.slice (some ⟨b5,0,none⟩) 1 1]) (by kernel_rfl) ?_
 refine S.stB (b:=b2) fun w4 S=>?_
 refine S.ceB (b:=b2) ?_ rfl
 obtain ⟨S,_,ha⟩:=S.litNew b5 (sz:=5) (R:=TyC nothing) (l:=[zZ]) (by exact (qX (c:=ZR) rfl (show TyC nothing ZR zZ from ZK))) (by decide)
 exact h (some ⟨b5,0,none⟩) 1 (nothing.or (one b5 ZR 31)) _ S.ext (S.newOf (Above.no.or' ha)) (vi (u:=zZ) (v:=agw) ZK)
set_option maxHeartbeats 8000000 in
theorem acV {w : World} {K : Value→World→Prop} (h : ∀ v s w',Ext w w'→New w s w'→UnG s v xn→K v w') : ze Tryz.prog Tryz.Zo #[] w K:=by
 refine Tryz.abw ?_
 unfold Tryz.Qc
 have S : StX noX w nothing w []:=St.start (fun _ _ h=>h.elim)
 refine S.al fun b0 w1 S=>?_
 refine S.lit (e:=82) (cs:=[.int .i64 (-1)]) (by kernel_rfl) fun b2 w2 S=>?_
 refine zo (cs:=#[.int .i64 2,.slice (some ⟨b2,0,none⟩) 1 1]) (by kernel_rfl) ?_
 refine S.al fun b1 w3 S=>?_
 refine S.stB (b:=b1) fun w4 S=>?_
 have S:=S.go (Ext.drew _)
 refine zo (cs:=#[.int .i64 2,.slice none 0 0]) (by kernel_rfl) ?_
 refine zo (cs:=#[.int .i64 1,.slice none 0 0]) (by kernel_rfl) ?_
 refine zo (cs:=hl0.toArray) (by kernel_rfl) ?_
 refine zo (cs:=#[.int .i64 1,.slice none 0 0]) (by kernel_rfl) ?_
 refine S.ldB (b:=b1) ?_ rfl
 refine zo (cs:=hl3.toArray) (by kernel_rfl) ?_
 have S:=S.drop b1
 have fin : ∀ {w9 : World} {b7 b8 b19 b21 : Nat} {q6 : Option Addr} {c6 : Nat} {sn : Gh} {M M1 M2 M3 M4 M5 : List Asr} (S : StX noX w (nothing.or sn) w9 M)
   [vI b7 M (ZR++(ZR++tyL QC q6 c6)) 31 M1] [vI b8 M1 [.string ByteArray.empty,.string ByteArray.empty,.string ByteArray.empty] 9 M2] [vI b2 M2 [.int .i64 (-1)] 82 M3]
   [vI b19 M3 (hl0++(hl1++(hl2 b2++hl3))) 53 M4] [vI b21 M4 [.string ByteArray.empty,.int .i64 0,.slice none 0 0,.int .i64 0,.slice (some ⟨b7,0,none⟩) 3 3,.slice (some ⟨b8,0,none⟩) 3 3,.slice (some ⟨b19,0,none⟩) 4 4] 58 M5],
   Above w sn→TyG sn (tyV QC q6 c6) QC→K (.agg #[.slice none 0 0,.slice (some ⟨b21,0,none⟩) 1 1,.int .i64 0]) w9:=by
  intro w9 b7 b8 b19 b21 q6 c6 sn M M1 M2 M3 M4 M5 S _ _ _ _ _ ha ht
  obtain ⟨S,h7,a7⟩:=S.litNew b7 (sz:=5) (R:=TyC sn) (l:=[zZ,zZ,QC]) (by exact (xY rfl ZK (xY rfl ZK (qX rfl ht)))) (by decide)
  obtain ⟨S,h8,a8⟩:=S.litNew b8 (sz:=1) (R:=ae5) (l:=[ByteArray.empty,ByteArray.empty,ByteArray.empty]) (by exact (xY (c:=[.string ByteArray.empty]) rfl rfl (xY (c:=[.string ByteArray.empty]) rfl rfl (qX rfl rfl)))) (by decide)
  obtain ⟨S,h2,a2⟩:=S.litNew b2 (sz:=1) (R:=Qj) (l:=[-1]) (by exact (qX rfl ⟨rfl,by unfold aaB;omega⟩)) (by decide)
  have hz : ∀ {r : Gh} {α : Type} {sz : Nat} {R : List Value→α→Prop},SlB sz r R (.slice none 0 0) ([] : List α):=jW
  obtain ⟨S,h19,a19⟩:=S.litNew b19 (sz:=21) (R:=PtG (one b2 [.int .i64 (-1)] 82)) (l:=[hp0,hp1,hp2,hp3])
   (by exact (xY rfl ⟨_,_,_,_,_,rfl,hz,hz,hz,hz,hz⟩ (xY rfl ⟨_,_,_,_,_,rfl,hz,hz,hz,hz,hz⟩ (xY rfl ⟨_,_,_,_,_,rfl,Y4 h2,hz,hz,hz,hz⟩ (qX rfl ⟨_,_,_,_,_,rfl,hz,hz,hz,hz,hz⟩))))) (by decide)
  obtain ⟨S,h21,a21⟩:=S.litNew b21 (sz:=7) (R:=GrG (((((nothing.or sn).or (one b7 (ZR++(ZR++tyL QC q6 c6)) 31)).or (one b8 [.string ByteArray.empty,.string ByteArray.empty,.string ByteArray.empty] 9)).or (one b2 [.int .i64 (-1)] 82)).or (one b19 (hl0++(hl1++(hl2 b2++hl3))) 53))) (l:=[qC])
   (by exact (qX rfl ⟨_,_,_,_,rfl,hz,Y4 (h7.up' inferInstance fun c x hx=>TyG.up hx),Y4 h8.cells,Y4 (h19.up' inferInstance fun c x hx=>PtG.up hx)⟩)) (by decide)
  exact h _ _ _ S.ext (S.newOf (((((Above.no.or' ha).or' a7).or' a8).or' a2).or' a19 |>.or' a21)) ⟨none,0,_,rfl,fun _=>rfl,Nat.zero_le _,trivial,Nat.zero_le _,Y4 (h21.up' inferInstance fun c x hx=>GrG.up hx)⟩
 repeat' (first
  |(with_reducible refine Jz fun w9 e9=>⟨e9,?_⟩;have S:=S.go e9)
  |(with_reducible refine adk fun w9 e9=>⟨e9,?_⟩;have S:=S.go e9)
  |(with_reducible refine adl fun q6 c6 sn w9 e9 n9 t9=>⟨e9,?_⟩;obtain ⟨S,d9,a9⟩:=S.tell e9 n9)
  |(with_reducible refine S.litU (t:=29) (e:=31) (cs:=ZR++(ZR++tyL QC q6 c6)) (by kernel_rfl) fun b7 w9 S=>?_)
  |(with_reducible refine S.mkSU (by decide) (by decide) fun b8 w9 S=>?_)
  |(with_reducible refine zo (t:=53) (parts:=#[(0,.int .u8 1),(1,.agg #[.int .i64 1,.slice none 0 0]),(2,agx 2),(10,.int .i64 2)]) (cs:=hl1.toArray) (by kernel_rfl) ?_)
  |(with_reducible refine zo (t:=53) (cs:=(hl2 b2).toArray) (by kernel_rfl) ?_)
  |(with_reducible refine S.lit (t:=56) (e:=53) (cs:=hl0++(hl1++(hl2 b2++hl3))) (by kernel_rfl) fun b19 w9 S=>?_)
  |(with_reducible refine zo (t:=58) (cs:=#[.string ByteArray.empty,.int .i64 0,.slice none 0 0,.int .i64 0,.slice (some ⟨b7,0,none⟩) 3 3,.slice (some ⟨b8,0,none⟩) 3 3,.slice (some ⟨b19,0,none⟩) 4 4]) (by kernel_rfl) ?_)
  |(with_reducible refine S.lit (t:=23) (e:=58) (cs:=[.string ByteArray.empty,.int .i64 0,.slice none 0 0,.int .i64 0,.slice (some ⟨b7,0,none⟩) 3 3,.slice (some ⟨b8,0,none⟩) 3 3,.slice (some ⟨b19,0,none⟩) 4 4]) (by kernel_rfl) fun b21 w9 S=>?_)
  |(with_reducible refine zo (t:=25) (cs:=#[.slice none 0 0,.slice (some ⟨b21,0,none⟩) 1 1,.int .i64 0]) (by kernel_rfl) ?_)
  |(with_reducible refine And.intro ?_ ?_)
  |(refine S.stB (b:=b0) fun w9 S=>?_;refine S.ceB (b:=b0) ?_ rfl;exact fin (b7:=b7) (b8:=b8) (b19:=b19) (b21:=b21) S a9 t9)
)
end Go.Proofs
end
section
namespace Go.Proofs
open Go.Sh
set_option maxRecDepth 100000
set_option linter.unusedSimpArgs false
set_option linter.unusedVariables false
theorem hst : zz ([] : List StD)=(0,0):=by unfold zz;simp [yX]
theorem hmay (t : TyD) : zK [] t=zy 0 48 t:=by rw [zK,hst];simp
theorem Zf : ByteArray.empty.toList = []:=by rw [ByteArray.toList_eq];rfl
theorem aeI : yK xn 0 qC=true:=by
 have h1 : qc xn qC 0 qC.tys=true:=by
  show ((zK [] zZ&&_)&&((zK [] zZ&&_)&&((zK [] QC&&_)&&true)))=true
  rw [hmay,hmay]
  kernel_rfl
 unfold yK
 rw [h1]
 show (_ : Bool)=true
 kernel_rfl
theorem afl : ∀ p ∈ qC.pts,yj xn qC p=true:=by
 have hp : qC.pts = [hp0,hp1,hp2,hp3]:=rfl
 rw [hp]
 intro p h
 simp only [List.mem_cons,List.not_mem_nil,or_false] at h
 rcases h with rfl|rfl|rfl|rfl
 ·have e : zH hp0 { to:=true,fr:=true,mu:=true } = true:=by
   rw [zH,Zb,show hp0.sign=ByteArray.empty from rfl,Zf];kernel_rfl
  have : yj xn qC hp0=(((((zH hp0 { to:=true,fr:=true,mu:=true } && true)&&true)&&true)&&true)&&(true&&true)):=by kernel_rfl
  rw [this,e];rfl
 ·have e : zH hp1 { to:=true,a:=true } = true:=by
   rw [zH,Zb,show hp1.sign=ByteArray.empty from rfl,Zf];kernel_rfl
  have : yj xn qC hp1=(((zH hp1 { to:=true,a:=true } && true)&&true)&&true):=by kernel_rfl
  rw [this,e];rfl
 ·have e : zH hp2 { to:=true,a:=true } = true:=by
   rw [zH,Zb,show hp2.sign=ByteArray.empty from rfl,Zf];kernel_rfl
  have : yj xn qC hp2=(((zH hp2 { to:=true,a:=true } && true)&&true)&&true):=by kernel_rfl
  rw [this,e];rfl
 ·have e : zH hp3 {} = true:=by
   rw [zH,Zb,show hp3.sign=ByteArray.empty from rfl,Zf];kernel_rfl
  have : yj xn qC hp3=zH hp3 {}:=by kernel_rfl
  rw [this,e]
theorem afm : MayU xn:=by
 refine ⟨by show (zz []).2=0;rw [hst],by decide,by decide,by decide,by decide,fun i hi=>?_,fun g hg=>?_⟩
 ·have : i=0:=by have : xn.fs.length=1:=rfl;omega
  subst this
  exact aeI
 ·rw [List.mem_singleton.1 hg]
  exact afl
def xz (k : Int) : TyD:=.mk 4 true k 0 [zZ]
theorem afn {q : Int} (h : q<4) : isU xn 0 q=true:=by
 rw [isU,Xn.2 afm]
 show (true&&(true&&decide (q<4)))=true
 rw [decide_eq_true h];rfl
theorem Xo {q : Int} (h : q<4) : zn xn 0 q=(⟨0,4,2,[zZ,zZ,xz 0],[1,-1,-1,-1]⟩,0):=by
 rw [zn,if_pos (afn h)]
 kernel_rfl
theorem V6 {p : PlD} {t : TyD} {g : List Int} (h1 : ((decide (0≤p.l)&&decide (p.l<3))&&decide (p.ps.length≤8))=true) (h2 : zB [] p.ps ([zZ,zZ,xz 0].getD p.l.toNat zr)=some (t,g)) : zW [] [zZ,zZ,xz 0] p=some (t,g):=by
 have : yx [] [zZ,zZ,xz 0] p=true:=by
  rw [yx,hst]
  show (((decide (0≤p.l)&&decide (p.l<3))&&decide (p.ps.length≤8))&&(true&&(zK [] zZ&&(zK [] zZ&&(zK [] (xz 0)&&true)))))=true
  rw [h1,hmay,hmay];kernel_rfl
 rw [zW,if_pos this,h2]
theorem acW : atE xn 0 0 4=0∧atE xn 0 0 7=130:=by
 constructor<;>(rw [atE,Xo (by decide)];kernel_rfl)
theorem afo : vL xn 0 0=(xz 1,0):=by
 rw [vL,acW.1,Xo (by decide)]
 have : yy [] [zZ,zZ,xz 0] (plD 1)=(zZ,0):=by rw [yy,V6 (t:=zZ) (g:=[]) (by decide) rfl]
 show (TyD.mk 4 true 1 0 [(yy [] [zZ,zZ,xz 0] (plD 1)).1],(yy [] [zZ,zZ,xz 0] (plD 1)).2)=_
 rw [this];rfl
theorem afp : jX xn 0 0=([],zr,130):=by
 rw [jX,acW.2];rfl
theorem afX : jV xn 0 (plD 2)=(xz 0,0):=by
 have hp : zW [] [zZ,zZ,xz 0] (plD 2)=some (xz 0,[]):=V6 (by decide) rfl
 have : yy [] [zZ,zZ,xz 0] (plD 2)=(xz 0,0):=by rw [yy,hp]
 rw [jV,Xo (by decide)]
 show (if (0 : Int)≠0∨zW [] [zZ,zZ,xz 0] (plD 2)=none then (zr,(2 : Int)) else if (zG (_,0)).2≠0 then _ else yy [] [zZ,zZ,xz 0] (plD 2))=_
 rw [if_neg (by rw [hp];simp),if_neg (by decide),this]
theorem ka {w : World} {K : Value→World→Prop} (h : ∀ w',Ext w w'→K (.bool true) w') : ze Tryz.prog Tryz.y7 #[] w K:=by
 refine Tryz.aax ?_
 unfold Tryz.XF
 refine acV fun vu s w1 e1 n1 hu=>?_
 have S : StX noX w s w1 []:=(St.start (r:=nothing) (w:=w) (fun _ _ h=>h.elim)).new e1 n1 |>.to s
 have hu0:=hu
 obtain ⟨p0,cap0,vf,rfl,_,_,_,_,hfn⟩:=hu
 obtain ⟨qf,capf,rfl,_,_⟩:=hfn.sl.shape
 refine S.al fun b1 w2 S=>?_
 refine S.stB (b:=b1) fun w3 S=>?_
 refine S.ldB (b:=b1) ?_ rfl
 refine adj S.holds hu0 fun v4 s4 w4 e4 n4 h4=>?_
 obtain ⟨S,d4,a4⟩:=S.tell e4 n4
 have hfew : zG (zn xn 0 (-1))=(⟨0,4,2,[zZ,zZ,xz 0],[1,-1,-1,-1]⟩,0):=by rw [Xo (by decide)];rfl
 rw [hfew] at h4 ⊢
 have h40:=h4
 obtain ⟨q1,c1,q2,c2,rfl,g1,g2⟩:=h4.shape
 refine gS_ ?_
 refine S.al fun b2 w5 S=>?_
 refine S.stB (b:=b2) fun w6 S=>?_
 refine S.ldB (b:=b1) ?_ rfl
 refine vV S.holds hu0.up fun v7 s7 w7 e7 n7 h7=>?_
 obtain ⟨S,d7,a7⟩:=S.tell e7 n7
 rw [afo] at h7 ⊢
 have h70:=h7
 obtain ⟨p7,cap7,rfl,_⟩:=h7
 refine gS_ ?_
 refine S.al fun b4 w8 S=>?_
 refine S.stB (b:=b4) fun w9 S=>?_
 refine S.ldB (b:=b1) ?_ rfl
 refine Ym S.holds hu0.up fun vl v10 s10 w10 e10 n10 hl10 h10=>?_
 obtain ⟨S,d10,a10⟩:=S.tell e10 n10
 rw [afp] at h10 ⊢
 obtain ⟨p10,cap10,rfl,_⟩:=h10
 refine gS_ ?_
 refine S.al fun b7 w11 S=>?_
 refine S.stB (b:=b7) fun w12 S=>?_
 refine S.ldB (b:=b4) ?_ rfl
 refine S.lit (e:=3) (cs:=ints [5,7]) (by kernel_rfl) fun b34 w13 S=>?_
 have S:=S.frzAt b34
 refine abK (l:=[5,7]) (p:=some ⟨b34,0,none⟩) S.holds h70.up (fun w k=>Sl.blk (b:=b34) (c:=ints [5,7]) (T:=3) (k b34 _ (.inr ⟨rfl,rfl⟩))) (by decide) fun v14 s14 w14 e14 n14 h14 _=>?_
 obtain ⟨S,d14,a14⟩:=S.tell e14 n14
 have ht : j4 (xz 1) [5,7]=(xz 7,0):=by kernel_rfl
 rw [ht] at h14 ⊢
 obtain ⟨p14,cap14,rfl,_⟩:=h14
 refine gS_ ?_
 refine S.al fun b9 w15 S=>?_
 refine S.stB (b:=b9) fun w16 S=>?_
 refine S.ldB (b:=b4) ?_ rfl
 refine aaG S.holds h70.up fun v17 s17 w17 e17 n17 h17 _=>?_
 obtain ⟨S,d17,a17⟩:=S.tell e17 n17
 have ht : vk (xz 1)=(xz (-1),0):=by kernel_rfl
 rw [ht] at h17 ⊢
 obtain ⟨p17,cap17,rfl,_⟩:=h17
 refine gS_ ?_
 refine S.al fun b11 w18 S=>?_
 refine S.stB (b:=b11) fun w19 S=>?_
 refine S.ldB (b:=b1) ?_ rfl
 refine zo (cs:=#[.int .i64 2,.slice none 0 0]) (by kernel_rfl) ?_
 refine aaO (p:=plD 2) (c:=[.int .i64 2,.slice none 0 0]) S.holds hu0.up ⟨_,rfl,jW⟩ fun v20 s20 w20 e20 n20 h20 _=>?_
 obtain ⟨S,d20,a20⟩:=S.tell e20 n20
 rw [afX] at h20 ⊢
 obtain ⟨p20,cap20,rfl,_⟩:=h20
 refine gS_ ?_
 refine S.al fun b13 w21 S=>?_
 refine S.stB (b:=b13) fun w22 S=>?_
 refine gP_ ?_
 have hat:=g2
 refine zg (c:=true) (fun _ K2 hK2=>by refine gG_ ?_;exact hK2) ?_
 refine zs (c:=true) (fun _ K2 hK2=>?_) fun w26 e26=>?_
 ·refine S.ldB (b:=b2) ?_ rfl
  refine aaN S.holds h40.up (by decide) fun w27 e27=>?_
  refine gP_ ?_
  exact hK2 _ e27
 have S:=S.go e26
 obtain ⟨ba,oa,ca,hqa,hca,hcc,hcell⟩:=g2.get (by decide) (i:=0) (by decide)
 subst hqa
 obtain rfl : ca=_:=hcc
 obtain ⟨ba',oa',ca',hqa',hca',hcc',hcell'⟩:=g2.get (by decide) (i:=1) (by decide)
 cases hqa'
 obtain rfl : ca'=_:=hcc'
 refine zg (c:=true) (fun _ K2 hK2=>by refine gG_ ?_;exact hK2) ?_
 refine zg (c:=true) (fun _ K2 hK2=>?_) ?_
 ·refine gP_ ?_
  refine S.ld (b:=b2) ?_ rfl
  refine s_c (by decide) ?_
  refine zm (v:=.int .i64 1) (by simpa using S.at (hcell 0 _ rfl)) ?_
  refine gG_ ?_
  exact hK2
 refine zg (c:=true) (fun _ K2 hK2=>?_) ?_
 ·refine gP_ ?_
  refine S.ld (b:=b2) ?_ rfl
  refine s_c (by decide) ?_
  refine zm (v:=.int .i64 (-1)) (by simpa using S.at (hcell' 0 _ rfl)) ?_
  refine gG_ ?_
  exact hK2
 refine zg (c:=true) (fun _ K2 hK2=>by refine gG_ ?_;exact hK2) ?_
 refine zg (c:=true) (fun _ K2 hK2=>by refine gG_ ?_;exact hK2) ?_
 refine zg (c:=true) (fun _ K2 hK2=>by refine gG_ ?_;exact hK2) ?_
 refine zg (c:=true) (fun _ K2 hK2=>by refine gG_ ?_;exact hK2) ?_
 refine zg (c:=true) (fun _ K2 hK2=>by refine gG_ ?_;exact hK2) ?_
 refine zg (c:=true) (fun _ K2 hK2=>by refine gG_ ?_;exact hK2) ?_
 refine zg (c:=true) (fun _ K2 hK2=>by refine gG_ ?_;exact hK2) ?_
 refine zg (c:=true) (fun _ K2 hK2=>by refine gG_ ?_;exact hK2) ?_
 refine zg (c:=true) (fun _ K2 hK2=>by refine gG_ ?_;exact hK2) ?_
 refine zg (c:=true) (fun _ K2 hK2=>by refine gG_ ?_;exact hK2) ?_
 exact h _ S.ext
end Go.Proofs
end
section
namespace Go.Sh
section
variable {P : Program} {t : TypeId} {c : Bool} {K : Value→Prop}
theorem aeJ {a b : Int} (k : ∀ x : Int,K (.int .i64 x)) : opP P (yH .add t c (.int .i64 a) (.int .i64 b)) K:=
 yN (fun w=>by rw [xP];simp [binOp,Op.intArith]) (k (IntKind.i64.wrap (a+b)))
end
end Go.Sh
namespace Go.Proofs
open Go.Sh
set_option maxRecDepth 100000
set_option linter.unusedSimpArgs false
set_option linter.unusedVariables false
theorem adZ {s : Gh} {p : Option Addr} {l : List Int} (h : Ob s fun w=>Sl w p (ints l)) {w : World} (hw : Holds s w) {i : Nat} (hi : i<l.length) : ∃ b off,p=some ⟨b,off,none⟩∧Ob s fun w=>w.cell? ⟨b,off+i,none⟩=some (.int .i64 l[i]):=by
 obtain ⟨b,off,rfl,_⟩:=kQ (h w hw) hi
 refine ⟨b,off,rfl,fun w' hw'=>?_⟩
 obtain ⟨b',off',hp,hc⟩:=kQ (h w' hw') hi
 cases hp
 exact hc
theorem afG {s : Gh} {p : Option Addr} {n cap : Nat} {l : List Int} (h : SlG 1 s kp (.slice p n cap) l) {i : Nat} (hi : i<l.length) : ∃ b off,p=some ⟨b,off,none⟩∧Ob s fun w=>w.cell? ⟨b,off+i,none⟩=some (.int .i64 l[i]):=by
 obtain ⟨b,off,c,rfl,hc,hcc,hcell⟩:=h.get (by decide) hi
 obtain rfl : c=_:=hcc
 exact ⟨b,off,rfl,by simpa using hcell 0 _ rfl⟩
theorem acX {u : UnD} {v : Value} {w : World} {r : Gh} {K : Value→World→Prop} (hr : Holds r w) (hu : UnG r v u) (h : ∀ (b : Bool) w',Ext w w'→K (.bool b) w') : ze Tryz.prog Tryz.Zn #[v] w K:=by
 refine Tryz.abv ?_
 unfold Tryz.Qb
 obtain ⟨p0,cap0,vf,rfl,_,_,hst,hsl,hfn⟩:=hu
 obtain ⟨qf,capf,rfl,_,_⟩:=hfn.sl.shape
 have hfl : u.fs.length≤9223372036854775807:=hfn.few
 have hsl' : u.ss.length≤9223372036854775807:=hsl
 have S:=St.start hr
 refine S.box fun b1 w1 S=>?_
 have S : StX noX w r w1 [.cell b1 [.slice p0 u.ss.length cap0,.slice qf u.fs.length capf,.int .i64 u.mn] 25]:=S
 refine gg_ ?_
 refine zh (c:=decide (40<(u.fs.length : Int))) (fun _ K2 hK2=>by refine gg_ ?_;exact hK2) ?_
 refine c_b (fun _=>h _ _ S.ext) (fun _=>?_)
 refine zk (ι:=Nat) (fun i=>[.int .i64 (i : Nat)]) (fun i w'=>i≤u.ss.length∧StX noX w r w' _) (fun i=>u.ss.length - i) 0 rfl ⟨Nat.zero_le _,S⟩ ?_
 clear S
 rintro i d w2 ⟨hi,S⟩ K6 hK6
 rw [List.getD_cons_zero]
 refine gg_ ?_
 refine zj (fun hlt=>?_) (fun hge=>?_)
 ·have hlt : i<u.ss.length:=by omega
  obtain ⟨b,off,q,capq,rfl,hcell,_,_,_⟩:=yZ hst hlt
  refine gg_ ?_
  refine zm (by rw [Int.toNat_natCast];exact S.at hcell) ?_
  refine gg_ ?_
  refine c_b (fun _=>h _ _ S.ext) (fun _=>?_)
  refine gg_ ?_
  rw [show ((i : Int)+1)=((i+1 : Nat) : Int) by omega]
  exact hK6 (i+1) _ ⟨hlt,S⟩ (by omega)
 refine zk (ι:=Nat × Int) (fun i=>[.int .i64 i.2,.int .i64 (i.1 : Nat)]) (fun i w'=>i.1≤u.fs.length∧StX noX w r w' _) (fun i=>u.fs.length - i.1) (0,0) rfl ⟨Nat.zero_le _,S⟩ ?_
 clear S hK6 K6 hge hi
 rintro ⟨i,n⟩ d w3 ⟨hi,S⟩ K7 hK7
 simp only at hi S ⊢
 simp only [List.getD_cons_zero,List.getD_cons_succ]
 refine gg_ ?_
 refine zj (fun hlt=>?_) (fun hge=>h _ _ S.ext)
 have hlt : i<u.fs.length:=by omega
 obtain ⟨bf,of,cf,rfl,hcf,hgc,hfo⟩:=hfn.sl.get (by decide) hlt
 generalize u.fs[i]=g at hgc
 obtain ⟨vo,vt,vn,vp,rfl,h1,h2,h3,h4⟩:=id hgc
 obtain ⟨qt,capt,rfl,_,hct⟩:=h2.sl.shape
 obtain ⟨qp,capp,rfl,_,_⟩:=h4.sl.shape
 have S:=S.go (Ext.drew _)
 have l4 : Ob r fun w=>w.cell? ⟨bf,of+i*7+4,none⟩=some (.slice qt g.tys.length capt):=hfo 4 _ rfl
 have l6 : Ob r fun w=>w.cell? ⟨bf,of+i*7+6,none⟩=some (.slice qp g.pts.length capp):=hfo 6 _ rfl
 refine gg_ ?_
 refine zm (by rw [Int.toNat_natCast];exact S.at l6) ?_
 refine gg_ ?_
 refine zm (by rw [Int.toNat_natCast];exact S.at l4) ?_
 refine gp_ ?_
 refine aeJ fun x=>?_
 refine aeJ fun y=>?_
 refine gg_ ?_
 refine zm (by rw [Int.toNat_natCast];exact S.at l6) ?_
 refine gg_ ?_
 refine zh (c:=decide (150<(g.tys.length : Int))) (fun _ K2 hK2=>?_) ?_
 ·refine gg_ ?_
  refine zm (by rw [Int.toNat_natCast];exact S.at l4) ?_
  refine gg_ ?_
  exact hK2
 refine zh (c:=decide (600<y)) (fun _ K2 hK2=>by refine gg_ ?_;exact hK2) ?_
 refine c_b (fun _=>h _ _ S.ext) (fun _=>?_)
 refine gg_ ?_
 rw [show ((i : Int)+1)=((i+1 : Nat) : Int) by omega]
 exact hK7 (i+1,y) _ ⟨hlt,S⟩ (by show u.fs.length - (i+1)<u.fs.length - i;omega)
end Go.Proofs
end
section
namespace Go.Sh
open Go.RowKit
section
variable {P : Program} {X : Nat→Prop} {w0 w : World} {r : Gh} {L : List Asr} {t e T ty : TypeId} {b sz n off cap : Nat} {c z : List Value} {f : List Value→List Asr}
end
end Go.Sh
end
section
namespace Go.Proofs
open Go.Sh
set_option maxRecDepth 100000
set_option linter.unusedSimpArgs false
set_option linter.unusedVariables false
theorem afq {u : UnD} {g : GrD} {p : PtD} (h : yj u g p=true) : ptG u g p=true:=by
 rw [yj,Bool.and_eq_true] at h;exact h.2
theorem Xp {ss : List StD} {tys : List TyD} {p : PlD} (h : (zi ss tys p).2.2=true) : p.ps.length≤8:=by
 unfold zi at h
 split at h
 ·simpa using h
 ·cases h
end Go.Proofs
end
section
namespace Go.Proofs
open Go.Sh
set_option maxRecDepth 100000
set_option linter.unusedSimpArgs false
set_option linter.unusedVariables false
abbrev asL (u : UnD) (g : GrD) (p0 : Option Addr) (cap0 : Nat) (qf : Option Addr) (capf : Nat) (q1 : Option Addr) (c1 : Nat) (q2 : Option Addr) (c2 : Nat) (q3 : Option Addr) (c3 : Nat) (q4 : Option Addr) (c4 : Nat) : List Value:=
 [.slice p0 u.ss.length cap0,.slice qf u.fs.length capf,.int .i64 u.mn,.string g.name,.int .i64 g.lv,.slice q1 g.outs.length c1,.int .i64 g.pn,.slice q2 g.tys.length c2,.slice q3 g.nms.length c3,.slice q4 g.pts.length c4]
def AsP (r : Gh) (b : Nat) (u : UnD) (g : GrD) : Prop:=∃ p0 cap0 qf capf q1 c1 q2 c2 q3 c3 q4 c4,(Ob r fun w=>Blk w b (asL u g p0 cap0 qf capf q1 c1 q2 c2 q3 c3 q4 c4) 113)∧
 UnG r (.agg #[.slice p0 u.ss.length cap0,.slice qf u.fs.length capf,.int .i64 u.mn]) u∧GrG r [.string g.name,.int .i64 g.lv,.slice q1 g.outs.length c1,.int .i64 g.pn,.slice q2 g.tys.length c2,.slice q3 g.nms.length c3,.slice q4 g.pts.length c4] g
theorem AsP.up {r s : Gh} {b : Nat} {u : UnD} {g : GrD} (h : AsP r b u g) [l : Le r s] : AsP s b u g:=by
 obtain ⟨p0,cap0,qf,capf,q1,c1,q2,c2,q3,c3,q4,c4,h1,h2,h3⟩:=h
 exact ⟨p0,cap0,qf,capf,q1,c1,q2,c2,q3,c3,q4,c4,h1.up,h2.up,h3.up⟩
theorem J6 {ss : List StD} : ∀ (l : List Int) (t : TyD) (m : Int),0≤m→goG ss l (t,m)=(zB ss l t).map fun x=>(x.1,ys m x.2)
 |[],t,m,_=>rfl
 |k::l,t,m,hm=>by
  have hs : stepG ss (t,m) k=(zD ss t k).map fun s=>(s.1,max m s.2):=by
   unfold stepG zD
   split
   ·cases t.of.head?<;>rfl
   split
   ·cases t.of.head?<;>rfl
   split
   ·cases (zd ss t.st)[k.toNat]? with
    |none=>rfl
    |some u=>show some (u,m)=some (u,max m 0);rw [Int.max_eq_left hm]
   ·rfl
  rw [goG,zB,hs]
  cases h1 : zD ss t k with
  |none=>rfl
  |some s=>
   show goG ss l (s.1,max m s.2)=((zB ss l s.1).map _).map _
   rw [J6 l s.1 (max m s.2) (by omega),Option.map_map]
   rfl
theorem QD {ss : List StD} {t : TyD} {ps : List Int} (hst : (zz ss).2=0) (hm : zK ss t=true) : zW ss [t] ⟨0,ps⟩=if ps.length≤8 then zB ss ps t else none:=by
 have e : yx ss [t] ⟨0,ps⟩=decide (ps.length≤8):=by
  simp [yx,hst,hm]
 rw [zW,e]
 by_cases h : ps.length≤8
 ·rw [if_pos (decide_eq_true h),if_pos h];rfl
 ·rw [if_neg (by simpa using h),if_neg h]
theorem QE {ss : List StD} {tys : List TyD} {p : PlD} (hst : (zz ss).2=0) (hf : xd ss tys) : (zi ss tys p).2.2=true↔0≤p.l∧∃ (hl : p.l.toNat<tys.length) (x : TyD × List Int),zW ss [tys[p.l.toNat]] ⟨0,p.ps⟩=some x∧zi ss tys p=(x.1,ys 0 x.2,true):=by
 constructor
 ·intro ho
  have h8:=Xp ho
  unfold zi at ho ⊢
  cases hb : (if p.l<0 then none else tys[p.l.toNat]?).bind fun t=>goG ss p.ps (t,0) with
  |none=>rw [hb] at ho;cases ho
  |some s=>
   split at hb
   ·cases hb
   ·rename_i hl0
    cases ht : tys[p.l.toNat]? with
    |none=>rw [ht] at hb;cases hb
    |some t=>
     rw [ht] at hb
     have hb : goG ss p.ps (t,0)=some s:=hb
     obtain ⟨hlt,rfl⟩:=List.getElem?_eq_some_iff.1 ht
     rw [J6 _ _ _ (Int.le_refl _)] at hb
     cases hw : zB ss p.ps tys[p.l.toNat] with
     |none=>rw [hw] at hb;cases hb
     |some x=>
      rw [hw] at hb
      have hb : (x.1,ys 0 x.2)=s:=Option.some.inj hb
      refine ⟨by omega,hlt,x,?_,?_⟩
      ·rw [QD hst (by rw [zK,decide_eq_true hst,Bool.true_and];exact hf.all _ (List.getElem_mem hlt)),if_pos h8,hw]
      ·rw [← hb]
       show (x.1,ys 0 x.2,decide (p.ps.length≤8))=_
       rw [decide_eq_true h8]
 ·rintro ⟨_,_,x,_,h⟩;rw [h]
theorem afY {tys : List TyD} {i : Nat} (hi : i<tys.length) : (tys.drop i).take 1 = [tys[i]]:=by
 rw [List.drop_eq_getElem_cons hi];rfl
set_option maxHeartbeats 1000000 in
theorem ZS {u : UnD} {g : GrD} {p : PlD} {bx : Nat} {c : List Value} {w : World} {r : Gh} {K : Value→World→Prop} (hr : Holds r w) (hx : AsP r bx u g) (hst : (zz u.ss).2=0) (hf : xd u.ss g.tys) (hp : PlG r c p)
  (hN : ∀ w',(zi u.ss g.tys p).2.2=false→Ext w w'→K (.tuple #[adR,.slice none 0 0,.bool false]) w')
  (hS : ∀ t how q cap vg s w',zi u.ss g.tys p=(t,ys 0 how,true)→Ext w w'→New w s w'→TyG r (tyV t q cap) t→SlG 1 s kp vg how→how.length≤8→K (.tuple #[tyV t q cap,vg,.bool true]) w') :
  ze Tryz.prog Tryz.yE #[.pointer (some ⟨bx,0,none⟩),.agg c.toArray] w K:=by
 refine Tryz.XL ?_
 unfold Tryz.j9
 obtain ⟨p0,cap0,qf,capf,q1,c1,q2,c2,q3,c3,q4,c4,hB,hu,hg⟩:=hx
 obtain ⟨_,_,_,hE,_,_,hss,_,_⟩:=hu
 cases hE
 obtain ⟨_,_,_,_,hE,_,ht,_,_⟩:=hg
 cases hE
 obtain ⟨_,_,hE,_,hct2⟩:=ht.sl.shape
 cases hE
 have htl:=ht.few
 have htl' : g.tys.length≤9223372036854775807:=htl
 obtain ⟨v,rfl,hl⟩:=hp
 obtain ⟨qs,caps,rfl,hqs,hcs⟩:=hl.sl.shape
 have S:=St.start hr
 refine S.box fun b3 w1 S=>?_
 have S : StX noX w r w1 [.cell b3 [.int .i64 p.l,.slice qs p.ps.length caps] 47]:=S
 refine S.al fun b4 w2 S=>?_
 have S:=S.go (Ext.drew _)
 have ld : ∀ {w9 : World} {L : List Asr} {i : Nat} {v : Value},StX noX w r w9 L→(asL u g p0 cap0 qf capf q1 c1 q2 c2 q3 c3 q4 c4)[i]? = some v→w9.cell? ⟨bx,i,none⟩=some v:=fun S hi=>by
  rw [(S.at hB).cell];exact hi
 refine gg_ ?_
 refine zh (c:=decide ((g.tys.length : Int)≤p.l)) (fun _ K2 hK2=>?_) ?_
 ·refine gg_ ?_
  refine zm (ld (i:=7) S rfl) ?_
  refine gg_ ?_
  exact hK2
 refine c_b (fun hbad=>?_) (fun hok=>?_)
 ·have hno : (zi u.ss g.tys p).2.2=false:=by
   cases hh : (zi u.ss g.tys p).2.2 with
   |false=>rfl
   |true=>
    obtain ⟨h1,h2,_⟩:=(QE hst hf).1 hh
    simp only [Bool.or_eq_true,decide_eq_true_eq] at hbad;omega
  refine zo (cs:=#[.int .u8 0,.bool false,.int .i64 0,.int .i64 0,.slice none 0 0]) (by kernel_rfl) ?_
  refine S.stB (b:=b4) fun w4 S=>?_
  refine S.ceB (b:=b4) ?_ rfl
  exact hN _ hno S.ext
 simp only [Bool.or_eq_false_iff,decide_eq_false_iff_not] at hok
 have hlt : p.l.toNat<g.tys.length:=by omega
 have S:=S.go (Ext.drew _)
 refine gg_ ?_
 refine zm (ld (i:=0) S rfl) ?_
 refine gg_ ?_
 refine zm (ld (i:=7) S rfl) ?_
 refine gg_ ?_
 have hlen : (p.l+1).toNat - p.l.toNat = [g.tys[p.l.toNat]].length:=by show _=1;omega
 have hsub:=(xg ht.sl).sub (a:=p.l.toNat) (n:=1) (cap:=c2) hct2
 rw [afY hlt] at hsub
 rw [hlen]
 generalize (if c2=p.l.toNat then q2 else q2.map (·.add (p.l.toNat*5)))=qx at hsub ⊢
 have hp2 : PlG r [.int .i64 0,.slice qs p.ps.length caps] ⟨0,p.ps⟩:=⟨_,rfl,hl⟩
 refine QB (p:=⟨0,p.ps⟩) S.holds hss hsub (by simp [maxLen]) hp2 (fun w5 hn e5=>?_) fun t how q cap vg s w5 hs e5 n5 htt hsl=>?_
 ·have hno : (zi u.ss g.tys p).2.2=false:=by
   cases hh : (zi u.ss g.tys p).2.2 with
   |false=>rfl
   |true=>
    obtain ⟨h1,h2,x,h3,_⟩:=(QE hst hf).1 hh
    rw [hn] at h3;cases h3
  have S:=S.go e5
  refine gS_ ?_
  refine S.stB (b:=b4) fun w6 S=>?_
  refine S.ceB (b:=b4) ?_ rfl
  exact hN _ hno S.ext
 ·obtain ⟨S,d5,a5⟩:=S.tell e5 n5
  have hm : zK u.ss g.tys[p.l.toNat]=true:=by rw [zK,decide_eq_true hst,Bool.true_and];exact hf.all _ (List.getElem_mem hlt)
  have hs':=hs
  rw [QD hst hm] at hs'
  have h8 : p.ps.length≤8:=by
   refine Classical.byContradiction fun hc=>?_
   rw [if_neg hc] at hs';cases hs'
  rw [if_pos h8] at hs'
  have hw:=Yh hs'
  have hsp : zi u.ss g.tys p=(t,ys 0 how,true):=by
   unfold zi
   rw [if_neg (by omega),List.getElem?_eq_getElem hlt]
   show (match goG u.ss p.ps (g.tys[p.l.toNat],0) with|some s=>(s.1,s.2,decide (p.ps.length≤8))|none=>(zr,0,false))=_
   rw [J6 _ _ _ (Int.le_refl _),hs']
   show (t,ys 0 how,decide (p.ps.length≤8))=_
   rw [decide_eq_true h8]
  refine gS_ ?_
  refine S.stB (b:=b4) fun w6 S=>?_
  refine S.ceB (b:=b4) ?_ rfl
  exact hS t how _ _ _ s _ hsp S.ext (S.newOf a5) htt hsl (by rw [hw];exact h8)
theorem ad0 {u : UnD} {g : GrD} {p : PlD} {bx : Nat} {c : List Value} {w : World} {r : Gh} {K : Value→World→Prop} (hr : Holds r w) (hx : AsP r bx u g) (hst : (zz u.ss).2=0) (hf : xd u.ss g.tys) (hp : PlG r c p)
  (h : ∀ t q cap w',((zi u.ss g.tys p).2.2=true→t=(zi u.ss g.tys p).1)→Ext w w'→TyG r (tyV t q cap) t→K (.tuple #[tyV t q cap,.bool ((zi u.ss g.tys p).2.2&&decide ((zi u.ss g.tys p).2.1<3))]) w') :
  ze Tryz.prog Tryz.qE #[.pointer (some ⟨bx,0,none⟩),.agg c.toArray] w K:=by
 refine Tryz.QX ?_
 unfold Tryz.Zu
 obtain ⟨v,rfl,hl⟩:=hp
 obtain ⟨qs,caps,rfl,_,_⟩:=hl.sl.shape
 have S:=St.start hr
 refine S.box fun b3 w1 S=>?_
 have S : StX noX w r w1 [.cell b3 [.int .i64 p.l,.slice qs p.ps.length caps] 47]:=S
 refine S.al fun b4 w2 S=>?_
 refine S.ldB (b:=b3) ?_ rfl
 refine ZS (p:=p) S.holds hx hst hf ⟨_,rfl,hl⟩ (fun w3 hno e3=>?_) fun t how q cap vg s w3 hsp e3 n3 htt hsl h8=>?_
 ·have S:=S.go e3
  rw [hno] at h
  refine gS_ ?_
  refine S.al fun b6 w4 S=>?_
  refine S.stB (b:=b6) fun w5 S=>?_
  have S:=S.go (Ext.drew _)
  refine S.ldB (b:=b6) ?_ rfl
  refine zs (c:=true) (fun hh=>by cases hh) fun w6 e6=>?_
  have S:=S.go e6
  refine S.stB (b:=b4) fun w7 S=>?_
  refine S.ceB (b:=b4) ?_ rfl
  exact h zr none 0 _ (fun hh=>by cases hh) S.ext zI
 ·obtain ⟨S,d3,a3⟩:=S.tell e3 n3
  rw [hsp] at h
  refine gS_ ?_
  refine S.al fun b6 w4 S=>?_
  refine S.stB (b:=b6) fun w5 S=>?_
  have S:=S.go (Ext.drew _)
  refine S.ldB (b:=b6) ?_ rfl
  refine zs (c:=decide (ys 0 how<3)) (fun _ K2 hK2=>?_) fun w6 e6=>?_
  ·refine js S.holds (hsl.cells (s:=r.or s)) (by omega) fun w7 e7=>⟨e7,?_⟩
   refine gp_ ?_
   exact hK2 _ e7
  have S:=S.go e6
  refine S.stB (b:=b4) fun w7 S=>?_
  refine S.ceB (b:=b4) ?_ rfl
  exact h t q cap _ (fun _=>rfl) S.ext htt
end Go.Proofs
end
section
namespace Go.Proofs
open Go.Sh
set_option maxRecDepth 100000
set_option linter.unusedSimpArgs false
set_option linter.unusedVariables false
set_option maxHeartbeats 2000000 in
theorem ju {u : UnD} {g : GrD} {o : OpD} {bx : Nat} {c : List Value} {w : World} {r : Gh} {K : Value→World→Prop} (hr : Holds r w) (hx : AsP r bx u g) (hst : (zz u.ss).2=0) (hf : xd u.ss g.tys) (ho : OpG r c o)
  (h : ∀ t q cap w',((zw u.ss g.tys o).2=true→t=(zw u.ss g.tys o).1)→Ext w w'→TyG r (tyV t q cap) t→K (.tuple #[tyV t q cap,.bool (zw u.ss g.tys o).2]) w') :
  ze Tryz.prog Tryz.yD #[.pointer (some ⟨bx,0,none⟩),.agg c.toArray] w K:=by
 refine Tryz.Ys ?_
 unfold Tryz.qO
 obtain ⟨v,rfl,hl⟩:=ho
 obtain ⟨qs,caps,rfl,_,_⟩:=hl.sl.shape
 have hpl : PlG r [.int .i64 o.pl.l,.slice qs o.pl.ps.length caps] o.pl:=⟨_,rfl,hl⟩
 have S:=St.start hr
 refine S.box fun b3 w1 S=>?_
 have S : StX noX w r w1 [.cell b3 [.int .u8 o.k,.int .i64 o.n,.int .i64 o.pl.l,.slice qs o.pl.ps.length caps] 50]:=S
 refine S.al fun b4 w2 S=>?_
 refine gg_ ?_
 refine zj (fun h1=>?_) (fun h1=>?_)
 ·rw [zw,if_pos h1] at h
  refine zo (cs:=#[.int .u8 1,.bool false,.int .i64 0,.int .i64 0,.slice none 0 0]) (by kernel_rfl) ?_
  refine gg_ ?_
  refine S.ldN (b:=b3) ?_
  refine xa S.holds hpl fun w3 e3=>?_
  have S:=S.go e3
  refine S.stB (b:=b4) fun w4 S=>?_
  refine S.ceB (b:=b4) ?_ rfl
  exact h zZ none 0 _ (fun _=>rfl) S.ext zI
 refine gg_ ?_
 refine zj (fun h2=>?_) (fun h2=>?_)
 ·rw [zw,if_neg h1,if_pos h2] at h
  refine zo (cs:=#[.int .u8 2,.bool false,.int .i64 0,.int .i64 0,.slice none 0 0]) (by kernel_rfl) ?_
  have S:=S.go (Ext.drew _)
  refine gg_ ?_
  refine S.ldN (b:=b3) ?_
  refine xa S.holds hpl fun w3 e3=>?_
  have S:=S.go e3
  have fin : ∀ {w4 : World} {L : List Asr} {b : Bool},b=(xc o.pl&&(decide (o.n=0)||decide (o.n=1)))→StX noX w r w4 (.cell b4 [.int .u8 2,.bool false,.int .i64 0,.int .i64 0,.slice none 0 0] 31::L)→K (.tuple #[tyV QS none 0,.bool b]) w4:=fun hb S=>by
   rw [hb];exact h QS none 0 _ (fun _=>rfl) S.ext zI
  cases hz : xc o.pl with
  |false=>
   rw [hz] at fin
   (intro K9 hK9;refine gd_ ?_;refine hK9 _ _ fun _=>?_;clear hK9 K9)
   (intro K9 hK9;refine gd_ ?_;refine hK9 _ _ fun _=>?_;clear hK9 K9)
   refine ⟨?_,?_⟩
   ·(intro K9 hK9;refine gd_ ?_;refine hK9 _ _ fun _=>?_;clear hK9 K9)
    (intro K9 hK9;refine gd_ ?_;refine hK9 _ _ fun _=>?_;clear hK9 K9)
    refine gd_ ?_
    refine S.stB (b:=b4) fun w10 S=>?_
    refine S.ceB (b:=b4) ?_ rfl
    exact fin rfl S
   ·refine S.stB (b:=b4) fun w10 S=>?_
    (intro K9 hK9;refine gd_ ?_;refine hK9 _ _ fun _=>?_;clear hK9 K9)
    (intro K9 hK9;refine gd_ ?_;refine hK9 _ _ fun _=>?_;clear hK9 K9)
    refine gd_ ?_
    exact fin rfl S
  |true=>
   rw [hz] at fin
   refine zp (fun s w'=>s = [.bool (decide (o.n=0))]∧w'=w3) (fun K9 hK9=>?_) ?_
   ·refine gd_ ?_
    exact hK9 _ _ ⟨rfl,rfl⟩
   rintro _ w3 ⟨rfl,rfl⟩ d1
   simp only [List.getD_cons_zero]
   by_cases hn : o.n=0
   ·rw [decide_eq_true hn]
    rw [decide_eq_true hn] at fin
    (intro K9 hK9;refine gd_ ?_;refine hK9 _ _ fun _=>?_;clear hK9 K9)
    refine ⟨?_,?_⟩
    ·(intro K9 hK9;refine gd_ ?_;refine hK9 _ _ fun _=>?_;clear hK9 K9)
     (intro K9 hK9;refine gd_ ?_;refine hK9 _ _ fun _=>?_;clear hK9 K9)
     refine gd_ ?_
     refine S.stB (b:=b4) fun w10 S=>?_
     refine S.ceB (b:=b4) ?_ rfl
     exact fin rfl S
    ·refine S.stB (b:=b4) fun w10 S=>?_
     (intro K9 hK9;refine gd_ ?_;refine hK9 _ _ fun _=>?_;clear hK9 K9)
     (intro K9 hK9;refine gd_ ?_;refine hK9 _ _ fun _=>?_;clear hK9 K9)
     refine gd_ ?_
     exact fin rfl S
   ·rw [decide_eq_false hn]
    rw [decide_eq_false hn] at fin
    (intro K9 hK9;refine gd_ ?_;refine hK9 _ _ fun _=>?_;clear hK9 K9)
    refine ⟨?_,?_⟩
    ·refine zp (fun s w'=>s = [.bool (decide (o.n=1))]∧w'=w3) (fun K9 hK9=>?_) ?_
     ·refine gd_ ?_
      refine w_q ?_
      refine gd_ ?_
      exact hK9 _ _ ⟨rfl,rfl⟩
     rintro _ _ ⟨rfl,rfl⟩ d1
     (intro K9 hK9;refine gd_ ?_;refine hK9 _ _ fun _=>?_;clear hK9 K9)
     refine gd_ ?_
     refine S.stB (b:=b4) fun w10 S=>?_
     refine S.ceB (b:=b4) ?_ rfl
     exact fin (by simp) S
    ·refine S.stB (b:=b4) fun w10 S=>?_
     refine zp (fun s w'=>s = [.bool (decide (o.n=1))]∧w'=w10) (fun K9 hK9=>?_) ?_
     ·refine gd_ ?_
      refine w_q ?_
      refine gd_ ?_
      exact hK9 _ _ ⟨rfl,rfl⟩
     rintro _ _ ⟨rfl,rfl⟩ d1
     (intro K9 hK9;refine gd_ ?_;refine hK9 _ _ fun _=>?_;clear hK9 K9)
     refine gd_ ?_
     exact fin (by simp) S
 intro K41 hK41
 refine gg_ ?_
 refine xR (c:=decide (o.k=4)) (hK41 _ _ fun _=>?_) fun _ hk=>?_
 rotate_left
 ·refine gg_ ?_;exact hk
 simp only [List.getD_cons_zero]
 refine c_b (fun h34=>?_) (fun h34=>?_)
 rotate_left
 ·have h34 : ¬ o.k=3∧¬ o.k=4:=by simpa using h34
  rw [zw,if_neg h1,if_neg h2,if_neg h34.1,if_neg h34.2] at h
  refine zo (cs:=#[.int .u8 0,.bool false,.int .i64 0,.int .i64 0,.slice none 0 0]) (by kernel_rfl) ?_
  refine S.stB (b:=b4) fun w10 S=>?_
  refine S.ceB (b:=b4) ?_ rfl
  exact h zr none 0 _ (fun hh=>by cases hh) S.ext zI
 have h34 : o.k=3∨o.k=4:=by simpa using h34
 have hop : zw u.ss g.tys o=if o.k=3 then ((zi u.ss g.tys o.pl).1,((zi u.ss g.tys o.pl).2.2&&decide (o.n=0))&&xo (zi u.ss g.tys o.pl).1)
   else ((zi u.ss g.tys o.pl).1,(((zi u.ss g.tys o.pl).2.2&&decide (o.n=0)) && !xo (zi u.ss g.tys o.pl).1)&&decide ((zi u.ss g.tys o.pl).2.1<2)):=by
  rw [zw,if_neg h1,if_neg h2]
  by_cases h3 : o.k=3
  ·rw [if_pos h3,if_pos h3]
  ·rw [if_neg h3,if_neg h3,if_pos (by omega)]
 refine gg_ ?_
 refine S.ldN (b:=b3) ?_
 refine ZS (p:=o.pl) S.holds hx hst hf hpl (fun w3 hno e3=>?_) fun t how q cap vg s w3 hsp e3 n3 htt hsl h8=>?_
 ·have S:=S.go e3
  have hz : (zw u.ss g.tys o).2=false:=by
   rw [hop];split<;>simp [hno]
  rw [hz] at h
  refine gS_ ?_
  refine S.al fun b6 w4 S=>?_
  refine S.stB (b:=b6) fun w5 S=>?_
  refine gp_ ?_
  refine zh (c:=true) (fun hh=>by cases hh) ?_
  refine c_t rfl ?_
  refine S.ldB (b:=b6) ?_ rfl
  refine S.stB (b:=b4) fun w7 S=>?_
  refine S.ceB (b:=b4) ?_ rfl
  exact h zr none 0 _ (fun hh=>by cases hh) S.ext zI
 obtain ⟨S,d3,a3⟩:=S.tell e3 n3
 rw [hsp] at hop
 simp only [Bool.true_and] at hop
 refine gS_ ?_
 refine S.al fun b6 w4 S=>?_
 refine S.stB (b:=b6) fun w5 S=>?_
 refine gp_ ?_
 refine zh (c:=decide (o.n≠0)) (fun _ K2 hK2=>by refine gg_ ?_;exact hK2) ?_
 rw [show ((!true)||decide (o.n≠0))=decide (o.n≠0) by simp]
 refine zj (fun hn=>?_) (fun hn=>?_)
 ·have hz : (zw u.ss g.tys o).2=false:=by
   rw [hop];split<;>simp [hn]
  rw [hz] at h
  refine S.ldB (b:=b6) ?_ rfl
  refine S.stB (b:=b4) fun w7 S=>?_
  refine S.ceB (b:=b4) ?_ rfl
  exact h t q cap _ (fun hh=>by cases hh) S.ext htt
 have hn : o.n=0:=by omega
 rw [decide_eq_true hn] at hop
 simp only [Bool.true_and] at hop
 refine gg_ ?_
 refine zj (fun h3=>?_) (fun h3=>?_)
 ·rw [if_pos h3] at hop
  rw [hop] at h
  have S:=S.go (Ext.drew _)
  refine S.ldB (b:=b6) ?_ rfl
  refine S.ldB (b:=b6) ?_ rfl
  refine YX S.holds htt.up fun w6 e6=>⟨e6,?_⟩
  have S:=S.go e6
  refine S.stB (b:=b4) fun w7 S=>?_
  refine S.ceB (b:=b4) ?_ rfl
  exact h t q cap _ (fun _=>rfl) S.ext htt
 ·rw [if_neg h3] at hop
  rw [hop] at h
  have S:=S.go (Ext.drew _)
  refine S.ldB (b:=b6) ?_ rfl
  refine S.ldB (b:=b6) ?_ rfl
  refine YX S.holds htt.up fun w6 e6=>⟨e6,?_⟩
  have S:=S.go e6
  refine gp_ ?_
  refine zs (c:=decide (ys 0 how<2)) (fun _ K2 hK2=>?_) fun w7 e7=>?_
  ·refine js S.holds (hsl.cells (s:=r.or s)) (by omega) fun w7 e7=>⟨e7,?_⟩
   refine gp_ ?_
   exact hK2 _ e7
  have S:=S.go e7
  refine S.stB (b:=b4) fun w7 S=>?_
  refine S.ceB (b:=b4) ?_ rfl
  exact h t q cap _ (fun _=>rfl) S.ext htt
theorem V7 {ss : List StD} {tys : List TyD} (hf : xd ss tys) {o : OpD} (h : (zw ss tys o).2=true) : isB (zw ss tys o).1=true:=by
 by_cases hk : o.k=3∨o.k=4
 ·unfold zw at h ⊢
  rw [if_neg (by omega),if_neg (by omega)] at h ⊢
  rcases hk with hk|hk
  ·rw [if_pos hk] at h ⊢
   simp only [Bool.and_eq_true] at h
   exact (kK hf h.1.1).is hf.few
  ·rw [if_neg (by omega),if_pos hk] at h ⊢
   simp only [Bool.and_eq_true] at h
   exact (kK hf h.1.1.1).is hf.few
 ·unfold zw at h ⊢
  by_cases h1 : o.k=1
  ·rw [if_pos h1];rfl
  by_cases h2 : o.k=2
  ·rw [if_neg h1,if_pos h2];rfl
  ·rw [if_neg h1,if_neg h2,if_neg (by omega),if_neg (by omega)] at h;cases h
theorem V8 {ss : List StD} {tys : List TyD} : ∀ {l : List OpD} {ts : List TyD} (i : Nat) (hi : i<l.length) (hj : i<ts.length),y0 ss tys (l.take (i+1)) (ts.take (i+1))=(y0 ss tys (l.take i) (ts.take i)&&((zw ss tys l[i]).2&&zR yd (zw ss tys l[i]).1 ts[i]))
 |[],_,i,hi,_=>absurd hi (Nat.not_lt_zero _)
 |_::_,[],i,_,hj=>absurd hj (Nat.not_lt_zero _)
 |o::l,t::r,0,hi,hj=>by
  rw [List.take_succ_cons,List.take_succ_cons,kX]
  simp [y0]
 |o::l,t::r,i+1,hi,hj=>by
  rw [List.take_succ_cons,List.take_succ_cons,kX,V8 i (by simpa using hi) (by simpa using hj),List.take_succ_cons,List.take_succ_cons,kX]
  simp only [List.getElem_cons_succ,Bool.and_assoc]
theorem afr {ss : List StD} {tys : List TyD} {l : List OpD} {ts : List TyD} {i : Nat} (hi : i<l.length) (hj : i<ts.length) (h : ((zw ss tys l[i]).2&&zR yd (zw ss tys l[i]).1 ts[i])=false) : y0 ss tys l ts=false:=by
 cases ha : y0 ss tys l ts with
 |false=>rfl
 |true=>
  exfalso
  have key : ∀ {l : List OpD} {ts : List TyD} (i : Nat) (hi : i<l.length) (hj : i<ts.length),y0 ss tys l ts=true→((zw ss tys l[i]).2&&zR yd (zw ss tys l[i]).1 ts[i])=true:=by
   intro l
   induction l with
   |nil=>intro ts i hi;exact absurd hi (Nat.not_lt_zero _)
   |cons o l ih=>
    intro ts i hi hj ha
    cases ts with
    |nil=>exact absurd hj (Nat.not_lt_zero _)
    |cons t r=>
     rw [kX,Bool.and_eq_true] at ha
     cases i with
     |zero=>exact ha.1
     |succ i=>exact ih i (by simpa using hi) (by simpa using hj) ha.2
  rw [key i hi hj ha] at h;cases h
set_option maxHeartbeats 1000000 in
theorem QF {u : UnD} {g : GrD} {l : List OpD} {ts : List TyD} {bx : Nat} {p q : Option Addr} {cp cq : Nat} {w : World} {r : Gh} {K : Value→World→Prop} (hr : Holds r w) (hx : AsP r bx u g) (hst : (zz u.ss).2=0) (hf : xd u.ss g.tys)
  (hl : SlG 4 r (OpG r) (.slice p l.length cp) l) (hb : l.length≤maxLen) (ht : TysG r q ts) (htb : ts.length≤maxLen) (hts : ∀ t ∈ ts,isB t=true)
  (h : ∀ w',Ext w w'→K (.bool (y0 u.ss g.tys l ts)) w') : ze Tryz.prog Tryz.xt #[.pointer (some ⟨bx,0,none⟩),.slice p l.length cp,.slice q ts.length cq] w K:=by
 refine Tryz.XM ?_
 unfold Tryz.vc
 have S:=St.start hr
 have hb' : l.length≤9223372036854775807:=hb
 refine gg_ ?_
 refine zj (fun hne=>?_) (fun heq=>?_)
 ·have:=h _ S.ext
  rw [Qn (by omega)] at this
  exact this
 have heq : l.length=ts.length:=by omega
 refine zk (ι:=Nat) (fun i=>[.int .i64 (i : Nat)]) (fun i w'=>i≤l.length∧y0 u.ss g.tys (l.take i) (ts.take i)=true∧StX noX w r w' []) (fun i=>l.length - i) 0 rfl ⟨Nat.zero_le _,rfl,S⟩ ?_
 clear S
 rintro i d w2 ⟨hi,hall,S⟩ K1 hK1
 rw [List.getD_cons_zero]
 refine gg_ ?_
 refine zj (fun hlt=>?_) (fun hge=>?_)
 ·have hlt : i<l.length:=by omega
  have hlt2 : i<ts.length:=by omega
  obtain ⟨bo,oo,co,rfl,hco,hoc,hocell⟩:=hl.get (by decide) hlt
  obtain ⟨bt,ot,ct,rfl,hct,htcell,htc⟩:=ht i hlt2
  obtain ⟨qt,ct2,rfl,htt⟩:=zV htc
  refine gg_ ?_
  refine zq (n:=4) hco (fun j v hj=>by rw [Int.toNat_natCast];exact S.at (hocell j v hj)) ?_
  refine ju S.holds hx hst hf hoc fun t q cap w3 hte e3 ht3=>?_
  have S:=S.go e3
  refine gS_ ?_
  refine S.al fun b8 w4 S=>?_
  refine S.stB (b:=b8) fun w5 S=>?_
  refine gp_ ?_
  have S0:=S
  have S:=S.go (Ext.drew _)
  refine yw (c:=!zR yd (zw u.ss g.tys l[i]).1 ts[i]) (fun hok K2 hK2=>?_) fun w6 e6=>?_
  ·have hok : (zw u.ss g.tys l[i]).2=true:=by simpa using hok
   obtain rfl:=hte hok
   refine S.ldB (b:=b8) ?_ rfl
   refine gg_ ?_
   refine zq (n:=5) hct (fun j v hj=>by rw [Int.toNat_natCast];exact S.at (htcell j v hj)) ?_
   have hB:=V7 hf hok
   have hB2:=hts _ (List.getElem_mem hlt2)
   refine XH 48 hB hB2 S.holds ht3.up htt.up fun w7 e7=>?_
   refine gp_ ?_
   have ea : xv yd 48 (zw u.ss g.tys l[i]).1 ts[i]=zR yd (zw u.ss g.tys l[i]).1 ts[i]:=by rw [zR,hB,hB2];rfl
   rw [ea]
   exact hK2 _ e7
  have S:=S.go e6
  refine c_b (fun hbad=>?_) (fun hgood=>?_)
  ·have:=h _ S.ext
   rw [afr hlt hlt2 (by revert hbad;cases (zw u.ss g.tys l[i]).2<;>cases (zR yd (zw u.ss g.tys l[i]).1 ts[i])<;>simp)] at this
   exact this
  ·refine gg_ ?_
   rw [show ((i : Int)+1)=((i+1 : Nat) : Int) by omega]
   refine hK1 (i+1) _ ⟨hlt,?_,S.tl⟩ (by omega)
   rw [V8 i hlt hlt2,hall,Bool.true_and]
   simpa using hgood
 ·have hie : i=l.length:=by omega
  have:=h _ S.ext
  rw [hie,List.take_length,heq,List.take_length] at hall
  rw [hall] at this
  exact this
end Go.Proofs
end
section
namespace Go.Sh
theorem agy {w : World} {b e n x y : Bool} {A1 : (List Value→World→Prop)→Prop} {A2 A3 A4 : (List Value→World→Prop)→World→Prop} {Z : Value→World→Prop}
  (h1 : ∀ K : List Value→World→Prop,(∀ w',Ext w w'→K [.bool e] w')→A1 K) (h2 : ∀ (K : List Value→World→Prop) w1,Ext w w1→(∀ w',Ext w w'→K [.bool n] w')→A2 K w1)
  (h3 : ∀ (K : List Value→World→Prop) w1,Ext w w1→(∀ w',Ext w w'→K [.bool x] w')→A3 K w1) (h4 : ∀ (K : List Value→World→Prop) w1,Ext w w1→(∀ w',Ext w w'→K [.bool y] w')→A4 K w1)
  (hZ : ∀ w',Ext w w'→Z (.bool (b||(((e||n)&&x)&&y))) w') :
  za (fun K=>gIf (.bool b) false (A1 K) (K [undef] w)) fun s92 _ w94=>
   za (fun K=>gIf (s92.getD 0 undef) false (A2 K w94) (K [undef] w94)) fun s96 _ w98=>
    za (fun K=>gIf (.bool b) false (zb (s92.getD 0 undef) (.bool true) (s96.getD 0 undef) fun t=>K [t] w98) (K [undef] w98)) fun s100 _ w102=>
     za (fun K=>gIf (s100.getD 0 undef) true (A3 K w102) (K [undef] w102)) fun s104 _ w106=>
      za (fun K=>gIf (.bool b) false (zb (s100.getD 0 undef) (s104.getD 0 undef) (.bool false) fun t=>K [t] w106) (K [undef] w106)) fun s109 _ w111=>
       za (fun K=>gIf (s109.getD 0 undef) true (A4 K w111) (K [undef] w111)) fun s113 _ w115=>
        za (fun K=>gIf (.bool b) false (zb (s109.getD 0 undef) (s113.getD 0 undef) (.bool false) fun t=>K [t] w115) (K [undef] w115)) fun s118 _ w120=>
         zb (.bool b) (.bool true) (s118.getD 0 undef) fun t=>Z t w120:=by
 cases b<;>cases e<;>cases n<;>cases x<;>cases y <;>
  (iterate 7 (intro K hK;first|refine hK _ _ fun _=>?_|(refine h1 _ fun w1 e1=>hK _ _ fun _=>?_)|(refine h2 _ _ (by first|assumption|exact Ext.refl _) fun w1 e1=>hK _ _ fun _=>?_)|(refine h3 _ _ (by first|assumption|exact Ext.refl _) fun w1 e1=>hK _ _ fun _=>?_)|(refine h4 _ _ (by first|assumption|exact Ext.refl _) fun w1 e1=>hK _ _ fun _=>?_)|refine ⟨_,rfl,hK _ _ fun _=>?_⟩)) <;>
  exact ⟨_,rfl,by simpa using hZ _ (by first|assumption|exact Ext.refl _)⟩
theorem afZ {w : World} {b m x y o u v : Bool} {A1 : (List Value→World→Prop)→Prop} {A2 A3 A4 A5 A6 : (List Value→World→Prop)→World→Prop} {Z : Value→World→Prop}
  (h1 : ∀ K : List Value→World→Prop,(∀ w',Ext w w'→K [.bool m] w')→A1 K) (h2 : ∀ (K : List Value→World→Prop) w1,Ext w w1→(∀ w',Ext w w'→K [.bool x] w')→A2 K w1)
  (h3 : ∀ (K : List Value→World→Prop) w1,Ext w w1→(∀ w',Ext w w'→K [.bool y] w')→A3 K w1) (h4 : ∀ (K : List Value→World→Prop) w1,Ext w w1→(∀ w',Ext w w'→K [.bool o] w')→A4 K w1)
  (h5 : ∀ (K : List Value→World→Prop) w1,Ext w w1→(∀ w',Ext w w'→K [.bool u] w')→A5 K w1) (h6 : ∀ (K : List Value→World→Prop) w1,Ext w w1→(∀ w',Ext w w'→K [.bool v] w')→A6 K w1)
  (hZ : ∀ w',Ext w w'→Z (.bool (b&&(((m&&x)&&y)||((o&&u)&&v)))) w') :
  za (fun K=>gIf (.bool b) true (A1 K) (K [undef] w)) fun s141 _ w143=>
   za (fun K=>gIf (s141.getD 0 undef) true (A2 K w143) (K [undef] w143)) fun s145 _ w147=>
    za (fun K=>gIf (.bool b) true (zb (s141.getD 0 undef) (s145.getD 0 undef) (.bool false) fun t=>K [t] w147) (K [undef] w147)) fun s150 _ w152=>
     za (fun K=>gIf (s150.getD 0 undef) true (A3 K w152) (K [undef] w152)) fun s154 _ w156=>
      za (fun K=>gIf (.bool b) true (zb (s150.getD 0 undef) (s154.getD 0 undef) (.bool false) fun t=>K [t] w156) (K [undef] w156)) fun s159 _ w161=>
       za (fun K=>gIf (s159.getD 0 undef) false (A4 K w161) (K [undef] w161)) fun s163 _ w165=>
        za (fun K=>gIf (s163.getD 0 undef) true (A5 K w165) (K [undef] w165)) fun s167 _ w169=>
         za (fun K=>gIf (s159.getD 0 undef) false (zb (s163.getD 0 undef) (s167.getD 0 undef) (.bool false) fun t=>K [t] w169) (K [undef] w169)) fun s172 _ w174=>
          za (fun K=>gIf (s172.getD 0 undef) true (A6 K w174) (K [undef] w174)) fun s176 _ w178=>
           za (fun K=>gIf (s159.getD 0 undef) false (zb (s172.getD 0 undef) (s176.getD 0 undef) (.bool false) fun t=>K [t] w178) (K [undef] w178)) fun s181 _ w183=>
            za (fun K=>gIf (.bool b) true (zb (s159.getD 0 undef) (.bool true) (s181.getD 0 undef) fun t=>K [t] w183) (K [undef] w183)) fun s185 _ w187=>
             zb (.bool b) (s185.getD 0 undef) (.bool false) fun t=>Z t w187:=by
 cases b<;>cases m<;>cases x<;>cases y<;>cases o<;>cases u<;>cases v <;>
  (iterate 11 (intro K hK;first|refine hK _ _ fun _=>?_|(refine h1 _ fun w1 e1=>hK _ _ fun _=>?_)|(refine h2 _ _ (by first|assumption|exact Ext.refl _) fun w1 e1=>hK _ _ fun _=>?_)|(refine h3 _ _ (by first|assumption|exact Ext.refl _) fun w1 e1=>hK _ _ fun _=>?_)|(refine h4 _ _ (by first|assumption|exact Ext.refl _) fun w1 e1=>hK _ _ fun _=>?_)|(refine h5 _ _ (by first|assumption|exact Ext.refl _) fun w1 e1=>hK _ _ fun _=>?_)|(refine h6 _ _ (by first|assumption|exact Ext.refl _) fun w1 e1=>hK _ _ fun _=>?_)|refine ⟨_,rfl,hK _ _ fun _=>?_⟩)) <;>
  exact ⟨_,rfl,by simpa using hZ _ (by first|assumption|exact Ext.refl _)⟩
theorem af0 {w : World} {b m x : Bool} {A1 : (List Value→World→Prop)→Prop} {A2 : (List Value→World→Prop)→World→Prop} {Z : Value→World→Prop}
  (h1 : ∀ K : List Value→World→Prop,K [.bool m] w→A1 K) (h2 : b=true→∀ K : List Value→World→Prop,(∀ w',Ext w w'→K [.bool x] w')→A2 K w) (hZ : ∀ w',Ext w w'→Z (.bool (b&&(m||x))) w') :
  za (fun K=>gIf (.bool b) true (A1 K) (K [undef] w)) fun s212 _ w214=>
   za (fun K=>gIf (s212.getD 0 undef) false (A2 K w214) (K [undef] w214)) fun s216 _ w218=>
    za (fun K=>gIf (.bool b) true (zb (s212.getD 0 undef) (.bool true) (s216.getD 0 undef) fun t=>K [t] w218) (K [undef] w218)) fun s221 _ w223=>
     zb (.bool b) (s221.getD 0 undef) (.bool false) fun t=>Z t w223:=by
 cases b<;>cases m<;>cases x <;>
  (iterate 3 (intro K hK;first|refine hK _ _ fun _=>?_|refine h1 _ (hK _ _ fun _=>?_)|(refine h2 rfl _ fun w1 e1=>hK _ _ fun _=>?_)|refine ⟨_,rfl,hK _ _ fun _=>?_⟩)) <;>
  exact ⟨_,rfl,by simpa using hZ _ (by first|assumption|exact Ext.refl _)⟩
end Go.Sh
namespace Go.Proofs
open Go.Sh
set_option maxRecDepth 100000
set_option linter.unusedSimpArgs false
set_option linter.unusedVariables false
theorem acY : ∀ (l : List Int) (m : Int),(m≤3)→(∀ x ∈ l,x≤3)→ys m l≤3
 |[],m,h,_=>h
 |k::l,m,h,hl=>acY l _ (by have:=hl k List.mem_cons_self;omega) fun x hx=>hl x (List.mem_cons_of_mem _ hx)
theorem acZ {ss : List StD} : ∀ (l : List Int) (t : TyD) {x : TyD × List Int},zB ss l t=some x→∀ k ∈ x.2,k≤3
 |[],t,x,h=>by cases h;intro k hk;cases hk
 |k::l,t,x,h=>by
  rw [zB] at h
  cases hs : zD ss t k with
  |none=>rw [hs] at h;cases h
  |some s=>
   rw [hs] at h
   have h : (zB ss l s.1).map (fun x=>(x.1,s.2::x.2))=some x:=h
   cases hw : zB ss l s.1 with
   |none=>rw [hw] at h;cases h
   |some y=>
    rw [hw] at h
    cases h
    intro j hj
    rcases List.mem_cons.1 hj with rfl|hj
    ·unfold zD at hs
     split at hs
     ·cases ho : t.of.head? with
      |none=>rw [ho] at hs;cases hs
      |some u=>rw [ho] at hs;cases hs;show (1 : Int)≤3;decide
     split at hs
     ·cases ho : t.of.head? with
      |none=>rw [ho] at hs;cases hs
      |some u=>rw [ho] at hs;cases hs;show (if t.m then (2 : Int) else 3)≤3;split<;>decide
     split at hs
     ·cases ho : (zd ss t.st)[k.toNat]? with
      |none=>rw [ho] at hs;cases hs
      |some u=>rw [ho] at hs;cases hs;show (0 : Int)≤3;decide
     ·cases hs
    ·exact acZ l s.1 hw j hj
theorem aeK {ss : List StD} {tys : List TyD} {p : PlD} (hst : (zz ss).2=0) (hf : xd ss tys) (h : (zi ss tys p).2.2=true) : (zi ss tys p).2.1≤3:=by
 have h8:=Xp h
 obtain ⟨h0,hl,x,h1,h2⟩:=(QE hst hf).1 h
 rw [QD hst (by rw [zK,decide_eq_true hst,Bool.true_and];exact hf.all _ (List.getElem_mem hl)),if_pos h8] at h1
 rw [h2]
 exact acY _ _ (by decide) (acZ _ _ h1)
theorem abO {u : UnD} {g : GrD} {p : PlD} {bx : Nat} {c : List Value} {w : World} {r : Gh} {K : Value→World→Prop} (hr : Holds r w) (hx : AsP r bx u g) (hst : (zz u.ss).2=0) (hf : xd u.ss g.tys) (hp : PlG r c p)
  (h : ∀ t how q cap vg s w',((zi u.ss g.tys p).2.2=true→zi u.ss g.tys p=(t,ys 0 how,true))→Ext w w'→New w s w'→TyG r (tyV t q cap) t→SlG 1 s kp vg how→how.length≤8→K (.tuple #[tyV t q cap,vg,.bool (zi u.ss g.tys p).2.2]) w') :
  ze Tryz.prog Tryz.yE #[.pointer (some ⟨bx,0,none⟩),.agg c.toArray] w K:=by
 refine ZS hr hx hst hf hp (fun w' hno e=>?_) fun t how q cap vg s w' hsp e n htt hsl h8=>?_
 ·have:=h zr [] none 0 (.slice none 0 0) nothing w' (fun hh=>by rw [hno] at hh;cases hh) e New.nothing zI SlG.nil (Nat.zero_le _)
  rw [hno] at this
  exact this
 ·have:=h t how q cap vg s w' (fun _=>hsp) e n htt hsl h8
  rw [hsp] at this
  exact this
end Go.Proofs
end
section
namespace Go.Proofs
open Go.Sh
set_option maxRecDepth 100000
set_option linter.unusedSimpArgs false
set_option linter.unusedVariables false
theorem afs {p : PtD} {h : JT} {L : List UInt8} (e : ([84,65,66,76,70,83,78,85,77,69] : List Int).map (kr L) = [h.to,h.a,h.b,h.args,h.fr,h.sign,h.fn,h.st,h.mu,h.el]) : kY p L 10=zH p h:=by
 simp only [List.map_cons,List.map_nil,List.cons.injEq,and_true] at e
 obtain ⟨e0,e1,e2,e3,e4,e5,e6,e7,e8,e9⟩:=e
 exact afk e0 e1 e2 e3 e4 e5 e6 e7 e8 e9
theorem yT {p : PtD} {f : JT} {has : List UInt8} {c : List Value} {w : World} {r : Gh} {K : Value→World→Prop} (e : ([84,65,66,76,70,83,78,85,77,69] : List Int).map (kr has) = [f.to,f.a,f.b,f.args,f.fr,f.sign,f.fn,f.st,f.mu,f.el]) (hh : has.length≤100) (hr : Holds r w) (hp : PtG r c p)
  (h : ∀ w',Ext w w'→K (.bool (zH p f)) w') : ze Tryz.prog Tryz.zO #[.agg c.toArray,.string (bs has)] w K:=by
 refine acS hr hp hh fun w' e'=>?_
 rw [afs e]
 exact h _ e'
theorem agz {s : ByteArray} {t1 t2 i x : Bool} : (ya s [[61,61],[33,61],[60],[60,61],[62],[62,61]]&&t2&&(i||((s.toList == [61,61]||s.toList == [33,61])&&x))) =
  (if ya s [[60],[60,61],[62],[62,61]]=true then t2&&i else if ya s [[61,61],[33,61]]=true then t2&&(i||x) else false):=by
 have hx : ∀ a b : List UInt8,a≠b→(s.toList == a)=true→(s.toList == b)=false:=fun a b hab h=>by
  rw [beq_iff_eq] at h
  rw [h]
  exact beq_eq_false_iff_ne.2 hab
 simp only [ya,List.any_cons,List.any_nil,Bool.or_false]
 by_cases h1 : (s.toList == [61,61])=true
 ·rw [hx _ [60] (by decide) h1,hx _ [60,61] (by decide) h1,hx _ [62] (by decide) h1,hx _ [62,61] (by decide) h1,h1]
  simp
 by_cases h2 : (s.toList == [33,61])=true
 ·rw [hx _ [60] (by decide) h2,hx _ [60,61] (by decide) h2,hx _ [62] (by decide) h2,hx _ [62,61] (by decide) h2,h2]
  simp
 rw [Bool.not_eq_true] at h1 h2
 rw [h1,h2]
 simp only [Bool.false_or,Bool.false_and,Bool.or_false,Bool.false_eq_true,if_false]
 by_cases h3 : ((s.toList == [60])||((s.toList == [60,61])||((s.toList == [62])||(s.toList == [62,61]))))=true
 ·rw [if_pos h3,h3,Bool.true_and]
 ·rw [if_neg h3]
  rw [Bool.not_eq_true] at h3
  rw [h3];rfl
theorem agV {s : ByteArray} {b t1 a1 t2 a2 : Bool} : (b&&(((s.toList == [45]&&t1)&&a1)||((s.toList == [33]&&t2)&&a2)))=(b&&(if ya s [[45]]=true then t1&&a1 else if ya s [[33]]=true then t2&&a2 else false)):=by
 congr 1
 simp only [ya,List.any_cons,List.any_nil,Bool.or_false]
 by_cases h1 : (s.toList == [45])=true
 ·have h2 : (s.toList == [33])=false:=by
   rw [beq_iff_eq] at h1;rw [h1];rfl
  rw [if_pos h1,h1,h2];simp
 ·rw [if_neg h1]
  rw [Bool.not_eq_true] at h1
  rw [h1]
  by_cases h2 : (s.toList == [33])=true
  ·rw [if_pos h2,h2];simp
  ·rw [if_neg h2];rw [Bool.not_eq_true] at h2;rw [h2];simp
set_option maxHeartbeats 8000000 in
theorem abP {u : UnD} {g : GrD} {p : PtD} {bx : Nat} {c : List Value} {w : World} {r : Gh} {K : Value→World→Prop} (hr : Holds r w) (hx : AsP r bx u g) (hst : (zz u.ss).2=0) (hf : xd u.ss g.tys)
  (hfs : ∀ f ∈ u.fs,0≤f.pn∧f.pn<f.tys.length∧xd u.ss f.tys) (hp : PtG r c p)
  (h : ∀ w',Ext w w'→K (.bool (yj u g p)) w') : ze Tryz.prog Tryz.kn #[.pointer (some ⟨bx,0,none⟩),.agg c.toArray] w K:=by
 refine Tryz.Y8 ?_
 unfold Tryz.jx
 have hx0:=hx
 obtain ⟨p0,cap0,qf,capf,q1,c1,q2,c2,q3,c3,q4,c4,hB,hu,hg⟩:=hx
 obtain ⟨_,_,_,hE,_,_,hss,hsl,hfn⟩:=hu
 cases hE
 have hfl : u.fs.length≤9223372036854775807:=hfn.few
 obtain ⟨_,_,_,_,hE,_,_,_,hpts⟩:=hg
 cases hE
 have hpl : g.pts.length≤9223372036854775807:=hpts.few
 obtain ⟨z1,z2,z3,z4,z5,d1,d2,d3,d4,d5,rfl,hp0⟩:=kk hp
 obtain ⟨_,_,_,_,_,hE,k1,k2,k3,k4,k5⟩:=id hp0
 cases hE
 have hpto : PlG r [.int .i64 p.to.l,.slice z1 p.to.ps.length d1] p.to:=⟨_,rfl,k1⟩
 have hpfr : PlG r [.int .i64 p.fr.l,.slice z5 p.fr.ps.length d5] p.fr:=⟨_,rfl,k5⟩
 have hoa : OpG r [.int .u8 p.a.k,.int .i64 p.a.n,.int .i64 p.a.pl.l,.slice z2 p.a.pl.ps.length d2] p.a:=⟨_,rfl,k2⟩
 have hob : OpG r [.int .u8 p.b.k,.int .i64 p.b.n,.int .i64 p.b.pl.l,.slice z3 p.b.pl.ps.length d3] p.b:=⟨_,rfl,k3⟩
 have S:=St.start hr
 refine S.box fun b3 w1 S=>?_
 have S : StX noX w r w1 [.cell b3 (ptL p z1 z2 z3 z4 z5 d1 d2 d3 d4 d5) 53]:=S
 have ld : ∀ {q : Gh} {w9 : World} {L : List Asr} {i : Nat} {v : Value} [Le r q],StX noX w q w9 L→(asL u g p0 cap0 qf capf q1 c1 q2 c2 q3 c3 q4 c4)[i]? = some v→w9.cell? ⟨bx,i,none⟩=some v:=fun S hi=>by
  rw [(S.at hB).cell];exact hi
 refine gg_ ?_
 refine zm (ld (i:=9) S rfl) ?_
 refine gg_ ?_
 refine jS (g:=decide (p.op=14)) (c:=decide (p.nx≠0)) (fun _ K2 hK2=>by refine gg_ ?_;exact hK2) (fun _ K2 hK2=>by refine gg_ ?_;exact hK2) ?_
 refine aaD (g:=decide (p.op≠14)) (m:=decide (p.nx<0)) (c:=decide ((g.pts.length : Int)≤p.nx)) (fun K2 hK2=>by refine gg_ ?_;exact hK2) (fun K2 hK2=>by refine gg_ ?_;exact hK2) (fun K2 hK2=>by refine gg_ ?_;exact hK2) ?_
 have hbad : ((decide (p.tx<0)||(decide (p.op=14)&&decide (p.nx≠0)))||(decide (p.op≠14)&&(decide (p.nx<0)||decide ((g.pts.length : Int)≤p.nx)))) =
   ((decide (p.tx<0)||(!decide (p.op=14) && !YB g p.nx))||(decide (p.op=14) && !decide (p.nx=0))):=by
  have e1 : (!YB g p.nx)=(decide (p.nx<0)||decide ((g.pts.length : Int)≤p.nx)):=by
   rw [YB,Bool.not_and,← decide_not,← decide_not]
   congr 1<;>exact decide_eq_decide.2 (by omega)
  rw [e1,← decide_not,← decide_not]
  show ((decide (p.tx<0)||(decide (p.op=14)&&decide (¬ p.nx=0)))||(decide (¬ p.op=14)&&(decide (p.nx<0)||decide ((g.pts.length : Int)≤p.nx))))=_
  ac_rfl
 rw [hbad]
 refine c_b (fun hc=>?_) (fun hc=>?_)
 ·have:=h _ S.ext
  rw [yj,hc] at this
  exact this
 rw [yj,hc] at h
 simp only [Bool.not_false,Bool.true_and] at h
 clear hbad hc
 refine gg_ ?_
 refine S.ldN (b:=b3) ?_
 refine ad0 (p:=p.to) S.holds hx0 hst hf hpto fun tt qt ct w2 htt e2 ht2=>?_
 have S:=S.go e2
 refine gS_ ?_
 refine S.al fun b6 w3 S=>?_
 refine S.stB (b:=b6) fun w4 S=>?_
 refine gg_ ?_
 refine S.ldN (b:=b3) ?_
 refine ju (o:=p.a) S.holds hx0 hst hf hoa fun ta qa ca w5 hta e5 ht5=>?_
 have S:=S.go e5
 refine gS_ ?_
 refine S.al fun b8 w6 S=>?_
 refine S.stB (b:=b8) fun w7 S=>?_
 refine gg_ ?_
 refine S.ldN (b:=b3) ?_
 refine ju (o:=p.b) S.holds hx0 hst hf hob fun tb qb cb w8 htb e8 ht8=>?_
 have S:=S.go e8
 refine gS_ ?_
 refine S.al fun b10 w9 S=>?_
 refine S.stB (b:=b10) fun w10 S=>?_
 refine gg_ ?_
 refine S.ldN (b:=b3) ?_
 refine abO (p:=p.fr) S.holds hx0 hst hf hpfr fun tf how qr cr vg s w11 htf e11 n11 ht11 hhow hh8=>?_
 obtain ⟨S,dd,ad⟩:=S.tell e11 n11
 obtain ⟨vgp,vgc,rfl,_,_⟩:=hhow.shape
 refine gS_ ?_
 refine S.al fun b12 w12 S=>?_
 refine S.stB (b:=b12) fun w13 S=>?_
 have S : StX noX w (r.or s) w13 [.cell b12 (tyL tf qr cr) 31,.cell b10 (tyL tb qb cb) 31,.cell b8 (tyL ta qa ca) 31,.cell b6 (tyL tt qt ct) 31,.cell b3 (ptL p z1 z2 z3 z4 z5 d1 d2 d3 d4 d5) 53]:=S
 have hpr : PtG (r.or s) (ptL p z1 z2 z3 z4 z5 d1 d2 d3 d4 d5) p:=hp0.up
 have ht2 : TyG (r.or s) (tyV tt qt ct) tt:=ht2.up
 have ht5 : TyG (r.or s) (tyV ta qa ca) ta:=ht5.up
 have ht8 : TyG (r.or s) (tyV tb qb cb) tb:=ht8.up
 have ht11 : TyG (r.or s) (tyV tf qr cr) tf:=ht11.up
 have hhow : SlG 1 (r.or s) kp (.slice vgp how.length vgc) how:=hhow.cells
 have hBto : (zi u.ss g.tys p.to).2.2=true→isB (zi u.ss g.tys p.to).1=true:=fun ho=>(kK hf ho).is hf.few
 have hBa : (zw u.ss g.tys p.a).2=true→isB (zw u.ss g.tys p.a).1=true:=V7 hf
 have hBf : (zi u.ss g.tys p.fr).2.2=true→isB (zi u.ss g.tys p.fr).1=true:=fun ho=>(kK hf ho).is hf.few
 have ali : ∀ {a b : TyD} {va vb : Value} {w9 : World} {L : List Asr} {K9 : Value→World→Prop},isB a=true→isB b=true→StX noX w (r.or s) w9 L→TyG (r.or s) va a→TyG (r.or s) vb b→(∀ w',Ext w9 w'→K9 (.bool (zR yd a b)) w')→ze Tryz.prog Tryz.yA #[va,vb] w9 K9:=fun ha hb S hva hvb hk=>by
  refine XH 48 ha hb S.holds hva hvb fun w' e'=>?_
  have:=hk w' e'
  rw [zR,ha,hb] at this
  exact this
 refine gg_ ?_
 refine zj (fun hop=>?_) (fun hop=>?_)
 ·rw [ptG] at h
  simp only [hop,Int.reduceEq,if_false,if_true] at h
  refine S.ldB (b:=b3) ?_ rfl
  refine yT (f:={ to:=true,a:=true }) (by decide) (by decide) S.holds hpr fun w14 e14=>?_
  have S:=S.go e14
  refine zg (c:=(zi u.ss g.tys p.to).2.2&&decide ((zi u.ss g.tys p.to).2.1<3)) (fun _ K2 hK2=>hK2) ?_
  refine zg (c:=(zw u.ss g.tys p.a).2) (fun _ K2 hK2=>hK2) ?_
  refine zs (c:=zR yd (zw u.ss g.tys p.a).1 (zi u.ss g.tys p.to).1) (fun hb K2 hK2=>?_) fun w15 e15=>h _ (S.go e15).ext
  simp only [Bool.and_eq_true] at hb
  obtain rfl:=htt hb.1.2.1
  obtain rfl:=hta hb.2
  refine S.ldB (b:=b8) ?_ rfl
  refine S.ldB (b:=b6) ?_ rfl
  exact ali (hBa hb.2) (hBto hb.1.2.1) S ht5 ht2 fun w' e'=>hK2 _ e'
 refine gg_ ?_
 refine zj (fun hop=>?_) (fun hop=>?_)
 ·rw [ptG] at h
  simp only [hop,Int.reduceEq,if_false,if_true] at h
  refine S.ldB (b:=b3) ?_ rfl
  refine yT (f:={ to:=true,a:=true,b:=true,sign:=true }) (by decide) (by decide) S.holds hpr fun w14 e14=>?_
  have S:=S.go e14
  refine gg_ ?_
  refine zh (c:=!((zi u.ss g.tys p.to).2.2&&decide ((zi u.ss g.tys p.to).2.1<3))) (fun _ K2 hK2=>by refine gg_ ?_;exact hK2) ?_
  refine zh (c:=!(zw u.ss g.tys p.a).2) (fun _ K2 hK2=>by refine gg_ ?_;exact hK2) ?_
  refine zh (c:=!(zw u.ss g.tys p.b).2) (fun _ K2 hK2=>by refine gg_ ?_;exact hK2) ?_
  refine c_b (fun hc=>?_) (fun hc=>?_)
  ·rw [bb4 hc,Bool.false_and] at h
   exact h _ S.ext
  rw [ags hc,Bool.true_and] at h
  simp only [Bool.or_eq_false_iff,Bool.not_eq_false',Bool.and_eq_true] at hc
  obtain ⟨⟨⟨_,hto,_⟩,ha2⟩,hb2⟩:=hc
  obtain rfl:=htt hto
  obtain rfl:=hta ha2
  obtain rfl:=htb hb2
  refine gg_ ?_
  refine acR ?_
  refine c_b (fun hs=>?_) (fun hs=>?_)
  ·rw [if_pos hs] at h
   refine S.ldB (b:=b6) ?_ rfl
   refine zU S.holds fun w15 e15=>?_
   have S:=S.go e15
   refine zs (c:=isK (zw u.ss g.tys p.a).1 1) (fun _ K2 hK2=>?_) fun w16 e16=>?_
   ·refine S.ldB (b:=b8) ?_ rfl
    exact zU S.holds fun w' e'=>hK2 _ e'
   have S:=S.go e16
   refine zs (c:=isK (zw u.ss g.tys p.b).1 1) (fun _ K2 hK2=>?_) fun w17 e17=>?_
   ·refine S.ldB (b:=b10) ?_ rfl
    exact zU S.holds fun w' e'=>hK2 _ e'
   have:=h _ (S.go e17).ext
   rw [← Bool.and_assoc] at this
   exact this
  rw [if_neg (by rw [hs];decide)] at h
  refine S.ldB (b:=b8) ?_ rfl
  refine zU S.holds fun w15 e15=>?_
  have S:=S.go e15
  refine zs (c:=isK (zw u.ss g.tys p.b).1 1) (fun _ K2 hK2=>?_) fun w16 e16=>?_
  ·refine S.ldB (b:=b10) ?_ rfl
   exact zU S.holds fun w' e'=>hK2 _ e'
  have S:=S.go e16
  refine agy (e:=p.sign.toList == [61,61]) (n:=p.sign.toList == [33,61]) (x:=isK (zw u.ss g.tys p.a).1 2) (y:=isK (zw u.ss g.tys p.b).1 2) (fun K2 hK2=>?_) (fun K2 w1 e1 hK2=>?_) (fun K2 w1 e1 hK2=>?_) (fun K2 w1 e1 hK2=>?_) fun w17 e17=>?_
  ·refine gg_ ?_
   exact hK2 _ (Ext.refl _)
  ·have S:=S.go e1
   refine gg_ ?_
   exact hK2 _ (by first|exact e1|exact Ext.refl _)
  ·have S:=S.go e1
   refine S.ldB (b:=b8) ?_ rfl
   exact zU S.holds fun w' e'=>hK2 _ (e1.trans e')
  ·have S:=S.go e1
   refine S.ldB (b:=b10) ?_ rfl
   exact zU S.holds fun w' e'=>hK2 _ (e1.trans e')
  have S:=S.go e17
  refine gg_ ?_
  refine aaP ?_
  refine zs (c:=isK (zi u.ss g.tys p.to).1 2) (fun _ K2 hK2=>?_) fun w18 e18=>?_
  ·refine S.ldB (b:=b6) ?_ rfl
   exact zU S.holds fun w' e'=>hK2 _ e'
  have S:=S.go e18
  refine zg (c:=(isK (zw u.ss g.tys p.a).1 1&&isK (zw u.ss g.tys p.b).1 1)||(((p.sign.toList == [61,61]||p.sign.toList == [33,61])&&isK (zw u.ss g.tys p.a).1 2)&&isK (zw u.ss g.tys p.b).1 2)) (fun _ K2 hK2=>hK2) ?_
  have:=h _ S.ext
  rw [← agz (t1:=true),← Bool.and_assoc ((p.sign.toList == [61,61])||(p.sign.toList == [33,61]))] at this
  exact this
 refine gg_ ?_
 refine zj (fun hop=>?_) (fun hop=>?_)
 ·rw [ptG] at h
  simp only [hop,Int.reduceEq,if_false,if_true] at h
  refine S.ldB (b:=b3) ?_ rfl
  refine yT (f:={ to:=true,a:=true,sign:=true }) (by decide) (by decide) S.holds hpr fun w14 e14=>?_
  have S:=S.go e14
  refine zg (c:=(zi u.ss g.tys p.to).2.2&&decide ((zi u.ss g.tys p.to).2.1<3)) (fun _ K2 hK2=>hK2) ?_
  refine zg (c:=(zw u.ss g.tys p.a).2) (fun _ K2 hK2=>hK2) ?_
  rw [← agV] at h
  cases hb : ((zH p { to:=true,a:=true,sign:=true } && ((zi u.ss g.tys p.to).2.2&&decide ((zi u.ss g.tys p.to).2.1<3)))&&(zw u.ss g.tys p.a).2) with
  |false=>
   rw [hb,Bool.false_and] at h
   (intro K9 hK9;refine gd_ ?_;refine hK9 _ _ fun _=>?_;clear hK9 K9)
   (intro K9 hK9;refine gd_ ?_;refine hK9 _ _ fun _=>?_;clear hK9 K9)
   (intro K9 hK9;refine gd_ ?_;refine hK9 _ _ fun _=>?_;clear hK9 K9)
   (intro K9 hK9;refine gd_ ?_;refine hK9 _ _ fun _=>?_;clear hK9 K9)
   (intro K9 hK9;refine gd_ ?_;refine hK9 _ _ fun _=>?_;clear hK9 K9)
   (intro K9 hK9;refine gd_ ?_;refine hK9 _ _ fun _=>?_;clear hK9 K9)
   (intro K9 hK9;refine gd_ ?_;refine hK9 _ _ fun _=>?_;clear hK9 K9)
   (intro K9 hK9;refine gd_ ?_;refine hK9 _ _ fun _=>?_;clear hK9 K9)
   (intro K9 hK9;refine gd_ ?_;refine hK9 _ _ fun _=>?_;clear hK9 K9)
   (intro K9 hK9;refine gd_ ?_;refine hK9 _ _ fun _=>?_;clear hK9 K9)
   (intro K9 hK9;refine gd_ ?_;refine hK9 _ _ fun _=>?_;clear hK9 K9)
   refine gd_ ?_
   exact h _ S.ext
  |true=>
   rw [hb] at h
   simp only [Bool.and_eq_true] at hb
   obtain rfl:=htt hb.1.2.1
   obtain rfl:=hta hb.2
   refine afZ (m:=p.sign.toList == [45]) (x:=isK (zi u.ss g.tys p.to).1 1) (y:=isK (zw u.ss g.tys p.a).1 1) (o:=p.sign.toList == [33]) (u:=isK (zi u.ss g.tys p.to).1 2) (v:=isK (zw u.ss g.tys p.a).1 2) (fun K2 hK2=>?_) (fun K2 w1 e1 hK2=>?_) (fun K2 w1 e1 hK2=>?_) (fun K2 w1 e1 hK2=>?_) (fun K2 w1 e1 hK2=>?_) (fun K2 w1 e1 hK2=>?_) fun w17 e17=>h _ (S.go e17).ext
   ·refine gg_ ?_
    exact hK2 _ (Ext.refl _)
   ·have S:=S.go e1
    refine S.ldB (b:=b6) ?_ rfl
    exact zU S.holds fun w' e'=>hK2 _ (e1.trans e')
   ·have S:=S.go e1
    refine S.ldB (b:=b8) ?_ rfl
    exact zU S.holds fun w' e'=>hK2 _ (e1.trans e')
   ·have S:=S.go e1
    refine gg_ ?_
    exact hK2 _ (by first|exact e1|exact Ext.refl _)
   ·have S:=S.go e1
    refine S.ldB (b:=b6) ?_ rfl
    exact zU S.holds fun w' e'=>hK2 _ (e1.trans e')
   ·have S:=S.go e1
    refine S.ldB (b:=b8) ?_ rfl
    exact zU S.holds fun w' e'=>hK2 _ (e1.trans e')
 have h8 : ∀ k,(zd u.ss k).length≤8:=xJ (xb hst).2.1
 have h32:=hf.few
 have inn : ∀ {t : TyD} {q : Option Addr} {cap : Nat},TyG (r.or s) (tyV t q cap) t→(∃ k,t.k=k∧(k=3∨k=4))→Fine u.ss t→∃ uu bo oo q2 cap2,t.of = [uu]∧q=some ⟨bo,oo,none⟩∧isB uu=true∧TyG (r.or s) (tyV uu q2 cap2) uu∧∀ j v,(tyL uu q2 cap2)[j]? = some v→Ob (r.or s) fun w=>w.cell? ⟨bo,oo+j,none⟩=some v:=fun ht hk hfi=>by
  obtain ⟨k,hk1,hk2⟩:=hk
  rcases hfi.cases with ⟨_,h1⟩|⟨uu,h1,h2,_⟩
  ·omega
  ·obtain ⟨bo,oo,q2,cap2,rfl,ht2,hcc⟩:=jp ht h1
   exact ⟨uu,bo,oo,q2,cap2,h1,rfl,h2.is h32,ht2,hcc⟩
 refine gg_ ?_
 refine zj (fun hop=>?_) (fun hop=>?_)
 ·rw [ptG] at h
  simp only [hop,Int.reduceEq,if_false,if_true] at h
  have S:=S.go (Ext.drew _)
  refine S.ldB (b:=b3) ?_ rfl
  refine yT (f:={ to:=true,fr:=true,mu:=true }) (by decide) (by decide) S.holds hpr fun w14 e14=>?_
  have S:=S.go e14
  refine zg (c:=(zi u.ss g.tys p.to).2.2&&decide ((zi u.ss g.tys p.to).2.1<3)) (fun _ K2 hK2=>hK2) ?_
  refine zg (c:=(zi u.ss g.tys p.fr).2.2) (fun _ K2 hK2=>hK2) ?_
  refine zs (c:=isK (zi u.ss g.tys p.to).1 4) (fun hb K2 hK2=>?_) fun w15 e15=>?_
  ·simp only [Bool.and_eq_true] at hb
   obtain rfl:=htt hb.1.2.1
   refine S.ldB (b:=b6) ?_ rfl
   exact zU S.holds fun w' e'=>hK2 _ e'
  have S:=S.go e15
  refine zg (c:=(zi u.ss g.tys p.to).1.m == p.mu) (fun hb K2 hK2=>?_) ?_
  ·simp only [Bool.and_eq_true] at hb
   obtain rfl:=htt hb.1.1.2.1
   refine gg_ ?_
   exact hK2
  refine zs (c:=zR yd ((zi u.ss g.tys p.to).1.of.headD zr) (zi u.ss g.tys p.fr).1) (fun hb K2 hK2=>?_) fun w16 e16=>?_
  ·simp only [Bool.and_eq_true] at hb
   have hto:=hb.1.1.1.2.1
   have hfr:=hb.1.1.2
   have hk4 : (zi u.ss g.tys p.to).1.k=4:=by have:=hb.1.2;simpa [isK] using this
   obtain rfl:=htt hto
   have hff:=htf hfr
   have htfe : (zi u.ss g.tys p.fr).1=tf:=by rw [hff]
   have hBf:=hBf hfr
   rw [htfe] at hBf hK2
   obtain ⟨uu,bo,oo,q2,cap2,hof,rfl,hBu,htu,hcc⟩:=inn ht2 ⟨_,hk4,.inr rfl⟩ (kK hf hto)
   rw [hof] at hK2
   have hl1 : (zi u.ss g.tys p.to).1.of.length=1:=by rw [hof];rfl
   refine gg_ ?_
   refine zq (n:=5) (c:=tyL uu q2 cap2) rfl (fun j v hj=>by simpa using S.at (hcc j v hj)) ?_
   refine S.ldB (b:=b12) ?_ rfl
   exact ali hBu hBf S htu ht11 fun w' e'=>hK2 _ e'
  have S:=S.go e16
  refine af0 (m:=!p.mu) (x:=decide (ys 0 how<3)) (fun K2 hK2=>by refine gg_ ?_;exact hK2) (fun _ K2 hK2=>?_) fun w17 e17=>?_
  ·refine js S.holds hhow (by omega) fun w7 e7=>?_
   refine gp_ ?_
   exact hK2 _ e7
  have:=h _ (S.go e17).ext
  rw [Bool.beq_eq_decide_eq,Bool.and_assoc]
  cases hfr : (zi u.ss g.tys p.fr).2.2 with
  |false=>
   rw [hfr] at this
   simp only [Bool.and_false,Bool.false_and] at this ⊢
   exact this
  |true=>
   have hm3:=aeK hst hf hfr
   have hff:=htf hfr
   have e1 : (zi u.ss g.tys p.fr).2.1=ys 0 how:=by rw [hff]
   rw [e1] at hm3
   rw [hfr,e1] at this
   have e2 : (!(p.mu&&decide (ys 0 how=3)))=(!p.mu||decide (ys 0 how<3)):=by
    rw [Bool.not_and,← decide_not]
    congr 1
    exact decide_eq_decide.2 (by omega)
   rw [e2] at this
   exact this
 refine gg_ ?_
 refine zj (fun hop=>?_) (fun hop=>?_)
 ·rw [ptG] at h
  simp only [hop,Int.reduceEq,if_false,if_true] at h
  have S:=S.go (Ext.drew _)
  refine S.ldB (b:=b3) ?_ rfl
  refine yT (f:={ to:=true,a:=true }) (by decide) (by decide) S.holds hpr fun w14 e14=>?_
  have S:=S.go e14
  refine zg (c:=(zi u.ss g.tys p.to).2.2&&decide ((zi u.ss g.tys p.to).2.1<3)) (fun _ K2 hK2=>hK2) ?_
  refine zg (c:=(zw u.ss g.tys p.a).2) (fun _ K2 hK2=>hK2) ?_
  refine zs (c:=isK (zi u.ss g.tys p.to).1 3) (fun hb K2 hK2=>?_) fun w15 e15=>?_
  ·simp only [Bool.and_eq_true] at hb
   obtain rfl:=htt hb.1.2.1
   refine S.ldB (b:=b6) ?_ rfl
   exact zU S.holds fun w' e'=>hK2 _ e'
  have S:=S.go e15
  refine zs (c:=zR yd ((zi u.ss g.tys p.to).1.of.headD zr) (zw u.ss g.tys p.a).1) (fun hb K2 hK2=>?_) fun w16 e16=>h _ (S.go e16).ext
  simp only [Bool.and_eq_true] at hb
  have hto:=hb.1.1.2.1
  have ha2:=hb.1.2
  have hk3 : (zi u.ss g.tys p.to).1.k=3:=by have:=hb.2;simpa [isK] using this
  obtain rfl:=htt hto
  obtain rfl:=hta ha2
  obtain ⟨uu,bo,oo,q2,cap2,hof,rfl,hBu,htu,hcc⟩:=inn ht2 ⟨_,hk3,.inl rfl⟩ (kK hf hto)
  rw [hof] at hK2
  have hl1 : (zi u.ss g.tys p.to).1.of.length=1:=by rw [hof];rfl
  refine gg_ ?_
  refine zq (n:=5) (c:=tyL uu q2 cap2) rfl (fun j v hj=>by simpa using S.at (hcc j v hj)) ?_
  refine S.ldB (b:=b8) ?_ rfl
  exact ali hBu (hBa ha2) S htu ht5 fun w' e'=>hK2 _ e'
 refine gg_ ?_
 refine zj (fun hop=>?_) (fun hop=>?_)
 ·rw [ptG] at h
  simp only [hop,Int.reduceEq,if_false,if_true] at h
  refine S.ldB (b:=b3) ?_ rfl
  refine yT (f:={ to:=true,args:=true,st:=true }) (by decide) (by decide) S.holds hpr fun w14 e14=>?_
  have S:=S.go e14
  refine gg_ ?_
  refine zh (c:=!((zi u.ss g.tys p.to).2.2&&decide ((zi u.ss g.tys p.to).2.1<3))) (fun _ K2 hK2=>by refine gg_ ?_;exact hK2) ?_
  refine yw (c:=!isK (zi u.ss g.tys p.to).1 5) (fun hb K2 hK2=>?_) fun w15 e15=>?_
  ·simp only [Bool.or_eq_false_iff,Bool.not_eq_false',Bool.and_eq_true] at hb
   obtain rfl:=htt hb.2.1
   refine S.ldB (b:=b6) ?_ rfl
   refine zU S.holds fun w' e'=>?_
   refine gp_ ?_
   exact hK2 _ e'
  have S:=S.go e15
  refine zh (c:=decide ((zi u.ss g.tys p.to).1.st≠p.st)) (fun hb K2 hK2=>?_) ?_
  ·simp only [Bool.or_eq_false_iff,Bool.not_eq_false',Bool.and_eq_true] at hb
   obtain rfl:=htt hb.1.2.1
   refine gg_ ?_
   exact hK2
  refine c_b (fun hc=>?_) (fun hc=>?_)
  ·rw [bb3 hc,Bool.false_and] at h
   exact h _ S.ext
  rw [agt hc,Bool.true_and] at h
  simp only [Bool.or_eq_false_iff,Bool.not_eq_false',Bool.and_eq_true,decide_eq_false_iff_not] at hc
  obtain ⟨⟨⟨_,hto,_⟩,hk5⟩,hste⟩:=hc
  obtain rfl:=htt hto
  have S:=S.go (Ext.drew _)
  refine gg_ ?_
  refine zm (ld (i:=0) S rfl) ?_
  refine S.ldB (b:=b6) ?_ rfl
  refine aaA S.holds hss.up (by omega) (fun k=>by have:=h8 k;omega) ht2 fun qx cx sn w16 e16 n16 hts=>?_
  obtain ⟨S,_,_⟩:=S.tell e16 n16
  refine gS_ ?_
  refine gg_ ?_
  have hfb : ∀ t ∈ (ym u.ss (zi u.ss g.tys p.to).1).1,isB t=true:=fun t ht=>by
   rw [ym] at ht
   split at ht
   ·exact Fine.is (ss:=u.ss) (hf.good _ t ht) h32
   ·cases ht
  have hfl8 : (ym u.ss (zi u.ss g.tys p.to).1).1.length≤8:=by
   rw [ym]
   split
   ·exact h8 _
   ·simp
  refine QF (l:=p.args) S.holds hx0.up hst hf (k4.sl.up' inferInstance fun c x hx=>OpG.up hx) k4.few (TysG.up hts) (by simp only [maxLen];omega) hfb fun w17 e17=>?_
  exact h _ (S.go e17).ext
 refine gg_ ?_
 refine zj (fun hop=>?_) (fun hop=>?_)
 ·rw [ptG] at h
  simp only [hop,Int.reduceEq,if_false,if_true] at h
  have S:=S.go (Ext.drew _)
  refine S.ldB (b:=b3) ?_ rfl
  refine yT (f:={ to:=true,args:=true,fn:=true }) (by decide) (by decide) S.holds hpr fun w14 e14=>?_
  have S:=S.go e14
  refine gg_ ?_
  refine zh (c:=!((zi u.ss g.tys p.to).2.2&&decide ((zi u.ss g.tys p.to).2.1<3))) (fun _ K2 hK2=>by refine gg_ ?_;exact hK2) ?_
  refine zh (c:=decide (p.fn<0)) (fun _ K2 hK2=>by refine gg_ ?_;exact hK2) ?_
  refine zh (c:=decide ((u.fs.length : Int)≤p.fn)) (fun _ K2 hK2=>?_) ?_
  ·refine gg_ ?_
   refine zm (ld (i:=1) S rfl) ?_
   refine gg_ ?_
   exact hK2
  refine c_b (fun hc=>?_) (fun hc=>?_)
  ·rw [bb5 hc,Bool.false_and] at h
   exact h _ S.ext
  rw [agu hc,Bool.true_and] at h
  simp only [Bool.or_eq_false_iff,Bool.not_eq_false',Bool.and_eq_true,decide_eq_false_iff_not] at hc
  obtain ⟨⟨⟨_,hto,_⟩,hfn0⟩,hfn1⟩:=hc
  obtain rfl:=htt hto
  have hltf : p.fn.toNat<u.fs.length:=by omega
  rw [List.getElem?_eq_getElem hltf] at h
  dsimp only at h
  obtain ⟨hpn0,hpn1,hff⟩:=hfs _ (List.getElem_mem hltf)
  obtain ⟨bf,of,cf,rfl,hcf,hgc,hfo⟩:=hfn.sl.get (by decide) hltf
  generalize u.fs[p.fn.toNat]=f at h hpn0 hpn1 hff hgc
  obtain ⟨vo,vt,vn,vp,rfl,m1,m2,m3,m4⟩:=hgc
  obtain ⟨qo,capo,rfl,_,_⟩:=m1.sl.shape
  obtain ⟨qt2,capt2,rfl,_,hct2⟩:=m2.sl.shape
  obtain ⟨qn,capn,rfl,_,_⟩:=m3.sl.shape
  obtain ⟨qp,capp,rfl,_,_⟩:=m4.sl.shape
  have hml:=m2.few
  have hml' : f.tys.length≤9223372036854775807:=hml
  have S:=S.go (Ext.drew _)
  refine gg_ ?_
  refine zm (ld (i:=1) S rfl) ?_
  refine gg_ ?_
  refine zq (n:=7) hcf (fun j v hj=>S.at (hfo j v hj)) ?_
  refine S.alU fun b18 w15 S=>?_
  refine S.stB (b:=b18) fun w16 S=>?_
  have S:=S.go (Ext.drew _)
  refine gg_ ?_
  have hlen : (f.pn+1).toNat - (1 : Int).toNat=((f.tys.drop 1).take f.pn.toNat).length:=by rw [List.length_take,List.length_drop];omega
  rw [hlen]
  have hsub:=(xg m2.sl).sub (a:=(1 : Int).toNat) (n:=f.pn.toNat) (cap:=capt2) hct2
  have hlst : (f.tys.drop (1 : Int).toNat).take f.pn.toNat=(f.tys.drop 1).take f.pn.toNat:=rfl
  rw [hlst] at hsub
  generalize (if capt2=(1 : Int).toNat then qt2 else qt2.map (·.add ((1 : Int).toNat*5)))=qs2 at hsub ⊢
  have hpb : ∀ t ∈ (f.tys.drop 1).take f.pn.toNat,isB t=true:=fun t ht=>(hff.all t (List.mem_of_mem_drop (List.mem_of_mem_take ht))).is h32
  refine QF (l:=p.args) S.holds hx0.up hst hf (k4.sl.up' inferInstance fun c x hx=>OpG.up hx) k4.few (TysG.up hsub) (by rw [List.length_take,List.length_drop];omega) hpb fun w17 e17=>?_
  have S:=S.go e17
  have hpos : 0<f.tys.length:=by omega
  have hhd : f.tys.headD zr=f.tys[0]:=by rw [List.headD_eq_head?_getD,List.head?_eq_getElem?,List.getElem?_eq_getElem hpos,Option.getD_some]
  rw [hhd] at h
  refine zs (c:=zR yd (zi u.ss g.tys p.to).1 f.tys[0]) (fun _ K2 hK2=>?_) fun w18 e18=>?_
  ·obtain ⟨bt,ot,ct3,rfl,hct3,htc,hto3⟩:=xg m2.sl 0 hpos
   obtain ⟨q9,cap9,rfl,ht9⟩:=zV hto3
   refine S.ldB (b:=b6) ?_ rfl
   refine gg_ ?_
   refine zq (n:=5) hct3 (fun j v hj=>by simpa using S.at (htc j v hj)) ?_
   exact ali (hBto hto) ((hff.all _ (List.getElem_mem hpos)).is h32) S ht2 ht9.up fun w' e'=>hK2 _ e'
  have:=h _ (S.go e18).ext
  rw [Bool.and_comm] at this
  exact this
 refine gg_ ?_
 refine zj (fun hop=>?_) (fun hop=>?_)
 ·rw [ptG] at h
  simp only [hop,Int.reduceEq,if_false,if_true] at h
  refine S.ldB (b:=b3) ?_ rfl
  refine yT (f:={ to:=true }) (by decide) (by decide) S.holds hpr fun w14 e14=>?_
  have S:=S.go e14
  refine zg (c:=(zi u.ss g.tys p.to).2.2&&decide ((zi u.ss g.tys p.to).2.1<3)) (fun _ K2 hK2=>hK2) ?_
  refine zs (c:=isK (zi u.ss g.tys p.to).1 1) (fun hb K2 hK2=>?_) fun w15 e15=>h _ (S.go e15).ext
  simp only [Bool.and_eq_true] at hb
  obtain rfl:=htt hb.2.1
  refine S.ldB (b:=b6) ?_ rfl
  exact zU S.holds fun w' e'=>hK2 _ e'
 refine gg_ ?_
 refine zj (fun hop=>?_) (fun hop=>?_)
 ·rw [ptG] at h
  simp only [hop,Int.reduceEq,if_false,if_true] at h
  refine S.ldB (b:=b3) ?_ rfl
  refine yT (f:={ a:=true }) (by decide) (by decide) S.holds hpr fun w14 e14=>?_
  have S:=S.go e14
  refine zg (c:=(zw u.ss g.tys p.a).2) (fun _ K2 hK2=>hK2) ?_
  refine zs (c:=isK (zw u.ss g.tys p.a).1 1) (fun hb K2 hK2=>?_) fun w15 e15=>h _ (S.go e15).ext
  simp only [Bool.and_eq_true] at hb
  obtain rfl:=hta hb.2
  refine S.ldB (b:=b8) ?_ rfl
  exact zU S.holds fun w' e'=>hK2 _ e'
 refine gg_ ?_
 refine zj (fun hop=>?_) (fun hop=>?_)
 ·rw [ptG] at h
  simp only [hop,Int.reduceEq,if_false,if_true] at h
  have S:=S.go (Ext.drew _)
  refine gg_ ?_
  refine zm (ld (i:=0) S rfl) ?_
  refine S.ldB (b:=b12) ?_ rfl
  refine abE S.holds hss.up (by omega) (fun k=>by have:=h8 k;omega) ht11 fun w14 e14=>?_
  have S:=S.go e14
  refine gS_ ?_
  refine S.ldB (b:=b3) ?_ rfl
  refine yT (f:={ fr:=true }) (by decide) (by decide) S.holds hpr fun w15 e15=>?_
  have S:=S.go e15
  refine zg (c:=(zi u.ss g.tys p.fr).2.2) (fun _ K2 hK2=>hK2) ?_
  refine zg (c:=(x9 u.ss tf).1) (fun _ K2 hK2=>hK2) ?_
  refine zs (c:=decide (ys 0 how<2)) (fun _ K2 hK2=>?_) fun w16 e16=>?_
  ·refine js S.holds hhow (by omega) fun w7 e7=>?_
   refine gp_ ?_
   exact hK2 _ e7
  have:=h _ (S.go e16).ext
  cases hfr : (zi u.ss g.tys p.fr).2.2 with
  |false=>
   rw [hfr] at this
   simp only [Bool.and_false,Bool.false_and] at this ⊢
   exact this
  |true=>
   rw [htf hfr] at this
   exact this
 refine gg_ ?_
 refine zj (fun hop=>?_) (fun hop=>?_)
 ·rw [ptG] at h
  simp only [hop,Int.reduceEq,if_false,if_true] at h
  refine S.ldB (b:=b3) ?_ rfl
  refine yT (f:={ fr:=true }) (by decide) (by decide) S.holds hpr fun w14 e14=>?_
  have S:=S.go e14
  refine zg (c:=(zi u.ss g.tys p.fr).2.2) (fun _ K2 hK2=>hK2) ?_
  refine zg (c:=decide (0<p.fr.l)) (fun _ K2 hK2=>by refine gg_ ?_;exact hK2) ?_
  refine zg (c:=decide (p.fr.ps.length=0)) (fun _ K2 hK2=>?_) (h _ S.ext)
  refine gg_ ?_
  rw [decide_eq_decide.2 (xU p.fr.ps.length)]
  exact hK2
 refine gg_ ?_
 refine zj (fun hop=>?_) (fun hop=>?_)
 ·rw [ptG] at h
  simp only [hop,Int.reduceEq,if_false,if_true] at h
  refine S.ldB (b:=b3) ?_ rfl
  refine yT (f:={ a:=true,el:=true }) (by decide) (by decide) S.holds hpr fun w14 e14=>?_
  have S:=S.go e14
  refine zg (c:=(zw u.ss g.tys p.a).2) (fun _ K2 hK2=>hK2) ?_
  refine zs (c:=isK (zw u.ss g.tys p.a).1 2) (fun hb K2 hK2=>?_) fun w15 e15=>?_
  ·simp only [Bool.and_eq_true] at hb
   obtain rfl:=hta hb.2
   refine S.ldB (b:=b8) ?_ rfl
   exact zU S.holds fun w' e'=>hK2 _ e'
  have S:=S.go e15
  refine zg (c:=decide (0≤p.el)) (fun _ K2 hK2=>by refine gg_ ?_;exact hK2) ?_
  refine zg (c:=decide (p.el<(g.pts.length : Int))) (fun _ K2 hK2=>by refine gg_ ?_;exact hK2) ?_
  have:=h _ S.ext
  rw [YB,← Bool.and_assoc] at this
  exact this
 intro K11 hK11
 refine gg_ ?_
 refine xR (c:=decide (p.op=14)) (hK11 _ _ fun _=>?_) fun _ hk=>?_
 rotate_left
 ·refine gg_ ?_;exact hk
 simp only [List.getD_cons_zero]
 rw [ptG] at h
 rw [if_neg (by omega),if_neg (by omega),if_neg (by omega),if_neg (by omega),if_neg (by omega),if_neg (by omega),if_neg (by omega),if_neg (by omega),if_neg (by omega),if_neg (by omega),if_neg (by omega),if_neg (by omega)] at h
 refine c_b (fun hh=>?_) (fun hh=>?_)
 ·have hh : p.op=13∨p.op=14:=by simpa using hh
  rw [if_pos hh] at h
  refine S.ldB (b:=b3) ?_ rfl
  refine yT (f:={}) (by decide) (by decide) S.holds hpr fun w14 e14=>?_
  exact h _ (S.go e14).ext
 ·have hh : ¬ (p.op=13∨p.op=14):=by simpa using hh
  rw [if_neg hh] at h
  exact h _ S.ext
end Go.Proofs
end
section
namespace Go.Sh
theorem aft {w : World} {b x y z : Bool} {A1 : (List Value→World→Prop)→Prop} {A2 A3 : (List Value→World→Prop)→World→Prop} {Z : Value→World→Prop}
  (h1 : b=true→∀ K : List Value→World→Prop,K [.bool x] w→A1 K) (h2 : b=true→∀ K : List Value→World→Prop,K [.bool y] w→A2 K w) (h3 : b=true→∀ K : List Value→World→Prop,K [.bool z] w→A3 K w)
  (hZ : Z (.bool (b&&(x||(y&&z)))) w) :
  za (fun K=>gIf (.bool b) true (A1 K) (K [undef] w)) fun s80 _ w82=>
   za (fun K=>gIf (s80.getD 0 undef) false (A2 K w82) (K [undef] w82)) fun s84 _ w86=>
    za (fun K=>gIf (s84.getD 0 undef) true (A3 K w86) (K [undef] w86)) fun s88 _ w90=>
     za (fun K=>gIf (s80.getD 0 undef) false (zb (s84.getD 0 undef) (s88.getD 0 undef) (.bool false) fun t=>K [t] w90) (K [undef] w90)) fun s92 _ w94=>
      za (fun K=>gIf (.bool b) true (zb (s80.getD 0 undef) (.bool true) (s92.getD 0 undef) fun t=>K [t] w94) (K [undef] w94)) fun s96 _ w98=>
       zb (.bool b) (s96.getD 0 undef) (.bool false) fun t=>Z t w98:=by
 cases b<;>cases x<;>cases y<;>cases z <;>
  (iterate 5 (intro K hK;first|refine hK _ _ fun _=>?_|refine h1 rfl _ (hK _ _ fun _=>?_)|refine h2 rfl _ (hK _ _ fun _=>?_)|refine h3 rfl _ (hK _ _ fun _=>?_)|refine ⟨_,rfl,hK _ _ fun _=>?_⟩)) <;>
  exact ⟨_,rfl,by simpa using hZ⟩
theorem agA {w : World} {b c d e : Bool} {A1 : (List Value→World→Prop)→Prop} {A2 A3 : (List Value→World→Prop)→World→Prop} {Z : Value→World→Prop}
  (h1 : ∀ K : List Value→World→Prop,K [.bool c] w→A1 K) (h2 : ∀ K : List Value→World→Prop,K [.bool d] w→A2 K w) (h3 : ∀ K : List Value→World→Prop,K [.bool e] w→A3 K w)
  (hZ : Z (.bool (b||((c&&d)&&e))) w) :
  za (fun K=>gIf (.bool b) false (A1 K) (K [undef] w)) fun s153 _ w155=>
   za (fun K=>gIf (s153.getD 0 undef) true (A2 K w155) (K [undef] w155)) fun s157 _ w159=>
    za (fun K=>gIf (.bool b) false (zb (s153.getD 0 undef) (s157.getD 0 undef) (.bool false) fun t=>K [t] w159) (K [undef] w159)) fun s161 _ w163=>
     za (fun K=>gIf (s161.getD 0 undef) true (A3 K w163) (K [undef] w163)) fun s165 _ w167=>
      za (fun K=>gIf (.bool b) false (zb (s161.getD 0 undef) (s165.getD 0 undef) (.bool false) fun t=>K [t] w167) (K [undef] w167)) fun s169 _ w171=>
       zb (.bool b) (.bool true) (s169.getD 0 undef) fun t=>Z t w171:=by
 cases b<;>cases c<;>cases d<;>cases e <;>
  (iterate 5 (intro K hK;first|refine hK _ _ fun _=>?_|refine h1 _ (hK _ _ fun _=>?_)|refine h2 _ (hK _ _ fun _=>?_)|refine h3 _ (hK _ _ fun _=>?_)|refine ⟨_,rfl,hK _ _ fun _=>?_⟩)) <;>
  exact ⟨_,rfl,by simpa using hZ⟩
end Go.Sh
namespace Go.Proofs
open Go.Sh
set_option maxRecDepth 100000
set_option linter.unusedSimpArgs false
set_option linter.unusedVariables false
set_option maxHeartbeats 1000000 in
theorem ac0 {bt : Nat} {M : List Asr} {w0 : World} {r : Gh} {t : TyD} {v : Value} {f : Nat→Nat→Bool} {w : World} {K : Value→World→Prop} (hv : TyG r v t) (hx : ∀ x ∈ regsT t,0≤x∧x<8)
  (S : StX noX w0 r w (.cell bt (zM f) 130::M))
  (h : ∀ w',StX noX w0 r w' (.cell bt (zM (Xj f (regsT t))) 130::M)→K (.tuple #[]) w') : ze Tryz.prog Tryz.Zq #[v,.pointer (some ⟨bt,0,none⟩)] w K:=by
 refine Tryz.abm ?_
 unfold Tryz.XX
 have hv0:=hv
 obtain ⟨p1,cap1,rfl,_⟩:=hv
 refine S.box fun b2 w1 S=>?_
 have S : StX noX w0 r w1 (.cell b2 (tyL t p1 cap1) 31 :: .cell bt (zM f) 130::M):=S
 refine S.ldB (b:=b2) ?_ rfl
 refine Yb S.holds hv0 fun v7 w7 e7 o7=>?_
 obtain ⟨s1,p7,cap7,n7,nb7,rfl,_,hc7,hs7⟩:=ace o7
 have S:=(S.new e7 n7).tl
 have hr48 : (regsT t).length≤1000:=by
  rw [regsT];split
  ·have:=xO (by assumption);omega
  ·simp
 generalize regsT t=l at hx h hs7 hr48 ⊢
 refine zk (ι:=Nat × (Nat→Nat→Bool)) (fun i=>[.int .i64 (i.1 : Nat)]) (fun i w'=>i.1≤l.length∧(∀ x y : Nat,Xj i.2 (l.drop i.1) x y=Xj f l x y)∧StX noX w0 (r.or s1) w' (.cell bt (zM i.2) 130::M)) (fun i=>l.length - i.1) (0,f) rfl ⟨Nat.zero_le _,fun x y=>rfl,S⟩ ?_
 clear S
 rintro ⟨i,g⟩ d w2 ⟨hi,hbit,S⟩ K3 hK3
 simp only at hi hbit S ⊢
 rw [List.getD_cons_zero]
 refine gg_ ?_
 refine zj (fun hlt=>?_) (fun hge=>?_)
 rotate_left
 ·have hie : i=l.length:=by omega
  refine h _ ?_
  have e : zM g=zM (Xj f l):=yr fun x y _ _=>by
   have:=hbit x y
   rw [hie,List.drop_length] at this
   rw [← this]
   show g x y=(g x y||xX x y [])
   rw [xX,Bool.or_false]
  rw [← e]
  exact S.to r
 have hlt : i<l.length:=by omega
 have hdrop : l.drop i=l[i]::l.drop (i+1):=List.drop_eq_getElem_cons hlt
 obtain ⟨ha0,ha8⟩:=hx _ (List.getElem_mem hlt)
 obtain ⟨bq,oq,rfl,hxi⟩:=adZ hs7 (S.holds.le (h:=inferInstance)) hlt
 generalize hai : l[i]=a at hdrop ha0 ha8 hxi
 have hrl : (l.drop (i+1)).length=l.length - (i+1):=List.length_drop
 refine gg_ ?_
 refine zk (ι:=Nat) (fun j=>[.int .i64 ((i : Int)+1+(j : Nat))]) (fun j w'=>j≤(l.drop (i+1)).length∧StX noX w0 (r.or s1) w' (.cell bt (zM (vK g a ((l.drop (i+1)).take j))) 130::M)) (fun j=>(l.drop (i+1)).length - j) 0 (by simp) ⟨Nat.zero_le _,by
  rw [yr (f:=vK g a ((l.drop (i+1)).take 0)) (g:=g) (fun x y _ _=>by simp [vK])]
  exact S⟩ ?_
 clear S
 rintro j d w3 ⟨hj,S⟩ K7 hK7
 rw [List.getD_cons_zero]
 refine gg_ ?_
 refine zj (fun hlt2=>?_) (fun hge2=>?_)
 ·have hlt2 : j<(l.drop (i+1)).length:=by omega
  have hlt3 : i+1+j<l.length:=by omega
  have hel : (l.drop (i+1))[j]=l[i+1+j]:=List.getElem_drop
  obtain ⟨bk,ok,hbe,hxk⟩:=adZ hs7 (S.holds.le (h:=inferInstance)) hlt3
  cases hbe
  obtain ⟨hi0,hi8⟩:=hx _ (List.getElem_mem hlt3)
  have S:=S.go (Ext.drew _)
  rw [show ((i : Int)+1+(j : Nat))=((i+1+j : Nat) : Int) by omega]
  refine gg_ ?_
  refine zm (by rw [Int.toNat_natCast];exact S.at hxk) ?_
  refine gg_ ?_
  refine zm (by simpa using S.at hxi) ?_
  refine gg_ ?_
  refine S.st (b:=bt) (fun w4 S=>?_) (by rw [qI];omega)
  refine gg_ ?_
  rw [show (((i+1+j : Nat) : Int)+1)=((i : Int)+1+((j+1 : Nat) : Int)) by omega]
  refine hK7 (j+1) _ ⟨hlt2,?_⟩ (by omega)
  rw [show 0+l[i+1+j].toNat*8+a.toNat*1=l[i+1+j].toNat*8+a.toNat by omega,Xh (by omega) (by omega)] at S
  rw [yr (f:=vK g a ((l.drop (i+1)).take (j+1))) (g:=fun x y=>vK g a ((l.drop (i+1)).take j) x y||(decide (x=l[i+1+j].toNat)&&decide (y=a.toNat))) (fun x y _ _=>by
   show (g x y||(decide (a=(y : Int))&&((l.drop (i+1)).take (j+1)).contains (x : Int)))=((g x y||(decide (a=(y : Int))&&((l.drop (i+1)).take j).contains (x : Int)))||(decide (x=l[i+1+j].toNat)&&decide (y=a.toNat)))
   rw [acJ hlt2,hel,show decide ((x : Int)=l[i+1+j])=decide (x=l[i+1+j].toNat) from decide_eq_decide.2 (by omega),show decide (a=(y : Int))=decide (y=a.toNat) from decide_eq_decide.2 (by omega)]
   cases g x y<;>cases decide (y=a.toNat)<;>cases ((l.drop (i+1)).take j).contains (x : Int)<;>cases decide (x=l[i+1+j].toNat)<;>rfl)]
  exact S
 ·have hje : j=(l.drop (i+1)).length:=by omega
  rw [hje,List.take_length] at S
  refine gg_ ?_
  rw [show ((i : Int)+1)=((i+1 : Nat) : Int) by omega]
  refine hK3 (i+1,vK g a (l.drop (i+1))) _ ⟨hlt,fun x y=>?_,S⟩ (by simp only;omega)
  rw [← hbit x y,hdrop]
  show ((g x y||(decide (a=(y : Int))&&(l.drop (i+1)).contains (x : Int)))||xX x y (l.drop (i+1)))=(g x y||xX x y (a::l.drop (i+1)))
  rw [aba,Bool.or_assoc]
end Go.Proofs
end
section
namespace Go.Proofs
open Go.Sh
set_option maxRecDepth 100000
set_option linter.unusedSimpArgs false
set_option linter.unusedVariables false
set_option maxHeartbeats 8000000 in
theorem ac1 {u : UnD} {i : Nat} {v : Value} {w : World} {r : Gh} {K : Value→World→Prop} (hi : i<u.fs.length) (hok : (zz u.ss).2=0) (hr : Holds r w) (hu : UnG r v u)
  (h : ∀ w',Ext w w'→K (.bool (yK u i u.fs[i])) w') : ze Tryz.prog Tryz.Zp #[v,.int .i64 (i : Nat)] w K:=by
 obtain ⟨p0,cap0,vf,rfl,_,_,hst,hsl,hfn⟩:=hu
 obtain ⟨qf,capf,rfl,_,_⟩:=hfn.sl.shape
 obtain ⟨bf,of,cf,rfl,hcf,hgc,hfo⟩:=hfn.sl.get (by decide) hi
 have hfl : u.fs.length≤9223372036854775807:=hfn.few
 refine Tryz.abl ?_
 unfold Tryz.XW
 generalize hgi : u.fs[i]=g at h hgc
 obtain ⟨vo,vt,vn,vp,rfl,h1,h2,h3,h4⟩:=id hgc
 obtain ⟨qo,capo,rfl,_,_⟩:=h1.sl.shape
 obtain ⟨qt,capt,rfl,_,hct⟩:=h2.sl.shape
 obtain ⟨qn,capn,rfl,_,_⟩:=h3.sl.shape
 obtain ⟨qp,capp,rfl,_,_⟩:=h4.sl.shape
 have hptl : g.pts.length≤9223372036854775807:=h4.few
 have htl : g.tys.length≤9223372036854775807:=h2.few
 have hol : g.outs.length≤9223372036854775807:=h1.few
 have S:=St.start hr
 refine S.box fun b2 w1 S=>?_
 have S : StX noX w r w1 [.cell b2 [.slice p0 u.ss.length cap0,.slice (some ⟨bf,of,none⟩) u.fs.length capf,.int .i64 u.mn] 25]:=S
 refine gg_ ?_
 refine zq (n:=7) hcf (fun j v hj=>by rw [Int.toNat_natCast];exact S.at (hfo j v hj)) ?_
 refine S.al fun b5 w2 S=>?_
 refine S.stB (b:=b5) fun w3 S=>?_
 have S : StX noX w r w3 [.cell b5 [.string g.name,.int .i64 g.lv,.slice qo g.outs.length capo,.int .i64 g.pn,.slice qt g.tys.length capt,.slice qn g.nms.length capn,.slice qp g.pts.length capp] 58,
  .cell b2 [.slice p0 u.ss.length cap0,.slice (some ⟨bf,of,none⟩) u.fs.length capf,.int .i64 u.mn] 25]:=S
 refine gg_ ?_
 have no : (HeadU u i g→False)→yK u i g=false:=fun hh=>by
  cases e : yK u i g
  ·rfl
  ·exact (hh (V0 e)).elim
 refine zh (c:=decide (8<g.lv)) (fun _ K2 hK2=>by refine gg_ ?_;exact hK2) ?_
 refine zh (c:=decide (g.pn<0)) (fun _ K2 hK2=>by refine gg_ ?_;exact hK2) ?_
 refine zh (c:=decide (8<g.pn)) (fun _ K2 hK2=>by refine gg_ ?_;exact hK2) ?_
 refine zh (c:=decide ((g.tys.length : Int)≤g.pn)) (fun _ K2 hK2=>by refine gg_ ?_;exact hK2) ?_
 refine zh (c:=decide (512<g.tys.length)) (fun _ K2 hK2=>?_) ?_
 ·refine gg_ ?_
  rw [show decide ((512 : Int)<(g.tys.length : Int))=decide (512<g.tys.length) from decide_eq_decide.2 (by omega)]
  exact hK2
 refine zh (c:=decide (g.nms.length≠g.tys.length)) (fun _ K2 hK2=>?_) ?_
 ·refine gg_ ?_
  rw [V1]
  exact hK2
 refine c_b (fun hbad=>?_) (fun hgood=>?_)
 ·rw [no fun H=>by
   have:=H.lv0;have:=H.lv8;have:=H.pn0;have:=H.pn8;have:=H.pn1;have:=H.ty512;have:=H.nms
   simp only [Bool.or_eq_true,decide_eq_true_eq] at hbad;omega] at h
  exact h _ S.ext
 have hnum : (0≤g.lv∧g.lv≤8∧0≤g.pn∧g.pn≤8)∧g.pn<g.tys.length∧g.tys.length≤512∧g.nms.length=g.tys.length:=by
  simp only [Bool.or_eq_false_iff,decide_eq_false_iff_not] at hgood;omega
 clear hgood
 obtain ⟨⟨hlv0,hlv8,hpn0,hpn8⟩,hpn1,hty,hnm⟩:=hnum
 refine zk (ι:=Nat) (fun i=>[.int .i64 (i : Nat)]) (fun j w'=>j≤g.tys.length∧qc u g j (g.tys.drop j)=qc u g 0 g.tys∧StX noX w r w' [.cell b5 [.string g.name,.int .i64 g.lv,.slice qo g.outs.length capo,.int .i64 g.pn,.slice qt g.tys.length capt,.slice qn g.nms.length capn,.slice qp g.pts.length capp] 58,
  .cell b2 [.slice p0 u.ss.length cap0,.slice (some ⟨bf,of,none⟩) u.fs.length capf,.int .i64 u.mn] 25]) (fun i=>g.tys.length - i) 0 rfl ⟨Nat.zero_le _,rfl,S⟩ ?_
 clear S
 rintro j d w5 ⟨hj,hd,S⟩ K6 hK6
 rw [List.getD_cons_zero]
 refine gg_ ?_
 refine zj (fun hlt=>?_) (fun hge=>?_)
 ·have hlt : j<g.tys.length:=by omega
  obtain ⟨bt,ot,ct,rfl,hct,htc,hcell⟩:=h2.sl.get (by decide) hlt
  obtain ⟨q2,cap2,rfl,ht2⟩:=zV htc
  rw [abg hlt] at hd
  have S:=S.go (Ext.drew _)
  refine gg_ ?_
  refine zq (n:=5) hct (fun j v hj=>by rw [Int.toNat_natCast];exact S.at (hcell j v hj)) ?_
  refine gg_ ?_
  refine jq 48 (by decide) S.holds ht2 fun w8 e8=>?_
  have S:=S.go e8
  rw [acE]
  refine gp_ ?_
  have hmay : zK u.ss g.tys[j]=zy u.ss.length 48 g.tys[j]:=by rw [zK,decide_eq_true hok,Bool.true_and]
  rw [← hmay]
  refine c_b (fun hm=>?_) (fun hm=>?_)
  ·have hm : zK u.ss g.tys[j]=false:=by simpa using hm
   rw [no fun H=>by
    have:=H.tys
    rw [← hd,tyG,hm,Bool.false_and,Bool.false_and] at this;cases this] at h
   exact h _ S.ext
  have hm : zK u.ss g.tys[j]=true:=by simpa using hm
  refine gg_ ?_
  refine zq (n:=5) hct (fun j v hj=>by rw [Int.toNat_natCast];exact S.at (hcell j v hj)) ?_
  refine Yb S.holds ht2 fun v7 w12 e12 o12=>?_
  obtain ⟨s7,p7,cap7,n7,nb7,rfl,_,_,hs7⟩:=ace o12
  have S:=S.new e12 n7
  have hlow : ∀ x ∈ regsT g.tys[j],-1≤x:=fun x hx=>by
   rw [regsT] at hx
   split at hx
   ·exact afb 48 (jn hm).2 x hx
   ·cases hx
  have hr48 : (regsT g.tys[j]).length≤1000:=by
   rw [regsT];split
   ·have:=xO (by assumption);omega
   ·simp
  have hty2 : tyG u g j g.tys[j] = !((regsT g.tys[j]).any fun x=>decide (g.lv≤x)||(decide ((j : Int)≤g.pn)&&decide (x<0))):=by
   rw [adB,hm,Bool.true_and]
   congr 1
   rw [Bool.eq_iff_iff,List.any_eq_true,List.any_eq_true]
   constructor<;>rintro ⟨x,hx,hc⟩<;>refine ⟨x,hx,?_⟩<;>have:=hlow x hx<;>simp only [Bool.or_eq_true,Bool.and_eq_true,decide_eq_true_eq] at hc ⊢
   ·rcases hc with hc|hc
    ·split at hc
     ·exact .inr ⟨by assumption,hc⟩
     ·omega
    ·exact .inl hc
   ·rcases hc with hc|⟨hc,hc2⟩
    ·exact .inr hc
    ·rw [if_pos hc];exact .inl hc2
  generalize regsT g.tys[j]=l at hs7 hr48 hty2 ⊢
  refine zk (ι:=Nat) (fun k=>[.int .i64 (k : Nat)]) (fun k w'=>k≤l.length∧((l.take k).any fun x=>decide (g.lv≤x)||(decide ((j : Int)≤g.pn)&&decide (x<0)))=false∧StX noX w (r.or s7) w' [.cell b5 [.string g.name,.int .i64 g.lv,.slice qo g.outs.length capo,.int .i64 g.pn,.slice (some ⟨bt,ot,none⟩) g.tys.length capt,.slice qn g.nms.length capn,.slice qp g.pts.length capp] 58,
   .cell b2 [.slice p0 u.ss.length cap0,.slice (some ⟨bf,of,none⟩) u.fs.length capf,.int .i64 u.mn] 25]) (fun k=>l.length - k) 0 rfl ⟨Nat.zero_le _,by simp,S⟩ ?_
  clear S
  rintro k d w13 ⟨hk,hany,S⟩ K7 hK7
  rw [List.getD_cons_zero]
  refine gg_ ?_
  refine zj (fun hlt2=>?_) (fun hge2=>?_)
  ·have hlt2 : k<l.length:=by omega
   obtain ⟨bk,ok,rfl,hxk⟩:=adZ hs7 (S.holds.le (h:=inferInstance)) hlt2
   have S:=S.go (Ext.drew _)
   refine gg_ ?_
   refine zm (by simpa using S.at hxk) ?_
   refine gg_ ?_
   refine jS (g:=decide ((j : Int)≤g.pn)) (c:=decide (l[k]<0)) (fun _ K2 hK2=>by refine gg_ ?_;exact hK2) (fun _ K2 hK2=>?_) ?_
   ·refine gg_ ?_
    refine zm (by simpa using S.at hxk) ?_
    refine gg_ ?_
    exact hK2
   refine c_b (fun hbad=>?_) (fun hgood=>?_)
   ·have hA : (l.any fun x=>decide (g.lv≤x)||(decide ((j : Int)≤g.pn)&&decide (x<0)))=true:=List.any_eq_true.2 ⟨_,List.getElem_mem hlt2,hbad⟩
    rw [hty2,hA,Bool.not_true,Bool.false_and] at hd
    rw [no fun H=>by have:=H.tys;rw [← hd] at this;cases this] at h
    exact h _ S.ext
   ·refine gg_ ?_
    rw [show ((k : Int)+1)=((k+1 : Nat) : Int) by omega]
    refine hK7 (k+1) _ ⟨hlt2,?_,S⟩ (by omega)
    rw [List.take_succ_eq_append_getElem hlt2,List.any_append,hany]
    simp only [List.any_cons,List.any_nil,Bool.false_or,Bool.or_false]
    exact hgood
  ·have hke : k=l.length:=by omega
   rw [hke,List.take_length] at hany
   rw [hty2,hany,Bool.not_false,Bool.true_and] at hd
   refine gg_ ?_
   rw [show ((j : Int)+1)=((j+1 : Nat) : Int) by omega]
   exact hK6 (j+1) _ ⟨hlt,hd,S.to r⟩ (by omega)
 have hje : j=g.tys.length:=by omega
 rw [hje,List.drop_length] at hd
 have htys : qc u g 0 g.tys=true:=hd.symm
 clear hd hK6 K6 hge hj hje
 refine S.al fun b9 w20 S=>?_
 refine S.al fun b10 w21 S=>?_
 have S : StX noX w r w21 [.cell b9 (zM fun _ _=>false) 130,.cell b10 (zM fun _ _=>false) 130,.cell b5 [.string g.name,.int .i64 g.lv,.slice qo g.outs.length capo,.int .i64 g.pn,.slice qt g.tys.length capt,.slice qn g.nms.length capn,.slice qp g.pts.length capp] 58,
  .cell b2 [.slice p0 u.ss.length cap0,.slice (some ⟨bf,of,none⟩) u.fs.length capf,.int .i64 u.mn] 25]:=S.swap
 refine zk (ι:=Nat) (fun i=>[.int .i64 (i : Nat)]) (fun j w'=>j≤g.pn.toNat+1∧StX noX w r w' [.cell b9 (zM (muF (g.tys.take j))) 130,.cell b10 (zM fun _ _=>false) 130,.cell b5 [.string g.name,.int .i64 g.lv,.slice qo g.outs.length capo,.int .i64 g.pn,.slice qt g.tys.length capt,.slice qn g.nms.length capn,.slice qp g.pts.length capp] 58,
  .cell b2 [.slice p0 u.ss.length cap0,.slice (some ⟨bf,of,none⟩) u.fs.length capf,.int .i64 u.mn] 25]) (fun i=>g.pn.toNat+1 - i) 0 rfl ⟨Nat.zero_le _,by
   rw [yr (f:=muF (g.tys.take 0)) (g:=fun _ _=>false) (fun x y _ _=>by simp [muF,qA])]
   exact S⟩ ?_
 clear S
 rintro j d w22 ⟨hj,S⟩ K6 hK6
 rw [List.getD_cons_zero]
 refine gg_ ?_
 refine zj (fun hlt=>?_) (fun hge=>?_)
 ·have hlt : j<g.tys.length:=by omega
  obtain ⟨bt,ot,ct,rfl,hct,htc,hcell⟩:=h2.sl.get (by decide) hlt
  obtain ⟨q2,cap2,rfl,ht2⟩:=zV htc
  refine gg_ ?_
  refine zq (n:=5) hct (fun j v hj=>by rw [Int.toNat_natCast];exact S.at (hcell j v hj)) ?_
  have hreg : ∀ x ∈ regsT g.tys[j],0≤x∧x<8:=fun x hx=>by
   have:=ZO htys (j:=j) hlt (by omega) x hx
   omega
  refine ac0 ht2 hreg S fun w23 S=>?_
  refine gg_ ?_
  rw [show ((j : Int)+1)=((j+1 : Nat) : Int) by omega]
  refine hK6 (j+1) _ ⟨by omega,?_⟩ (by omega)
  rw [yr (f:=muF (g.tys.take (j+1))) (g:=Xj (muF (g.tys.take j)) (regsT g.tys[j])) (fun x y _ _=>abb hlt)]
  exact S
 have hje : j=g.pn.toNat+1:=by omega
 rw [hje] at S
 clear hK6 K6 hge hj hje
 have hout : kW g=true↔kq g.lv none g.outs=true∧(List.range g.lv.toNat).all (clF g.lv.toNat (muF (g.tys.take (g.pn.toNat+1))) (syF g.outs))=true:=by
  rw [kW,← abe,adA,Bool.and_eq_true]
 have nout : kW g=false→yK u i g=false:=fun e=>no fun H=>by have:=H.outs;rw [e] at this;cases this
 generalize hmu : muF (g.tys.take (g.pn.toNat+1))=mu at hout S
 refine zk (ι:=Nat) (fun i=>[.int .i64 (i : Nat)]) (fun i w'=>i≤g.outs.length∧kq g.lv (kz g.outs i) (g.outs.drop i)=kq g.lv none g.outs∧
  StX noX w r w' [.cell b9 (zM mu) 130,.cell b10 (zM (syF (g.outs.take i))) 130,.cell b5 [.string g.name,.int .i64 g.lv,.slice qo g.outs.length capo,.int .i64 g.pn,.slice qt g.tys.length capt,.slice qn g.nms.length capn,.slice qp g.pts.length capp] 58,
  .cell b2 [.slice p0 u.ss.length cap0,.slice (some ⟨bf,of,none⟩) u.fs.length capf,.int .i64 u.mn] 25]) (fun i=>g.outs.length - i) 0 rfl
  ⟨Nat.zero_le _,rfl,by
   rw [yr (f:=syF (g.outs.take 0)) (g:=fun _ _=>false) (fun x y _ _=>by simp [syF,kV])]
   exact S⟩ ?_
 clear S
 rintro k d w24 ⟨hk,hd,S⟩ K6 hK6
 rw [List.getD_cons_zero]
 refine gg_ ?_
 refine zj (fun hlt=>?_) (fun hge=>?_)
 ·have hlt : k<g.outs.length:=by omega
  obtain ⟨bo,oo,co,rfl,hco,hoo,hoc⟩:=h1.sl.get (by decide) hlt
  obtain rfl : co=_:=hoo
  rw [acL hlt] at hd
  have hgo:=fun (j : Nat) (hj : j<g.outs.length)=>h1.sl.get (by decide) hj
  obtain ⟨⟨o1,o2⟩,ho⟩ : ∃ o,g.outs[k]=o:=⟨_,rfl⟩
  rw [ho] at hd
  have hst : syF (g.outs.take (k+1))=fun x y=>syF (g.outs.take k) x y||(decide ((x : Int)=o1)&&decide ((y : Int)=o2)):=by
   funext x y
   show kV _ _ _=(kV _ _ _||_)
   rw [abc hlt,ho]
  have hno : kq g.lv none g.outs=false→∀ w',Ext w w'→K (.bool false) w':=fun e w' ew=>by
   have:=h w' ew
   rw [nout (by
    cases ho : kW g with
    |false=>rfl
    |true=>rw [(hout.1 ho).1] at e;cases e)] at this
   exact this
  refine gg_ ?_
  refine zq (n:=2) hco (fun j v hj=>by rw [Int.toNat_natCast];exact S.at (hoc j v hj)) ?_
  rw [ho]
  refine S.al fun b13 w25 S=>?_
  refine S.stB (b:=b13) fun w26 S=>?_
  refine gg_ ?_
  refine zh (c:=decide (g.lv≤o1)) (fun _ K2 hK2=>by refine gg_ ?_;exact hK2) ?_
  refine zh (c:=decide (o2<0)) (fun _ K2 hK2=>by refine gg_ ?_;exact hK2) ?_
  refine zh (c:=decide (g.lv≤o2)) (fun _ K2 hK2=>by refine gg_ ?_;exact hK2) ?_
  refine zh (c:=decide (o1=o2)) (fun _ K2 hK2=>by refine gg_ ?_;exact hK2) ?_
  have hio : xE g.lv (o1,o2) = !((((decide (o1<0)||decide (g.lv≤o1))||decide (o2<0))||decide (g.lv≤o2))||decide (o1=o2)):=by
   rw [xE]
   congr 1
   rw [Bool.eq_iff_iff]
   simp only [Bool.or_eq_true,decide_eq_true_eq]
   omega
  refine c_b (fun hbad=>?_) (fun hgood=>?_)
  ·rw [hio,hbad,Bool.not_true,Bool.false_and,Bool.false_and] at hd
   exact hno hd.symm _ S.ext
  rw [hio,hgood,Bool.not_false,Bool.true_and] at hd
  have hrg : (0≤o1∧o1<8)∧(0≤o2∧o2<8):=by
   simp only [Bool.or_eq_false_iff,decide_eq_false_iff_not] at hgood;omega
  clear hgood hio
  obtain ⟨⟨ho10,ho18⟩,ho20,ho28⟩:=hrg
  have S:=S.go (Ext.drew _)
  obtain ⟨⟨p1,p2⟩,hp⟩ : ∃ o,(g.outs[k - 1]?).getD (0,0)=o:=⟨_,rfl⟩
  have hpv : 0<k→∃ (hl : k - 1<g.outs.length),g.outs[k - 1]=(p1,p2):=fun hpos=>by
   have hl : k - 1<g.outs.length:=by omega
   rw [List.getElem?_eq_getElem hl] at hp
   exact ⟨hl,hp⟩
  have hprev : 0<k→∀ j v,[Value.int .i64 p1,.int .i64 p2][j]? = some v→Ob r fun w=>w.cell? ⟨bo,oo+(k - 1)*2+j,none⟩=some v:=fun hpos j v hj=>by
   obtain ⟨hl,he⟩:=hpv hpos
   obtain ⟨bo2,oo2,co2,hbe,hco2,hoo2,hoc2⟩:=h1.sl.get (by decide) hl
   obtain rfl : co2=_:=hoo2
   cases hbe
   rw [he] at hoc2
   exact hoc2 j v hj
  refine gg_ ?_
  refine aft (x:=decide (o1<p1)) (y:=decide (p1=o1)) (z:=decide (o2≤p2)) (fun hb K2 hK2=>?_) (fun hb K2 hK2=>?_) (fun hb K2 hK2=>?_) ?_
  ·have hpos : 0<k:=by simp only [decide_eq_true_eq] at hb;omega
   refine gg_ ?_
   refine zm (v:=.int .i64 p1) (by rw [show ((k : Int) - 1).toNat=k - 1 by omega];simpa using S.at (hprev hpos 0 _ rfl)) ?_
   refine gg_ ?_
   exact hK2
  ·have hpos : 0<k:=by simp only [decide_eq_true_eq] at hb;omega
   refine gg_ ?_
   refine zm (v:=.int .i64 p1) (by rw [show ((k : Int) - 1).toNat=k - 1 by omega];simpa using S.at (hprev hpos 0 _ rfl)) ?_
   refine gg_ ?_
   exact hK2
  ·have hpos : 0<k:=by simp only [decide_eq_true_eq] at hb;omega
   refine gg_ ?_
   refine zm (v:=.int .i64 p2) (by rw [show ((k : Int) - 1).toNat=k - 1 by omega];exact S.at (hprev hpos 1 _ rfl)) ?_
   refine gg_ ?_
   exact hK2
  rw [not_lt (o:=(o1,o2)) (w:=(p1,p2))]
  have haft : adU (kz g.outs k) (o1,o2) = !(decide ((k : Int) > 0) && !jo (p1,p2) (o1,o2)):=by
   by_cases hpos : 0<k
   ·obtain ⟨hl,he⟩:=hpv hpos
    rw [kz,if_neg (by omega),List.getElem?_eq_getElem hl,he,decide_eq_true (show (k : Int) > 0 by omega),Bool.true_and,Bool.not_not];rfl
   ·rw [kz,if_pos (by omega),decide_eq_false (show ¬ (k : Int) > 0 by omega)];rfl
  refine c_b (fun hb=>?_) (fun hb=>?_)
  ·rw [haft,hb,Bool.not_true,Bool.false_and] at hd
   exact hno hd.symm _ S.ext
  rw [haft,hb,Bool.not_false,Bool.true_and] at hd
  have S:=S.go (Ext.drew _)
  refine gg_ ?_
  refine S.st (b:=b10) (fun w27 S=>?_) (by rw [qI];omega)
  refine gg_ ?_
  rw [show ((k : Int)+1)=((k+1 : Nat) : Int) by omega]
  refine hK6 (k+1) _ ⟨hlt,hd,?_⟩ (by omega)
  rw [show 0+o1.toNat*8+o2.toNat*1=o1.toNat*8+o2.toNat by omega,Xh (by omega) (by omega)] at S
  rw [hst,yr (f:=fun x y=>syF (g.outs.take k) x y||(decide ((x : Int)=o1)&&decide ((y : Int)=o2))) (g:=fun x y=>syF (g.outs.take k) x y||(decide (x=o1.toNat)&&decide (y=o2.toNat))) (fun x y _ _=>by
   show (syF (g.outs.take k) x y||(decide ((x : Int)=o1)&&decide ((y : Int)=o2)))=(syF (g.outs.take k) x y||(decide (x=o1.toNat)&&decide (y=o2.toNat)))
   rw [show decide ((x : Int)=o1)=decide (x=o1.toNat) from decide_eq_decide.2 (by omega),show decide ((y : Int)=o2)=decide (y=o2.toNat) from decide_eq_decide.2 (by omega)])]
  exact S.drop b13
 have hke : k=g.outs.length:=by omega
 rw [hke,List.take_length] at S
 rw [hke,List.drop_length] at hd
 have hoR : kq g.lv none g.outs=true:=by rw [← hd];rfl
 clear hd hK6 K6 hge hk hke
 generalize hsy : syF g.outs=sy at hout S
 obtain ⟨n,hn⟩ : ∃ n : Nat,g.lv.toNat=n:=⟨_,rfl⟩
 have hn8 : n≤8:=by omega
 have hlvn : g.lv=(n : Int):=by omega
 rw [hn] at hout
 have hno : (List.range n).all (clF n mu sy)=false→∀ w',Ext w w'→K (.bool false) w':=fun e w' ew=>by
  have:=h w' ew
  rw [nout (by
   cases ho : kW g with
   |false=>rfl
   |true=>rw [(hout.1 ho).2] at e;cases e)] at this
  exact this
 refine zk (ι:=Nat) (fun i=>[.int .i64 (i : Nat)]) (fun i w'=>i≤n∧((List.range n).drop i).all (clF n mu sy)=(List.range n).all (clF n mu sy)∧
  StX noX w r w' [.cell b9 (zM mu) 130,.cell b10 (zM sy) 130,.cell b5 [.string g.name,.int .i64 g.lv,.slice qo g.outs.length capo,.int .i64 g.pn,.slice qt g.tys.length capt,.slice qn g.nms.length capn,.slice qp g.pts.length capp] 58,
  .cell b2 [.slice p0 u.ss.length cap0,.slice (some ⟨bf,of,none⟩) u.fs.length capf,.int .i64 u.mn] 25]) (fun i=>n - i) 0 rfl ⟨Nat.zero_le _,rfl,S⟩ ?_
 clear S
 rintro a d2 w30 ⟨ha,hda,S⟩ K7 hK7
 rw [List.getD_cons_zero]
 refine gg_ ?_
 rw [hlvn]
 refine zj (fun hlta=>?_) (fun hgea=>?_)
 ·have hlta : a<n:=by omega
  rw [qV hlta] at hda
  refine zk (ι:=Nat) (fun i=>[.int .i64 (i : Nat)]) (fun i w'=>i≤n∧((List.range n).drop i).all (clG n mu sy a)=(List.range n).all (clG n mu sy a)∧
   StX noX w r w' [.cell b9 (zM mu) 130,.cell b10 (zM sy) 130,.cell b5 [.string g.name,.int .i64 g.lv,.slice qo g.outs.length capo,.int .i64 g.pn,.slice qt g.tys.length capt,.slice qn g.nms.length capn,.slice qp g.pts.length capp] 58,
   .cell b2 [.slice p0 u.ss.length cap0,.slice (some ⟨bf,of,none⟩) u.fs.length capf,.int .i64 u.mn] 25]) (fun i=>n - i) 0 rfl ⟨Nat.zero_le _,rfl,S⟩ ?_
  clear S
  rintro b d3 w31 ⟨hb,hdb,S⟩ K8 hK8
  rw [List.getD_cons_zero]
  refine gg_ ?_
  rw [hlvn]
  refine zj (fun hltb=>?_) (fun hgeb=>?_)
  rotate_left
  ·have hbe : b=n:=by omega
   rw [hbe,qW] at hdb
   have hF : clF n mu sy a=true:=hdb.symm
   rw [hF,Bool.true_and] at hda
   refine gg_ ?_
   rw [show ((a : Int)+1)=((a+1 : Nat) : Int) by omega]
   exact hK7 (a+1) _ ⟨hlta,hda,S⟩ (by omega)
  have hltb : b<n:=by omega
  rw [qV hltb] at hdb
  have hfalse : clG n mu sy a b=false→(List.range n).all (clF n mu sy)=false:=fun e=>by
   rw [e,Bool.false_and] at hdb
   have hF : clF n mu sy a=false:=hdb.symm
   rw [hF,Bool.false_and] at hda
   exact hda.symm
  refine gg_ ?_
  refine zg (c:=mu a b) (fun _ K2 hK2=>?_) ?_
  ·refine gg_ ?_
   refine S.ld (b:=b9) ?_ (qh (f:=mu) (by omega) (by omega))
   exact hK2
  refine zg (c:=!sy a b) (fun _ K2 hK2=>?_) ?_
  ·refine gg_ ?_
   refine S.ld (b:=b10) ?_ (qh (f:=sy) (by omega) (by omega))
   refine gg_ ?_
   exact hK2
  have hG : clG n mu sy a b=((List.range n).all (clH sy a b) && !((decide ((a : Int)≠(b : Int))&&mu a b) && !sy a b)):=by
   rw [clG,Bool.and_assoc,show decide ((a : Int)≠(b : Int)) = !decide (a=b) from by rw [← decide_not];exact decide_eq_decide.2 (by omega)]
  refine c_b (fun hbad=>?_) (fun hgood=>?_)
  ·exact hno (hfalse (by rw [hG,hbad,Bool.not_true,Bool.and_false])) _ S.ext
  rw [hgood,Bool.not_false,Bool.and_true] at hG
  refine zk (ι:=Nat) (fun i=>[.int .i64 (i : Nat)]) (fun i w'=>i≤n∧((List.range n).drop i).all (clH sy a b)=(List.range n).all (clH sy a b)∧
   StX noX w r w' [.cell b9 (zM mu) 130,.cell b10 (zM sy) 130,.cell b5 [.string g.name,.int .i64 g.lv,.slice qo g.outs.length capo,.int .i64 g.pn,.slice qt g.tys.length capt,.slice qn g.nms.length capn,.slice qp g.pts.length capp] 58,
   .cell b2 [.slice p0 u.ss.length cap0,.slice (some ⟨bf,of,none⟩) u.fs.length capf,.int .i64 u.mn] 25]) (fun i=>n - i) 0 rfl ⟨Nat.zero_le _,rfl,S⟩ ?_
  clear S
  rintro cc d4 w32 ⟨hc,hdc,S⟩ K9 hK9
  rw [List.getD_cons_zero]
  refine gg_ ?_
  rw [hlvn]
  refine zj (fun hltc=>?_) (fun hgec=>?_)
  ·have hltc : cc<n:=by omega
   rw [qV hltc] at hdc
   refine gg_ ?_
   refine zg (c:=sy a b) (fun _ K2 hK2=>?_) ?_
   ·refine gg_ ?_
    refine S.ld (b:=b10) ?_ (qh (f:=sy) (by omega) (by omega))
    exact hK2
   refine zg (c:=sy b cc) (fun _ K2 hK2=>?_) ?_
   ·refine gg_ ?_
    refine S.ld (b:=b10) ?_ (qh (f:=sy) (by omega) (by omega))
    exact hK2
   refine zg (c:=!sy a cc) (fun _ K2 hK2=>?_) ?_
   ·refine gg_ ?_
    refine S.ld (b:=b10) ?_ (qh (f:=sy) (by omega) (by omega))
    refine gg_ ?_
    exact hK2
   have hH : clH sy a b cc = !(((decide ((a : Int)≠(cc : Int))&&sy a b)&&sy b cc) && !sy a cc):=by
    rw [clH,show decide ((a : Int)≠(cc : Int)) = !decide (a=cc) from by rw [← decide_not];exact decide_eq_decide.2 (by omega)]
    congr 1
    ac_rfl
   refine c_b (fun hbad=>?_) (fun hgood2=>?_)
   ·rw [hH,hbad,Bool.not_true,Bool.false_and] at hdc
    exact hno (hfalse (by rw [hG,← hdc])) _ S.ext
   ·rw [hH,hgood2,Bool.not_false,Bool.true_and] at hdc
    refine gg_ ?_
    rw [show ((cc : Int)+1)=((cc+1 : Nat) : Int) by omega]
    exact hK9 (cc+1) _ ⟨hltc,hdc,S⟩ (by omega)
  have hce : cc=n:=by omega
  rw [hce,qW] at hdc
  rw [hG,← hdc,Bool.true_and] at hdb
  refine gg_ ?_
  rw [show ((b : Int)+1)=((b+1 : Nat) : Int) by omega]
  exact hK8 (b+1) _ ⟨hltb,hdb,S⟩ (by omega)
 have hae : a=n:=by omega
 rw [hae,qW] at hda
 have hog : kW g=true:=hout.2 ⟨hoR,hda.symm⟩
 clear hda hK7 K7 hgea hae ha hno nout
 refine zk (ι:=Nat) (fun i=>[.int .i64 (yk (g.pts.take i) : Nat),.int .i64 (i : Nat)]) (fun i w'=>i≤g.pts.length∧i≤1025∧StX noX w r w' [.cell b9 (zM mu) 130,.cell b10 (zM sy) 130,.cell b5 [.string g.name,.int .i64 g.lv,.slice qo g.outs.length capo,.int .i64 g.pn,.slice qt g.tys.length capt,.slice qn g.nms.length capn,.slice qp g.pts.length capp] 58,
  .cell b2 [.slice p0 u.ss.length cap0,.slice (some ⟨bf,of,none⟩) u.fs.length capf,.int .i64 u.mn] 25]) (fun i=>g.pts.length - i) 0 rfl ⟨Nat.zero_le _,Nat.zero_le _,S⟩ ?_
 clear S
 rintro k d5 w33 ⟨hk,hk2,S⟩ K5 hK5
 simp only [List.getD_cons_zero,List.getD_cons_succ]
 have hlk : yk (g.pts.take k)≤k:=by
  have:=List.countP_le_length (p:=fun p : PtD=>decide (p.op=4)) (l:=g.pts.take k)
  rw [List.length_take] at this
  show List.countP _ _≤k
  omega
 refine gg_ ?_
 refine zg (c:=decide (k≤1024)) (fun _ K2 hK2=>?_) ?_
 ·refine gg_ ?_
  rw [show decide ((k : Int)≤1024)=decide (k≤1024) from decide_eq_decide.2 (by omega)]
  exact hK2
 refine c_b (fun hgo=>?_) (fun hstop=>?_)
 ·simp only [Bool.and_eq_true,decide_eq_true_eq] at hgo
  have hlt : k<g.pts.length:=by omega
  have hlt':=Xi hlt
  obtain ⟨bp,op,cp,rfl,hcp,hpc,hpo⟩:=h4.sl.get (by decide) hlt
  obtain ⟨x1,x2,x3,x4,x5,y1,y2,y3,y4,y5,rfl,_⟩:=kk hpc
  have lop : Ob r fun w=>w.cell? ⟨bp,op+k*21,none⟩=some (.int .u8 g.pts[k].op):=by simpa using hpo 0 _ rfl
  refine zp (fun s w'=>s = [.int .i64 (yk (g.pts.take (k+1)) : Nat)]∧w'=w33) (fun K9 hK9=>?_) ?_
  rotate_left
  ·rintro _ _ ⟨rfl,rfl⟩ d6
   rw [List.getD_cons_zero]
   refine gg_ ?_
   rw [show ((k : Int)+1)=((k+1 : Nat) : Int) by omega]
   exact hK5 (k+1) _ ⟨hlt,by omega,S⟩ (by omega)
  refine gg_ ?_
  refine zm (by simpa using S.at lop) ?_
  refine gg_ ?_
  refine zj (fun h4'=>?_) (fun h4'=>?_)
  ·refine gg_ ?_
   refine hK9 _ _ ⟨?_,rfl⟩
   rw [hlt',if_pos h4'];rfl
  ·refine hK9 _ _ ⟨?_,rfl⟩
   rw [hlt',if_neg h4',Nat.add_zero]
 refine gg_ ?_
 refine zh (c:=decide (1024<g.pts.length)) (fun _ K2 hK2=>?_) ?_
 ·refine gg_ ?_
  rw [show decide ((1024 : Int)<(g.pts.length : Int))=decide (1024<g.pts.length) from decide_eq_decide.2 (by omega)]
  exact hK2
 refine zh (c:=decide (256<yk (g.pts.take k))) (fun _ K2 hK2=>?_) ?_
 ·refine gg_ ?_
  rw [show decide ((256 : Int)<(yk (g.pts.take k) : Int))=decide (256<yk (g.pts.take k)) from decide_eq_decide.2 (by omega)]
  exact hK2
 have hend : g.pts.length≤1024→g.pts.take k=g.pts:=fun hle=>by
  refine List.take_of_length_le ?_
  rw [Bool.and_eq_false_iff,decide_eq_false_iff_not,decide_eq_false_iff_not] at hstop
  omega
 refine c_b (fun hbad=>?_) (fun hgood=>?_)
 ·rw [no fun H=>by
   have h1:=H.pt1
   have h2:=H.pt1024
   have h3:=H.loans
   rw [hend h2] at hbad
   simp only [Bool.or_eq_true,decide_eq_true_eq] at hbad
   omega] at h
  exact h _ S.ext
 simp only [Bool.or_eq_false_iff,decide_eq_false_iff_not] at hgood
 rw [hend (by omega)] at hgood
 have hpos : 0<g.tys.length:=by omega
 have hhd : g.tys.headD zr=g.tys[0]:=by rw [List.headD_eq_head?_getD,List.head?_eq_getElem?,List.getElem?_eq_getElem hpos,Option.getD_some]
 obtain ⟨bt,ot,ct,rfl,hct2,htc,hcell⟩:=h2.sl.get (by decide) hpos
 obtain ⟨q2,cap2,rfl,ht2⟩:=zV htc
 have lk : Ob r fun w=>w.cell? ⟨bt,ot,none⟩=some (.int .u8 g.tys[0].k):=by simpa using hcell 0 _ rfl
 refine gg_ ?_
 refine agA (c:=decide (g.lv=0)) (d:=decide (g.pn=0)) (e:=isK g.tys[0] 1) (fun K2 hK2=>by refine gg_ ?_;exact hK2) (fun K2 hK2=>by refine gg_ ?_;exact hK2) (fun K2 hK2=>?_) ?_
 ·refine gg_ ?_
  refine zm (by simpa using S.at lk) ?_
  refine gg_ ?_
  exact hK2
 have hE : yK u i g=(decide ((i : Int)≠u.mn)||((decide (g.lv=0)&&decide (g.pn=0))&&isK g.tys[0] 1)):=by
  rw [yK,decide_eq_true hlv0,decide_eq_true hlv8,decide_eq_true hpn0,decide_eq_true hpn8,decide_eq_true hpn1,decide_eq_true hty,decide_eq_true hnm,htys,hog,decide_eq_true (show 1≤g.pts.length by omega),decide_eq_true (show g.pts.length≤1024 by omega),decide_eq_true (show yk g.pts≤256 by omega),hhd,decide_not]
  simp
 rw [hE] at h
 exact h _ S.ext
end Go.Proofs
end
section
namespace Go.Proofs
open Go.Sh
set_option maxRecDepth 100000
set_option linter.unusedSimpArgs false
set_option linter.unusedVariables false
set_option maxHeartbeats 2000000 in
theorem abQ {u : UnD} {v : Value} {w : World} {r : Gh} {K : Value→World→Prop} (hr : Holds r w) (hu : UnG r v u)
  (h : ∀ (a b e : Int) w',Ext w w'→(e=0↔MayU u)→K (.tuple #[.int .i64 a,.int .i64 b,.int .i64 e]) w') : ze Tryz.prog Tryz.vC #[v] w K:=by
 refine Tryz.aan ?_
 unfold Tryz.Xs
 have hu0:=hu
 obtain ⟨p0,cap0,vf,rfl,_,_,hst,hsl,hfn⟩:=hu
 obtain ⟨qf,capf,rfl,_,_⟩:=hfn.sl.shape
 have hfl : u.fs.length≤9223372036854775807:=hfn.few
 have S:=St.start hr
 refine S.box fun b1 w1 S=>?_
 have S : StX noX w r w1 [.cell b1 [.slice p0 u.ss.length cap0,.slice qf u.fs.length capf,.int .i64 u.mn] 25]:=S
 have bad : ∀ {a b : Int} {w' : World},¬ MayU u→Ext w w'→K (.tuple #[.int .i64 a,.int .i64 b,.int .i64 100]) w':=fun hn e=>h _ _ _ _ e ⟨fun h=>absurd h (by decide),fun hM=>absurd hM hn⟩
 refine gg_ ?_
 refine Yl S.holds hst fun w2 e2=>?_
 have S:=S.go e2
 refine gg_ ?_
 refine zh (c:=decide (u.fs.length<1)) (fun _ K2 hK2=>?_) ?_
 ·refine gg_ ?_
  rw [show decide ((u.fs.length : Int)<1)=decide (u.fs.length<1) from decide_eq_decide.2 (by omega)]
  exact hK2
 refine zh (c:=decide (32<u.fs.length)) (fun _ K2 hK2=>?_) ?_
 ·refine gg_ ?_
  rw [show decide ((32 : Int)<(u.fs.length : Int))=decide (32<u.fs.length) from decide_eq_decide.2 (by omega)]
  exact hK2
 refine zh (c:=decide (u.mn<0)) (fun _ K2 hK2=>by refine gg_ ?_;exact hK2) ?_
 refine zh (c:=decide ((u.fs.length : Int)≤u.mn)) (fun _ K2 hK2=>by refine gg_ ?_;exact hK2) ?_
 refine c_b (fun hbad=>?_) (fun hgood=>?_)
 ·refine bad (fun hM=>?_) S.ext
  have h1:=hM.ok;have h2:=hM.fs1;have h3:=hM.fs32;have h4:=hM.mn0;have h5:=hM.mn1
  rw [decide_eq_true h1] at hbad
  simp only [Bool.or_eq_true,decide_eq_true_eq,Bool.not_true,Bool.false_eq_true,false_or] at hbad
  omega
 simp only [Bool.or_eq_false_iff,decide_eq_false_iff_not,Bool.not_eq_false',decide_eq_true_eq] at hgood
 obtain ⟨⟨⟨⟨hok,hf1⟩,hf32⟩,hm0⟩,hm1⟩:=hgood
 refine zk (ι:=Nat) (fun i=>[.int .i64 (i : Nat)]) (fun i w'=>i≤u.fs.length∧(∀ (j : Nat) (hj : j<u.fs.length),j<i→yK u j u.fs[j]=true)∧StX noX w r w' [.cell b1 [.slice p0 u.ss.length cap0,.slice qf u.fs.length capf,.int .i64 u.mn] 25]) (fun i=>u.fs.length - i) 0 rfl ⟨Nat.zero_le _,fun j _ hj=>absurd hj (Nat.not_lt_zero _),S⟩ ?_
 clear S
 rintro i d w3 ⟨hi,hall,S⟩ K1 hK1
 rw [List.getD_cons_zero]
 refine gg_ ?_
 refine zj (fun hlt=>?_) (fun hge=>?_)
 ·have hlt : i<u.fs.length:=by omega
  refine S.ldB (b:=b1) ?_ rfl
  refine ac1 hlt hok S.holds hu0 fun w4 e4=>?_
  have S:=S.go e4
  refine gp_ ?_
  refine c_b (fun hb=>?_) (fun hb=>?_)
  ·refine bad (fun hM=>?_) S.ext
   rw [hM.head i hlt] at hb;cases hb
  ·refine gg_ ?_
   rw [show ((i : Int)+1)=((i+1 : Nat) : Int) by omega]
   refine hK1 (i+1) _ ⟨hlt,fun j hj hji=>?_,S⟩ (by omega)
   by_cases e : j=i
   ·subst e;simpa using hb
   ·exact hall j hj (by omega)
 have hheads : ∀ (j : Nat) (hj : j<u.fs.length),yK u j u.fs[j]=true:=fun j hj=>hall j hj (by omega)
 clear hall hK1 K1 hge hi
 have hfine : ∀ f ∈ u.fs,xd u.ss f.tys∧(0≤f.pn∧f.pn<f.tys.length∧xd u.ss f.tys):=fun f hf=>by
  obtain ⟨j,hj,rfl⟩:=List.getElem_of_mem hf
  have H:=V0 (hheads j hj)
  exact ⟨H.fine hok,H.pn0,H.pn1,H.fine hok⟩
 refine zk (ι:=Nat) (fun i=>[.int .i64 (i : Nat)]) (fun i w'=>i≤u.fs.length∧(∀ (j : Nat) (hj : j<u.fs.length),j<i→∀ p ∈ u.fs[j].pts,yj u u.fs[j] p=true)∧StX noX w r w' [.cell b1 [.slice p0 u.ss.length cap0,.slice qf u.fs.length capf,.int .i64 u.mn] 25]) (fun i=>u.fs.length - i) 0 rfl ⟨Nat.zero_le _,fun j _ hj=>absurd hj (Nat.not_lt_zero _),S⟩ ?_
 clear S
 rintro i d w5 ⟨hi,hall,S⟩ K2 hK2
 rw [List.getD_cons_zero]
 refine gg_ ?_
 refine zj (fun hlt=>?_) (fun hge=>?_)
 rotate_left
 ·exact h 0 0 0 _ S.ext ⟨fun _=>⟨hok,by omega,by omega,by omega,by omega,hheads,fun g hg p hp=>by
   obtain ⟨j,hj,rfl⟩:=List.getElem_of_mem hg
   exact hall j hj (by omega) p hp⟩,fun _=>rfl⟩
 have hlt : i<u.fs.length:=by omega
 obtain ⟨bf,of,cf,rfl,hcf,hgc,hfo⟩:=hfn.sl.get (by decide) hlt
 have hgm:=List.getElem_mem hlt
 generalize hgi : u.fs[i]=g at hgc hgm
 obtain ⟨vo,vt,vn,vp,rfl,h1,h2,h3,h4⟩:=id hgc
 obtain ⟨qo,capo,rfl,_,_⟩:=h1.sl.shape
 obtain ⟨qt,capt,rfl,_,hct⟩:=h2.sl.shape
 obtain ⟨qn,capn,rfl,_,_⟩:=h3.sl.shape
 obtain ⟨qp,capp,rfl,_,_⟩:=h4.sl.shape
 have hptl : g.pts.length≤9223372036854775807:=h4.few
 have lpts : Ob r fun w=>w.cell? ⟨bf,of+i*7+6,none⟩=some (.slice qp g.pts.length capp):=hfo 6 _ rfl
 have S:=S.go (Ext.drew _)
 refine S.ldB (b:=b1) ?_ rfl
 refine gg_ ?_
 refine zq (n:=7) hcf (fun j v hj=>by rw [Int.toNat_natCast];exact S.at (hfo j v hj)) ?_
 refine zo (cs:=#[.slice p0 u.ss.length cap0,.slice (some ⟨bf,of,none⟩) u.fs.length capf,.int .i64 u.mn,.string g.name,.int .i64 g.lv,.slice qo g.outs.length capo,.int .i64 g.pn,.slice qt g.tys.length capt,.slice qn g.nms.length capn,.slice qp g.pts.length capp]) (by kernel_rfl) ?_
 refine S.box fun bx w6 S=>?_
 have S : StX noX w r w6 [.cell bx (asL u g p0 cap0 (some ⟨bf,of,none⟩) capf qo capo qt capt qn capn qp capp) 113,.cell b1 [.slice p0 u.ss.length cap0,.slice (some ⟨bf,of,none⟩) u.fs.length capf,.int .i64 u.mn] 25]:=S
 have S:=S.frz
 have hx : AsP (r.or (one bx (asL u g p0 cap0 (some ⟨bf,of,none⟩) capf qo capo qt capt qn capn qp capp) 113)) bx u g:=⟨p0,cap0,some ⟨bf,of,none⟩,capf,qo,capo,qt,capt,qn,capn,qp,capp,(yR (b:=bx)).up,hu0.up,GrG.up hgc⟩
 refine zk (ι:=Nat) (fun i=>[.int .i64 (i : Nat)]) (fun q w'=>q≤g.pts.length∧(∀ (j : Nat) (hj : j<g.pts.length),j<q→yj u g g.pts[j]=true)∧StX noX w (r.or (one bx (asL u g p0 cap0 (some ⟨bf,of,none⟩) capf qo capo qt capt qn capn qp capp) 113)) w' [.cell b1 [.slice p0 u.ss.length cap0,.slice (some ⟨bf,of,none⟩) u.fs.length capf,.int .i64 u.mn] 25]) (fun i=>g.pts.length - i) 0 rfl ⟨Nat.zero_le _,fun j _ hj=>absurd hj (Nat.not_lt_zero _),S⟩ ?_
 clear S
 rintro q d w7 ⟨hq,hpts,S⟩ K9 hK9
 rw [List.getD_cons_zero]
 refine gg_ ?_
 refine zm (by rw [Int.toNat_natCast];exact S.at lpts) ?_
 refine gg_ ?_
 refine zj (fun hlt2=>?_) (fun hge2=>?_)
 ·have hlt2 : q<g.pts.length:=by omega
  obtain ⟨bp,op,cp,rfl,hcp,hpc,hpo⟩:=h4.sl.get (by decide) hlt2
  refine gg_ ?_
  refine zm (by rw [Int.toNat_natCast];exact S.at lpts) ?_
  refine gg_ ?_
  refine zq (n:=21) hcp (fun j v hj=>by rw [Int.toNat_natCast];exact S.at (hpo j v hj)) ?_
  refine abP S.holds hx hok (hfine g hgm).1 (fun f hf=>(hfine f hf).2) hpc.up fun w8 e8=>?_
  have S:=S.go e8
  refine gp_ ?_
  refine c_b (fun hb=>?_) (fun hb=>?_)
  ·refine bad (fun hM=>?_) S.ext
   rw [hM.pts g hgm _ (List.getElem_mem hlt2)] at hb;cases hb
  ·refine gg_ ?_
   rw [show ((q : Int)+1)=((q+1 : Nat) : Int) by omega]
   refine hK9 (q+1) _ ⟨hlt2,fun j hj hjq=>?_,S⟩ (by omega)
   by_cases e : j=q
   ·subst e;simpa using hb
   ·exact hpts j hj (by omega)
 ·refine gg_ ?_
  rw [show ((i : Int)+1)=((i+1 : Nat) : Int) by omega]
  refine hK2 (i+1) _ ⟨hlt,fun j hj hji p hp=>?_,S.to r⟩ (by omega)
  by_cases e : j=i
  ·subst e
   rw [hgi] at hp ⊢
   obtain ⟨k,hk,rfl⟩:=List.getElem_of_mem hp
   exact hpts k hk (by omega)
  ·exact hall j hj (by omega) p hp
theorem adm {u : UnD} {v : Value} {w : World} {r : Gh} {K : Value→World→Prop} (hr : Holds r w) (hu : UnG r v u)
  (h : ∀ w',Ext w w'→K (.bool (ZJ u)) w') : ze Tryz.prog Tryz.Yq #[v] w K:=by
 refine Tryz.acg ?_
 unfold Tryz.Je
 have hu0:=hu
 obtain ⟨p0,cap0,vf,rfl,_,_,hst,hsl,hfn⟩:=hu
 have S:=St.start hr
 refine S.box fun b1 w1 S=>?_
 have S : StX noX w r w1 [.cell b1 [.slice p0 u.ss.length cap0,vf,.int .i64 u.mn] 25]:=S
 refine S.ldB (b:=b1) ?_ rfl
 refine abQ S.holds hu0 fun a b e w2 e2 he=>?_
 have S:=S.go e2
 refine gg_ ?_
 have hm : decide (e=0)=ZJ u:=by
  rw [Bool.eq_iff_iff,decide_eq_true_eq,he]
  exact Xn.symm
 rw [hm]
 exact h _ S.ext
theorem V9 {u : UnD} {fn q : Int} {v : Value} {w : World} {r : Gh} {K : Value→World→Prop} (hr : Holds r w) (hu : UnG r v u)
  (h : ∀ w',Ext w w'→K (.bool (isU u fn q)) w') : ze Tryz.prog Tryz.vY #[v,.int .i64 fn,.int .i64 q] w K:=by
 refine Tryz.ac7 ?_
 unfold Tryz.Vo
 have hu0:=hu
 obtain ⟨p0,cap0,vf,rfl,_,_,hst,hsl,hfn⟩:=hu
 obtain ⟨qf,capf,rfl,_,_⟩:=hfn.sl.shape
 have hfl : u.fs.length≤9223372036854775807:=hfn.few
 have S:=St.start hr
 refine S.box fun b1 w1 S=>?_
 have S : StX noX w r w1 [.cell b1 [.slice p0 u.ss.length cap0,.slice qf u.fs.length capf,.int .i64 u.mn] 25]:=S
 refine S.ldB (b:=b1) ?_ rfl
 refine adm S.holds hu0 fun w2 e2=>?_
 have S:=S.go e2
 refine zg (c:=decide (0≤fn)) (fun _ K2 hK2=>by refine gg_ ?_;exact hK2) ?_
 refine zg (c:=decide (fn<(u.fs.length : Int))) (fun _ K2 hK2=>by refine gg_ ?_;exact hK2) ?_
 refine zg (c:=decide (q<((u.fs[fn.toNat]?.map fun g=>(g.pts.length : Int)).getD 0))) (fun hb K2 hK2=>?_) ?_
 ·simp only [Bool.and_eq_true,decide_eq_true_eq] at hb
  have hlt : fn.toNat<u.fs.length:=by omega
  obtain ⟨bf,of,cf,rfl,hcf,hgc,hfo⟩:=hfn.sl.get (by decide) hlt
  obtain ⟨vo,vt,vn,vp,rfl,h1,h2,h3,h4⟩:=id hgc
  obtain ⟨qp,capp,rfl,_,_⟩:=h4.sl.shape
  have hptl : u.fs[fn.toNat].pts.length≤9223372036854775807:=h4.few
  have lpts : Ob r fun w=>w.cell? ⟨bf,of+fn.toNat*7+6,none⟩=some (.slice qp u.fs[fn.toNat].pts.length capp):=hfo 6 _ rfl
  refine gg_ ?_
  refine zm (S.at lpts) ?_
  refine gg_ ?_
  rw [List.getElem?_eq_getElem hlt] at hK2
  exact hK2
 have:=h _ S.ext
 rw [isU] at this
 have e : ((((ZJ u&&decide (0≤fn))&&decide (fn<(u.fs.length : Int)))&&decide (q<((u.fs[fn.toNat]?.map fun g=>(g.pts.length : Int)).getD 0))))=((decide (0≤fn)&&decide (fn<(u.fs.length : Int)))&&(ZJ u&&decide (q<((u.fs[fn.toNat]?.map fun g=>(g.pts.length : Int)).getD 0)))):=by ac_rfl
 rw [e]
 exact this
end Go.Proofs
end
section
namespace Go.Proofs
open Go.Sh
set_option maxRecDepth 100000
set_option linter.unusedSimpArgs false
set_option linter.unusedVariables false
theorem af1 {s : Int} {f : Int→Int} : ∀ (n : Nat) {t : TyD},zy s n t=true→t.lay (t.regs.map f)=t.mapR f:=by
 intro n
 induction n with
 |zero=>intro t h;cases h
 |succ n ih=>
  intro t h
  rcases zF h with ⟨ho,hk⟩|⟨u,ho,hu,hk⟩
  ·rw [Zg ho,jT ho,if_neg (by omega),if_neg (by omega)]
  ·rw [kP ho,ZL ho,kH ho,← ih hu]
   by_cases h4 : t.k=4
   ·simp [h4]
   ·simp [h4]
theorem J7 {t : TyD} {a : Int} (hB : isB t=true) : yg a t=t.mapR fun k=>a+k:=by
 rw [yg,regsT,hB,if_pos rfl]
 exact af1 48 hB
theorem XI {a : Int} : ∀ (n : Nat) {t : TyD} {w : World} {r : Gh} {v : Value} {K : Value→World→Prop},t.ht≤n→isB t=true→(∀ x ∈ t.regs,0≤x∧x<8)→(t.regs≠[]→0≤a∧a≤1000)→Holds r w→TyG r v t→
  (∀ v' sn w',Ext w w'→New w sn w'→TyG sn v' (t.mapR fun k=>a+k)→K v' w')→ze Tryz.prog Tryz.x6 #[v,.int .i64 a] w K:=by
 intro n
 induction n with
 |zero=>intro t w r v K h;cases t;simp [TyD.ht] at h
 |succ n ih=>
  intro t w r v K hn hB hreg ha hr hv h
  obtain ⟨p,cap,rfl,hp,hc,hof⟩:=hv
  refine Tryz.aap ?_
  unfold Tryz.Xu
  have S:=St.start hr
  refine S.box fun b1 w1 S=>?_
  have S : StX noX w r w1 [.cell b1 (tyL t p cap) 31]:=S
  refine S.al fun b2 w2 S=>?_
  refine gg_ ?_
  refine S.al fun b3 w3 S=>?_
  refine S.stB (b:=b3) fun w4 S=>?_
  refine gg_ ?_
  refine S.st (b:=b3) fun w5 S=>?_
  refine zp (fun _ w'=>StX noX w r w' [.cell b3 [.int .u8 t.k,.bool t.m,.int .i64 (if t.k=4 then a+t.re else t.re),.int .i64 t.st,.slice none 0 0] 31,.cell b2 yL 31,.cell b1 [.int .u8 t.k,.bool t.m,.int .i64 t.re,.int .i64 t.st,.slice p t.of.length cap] 31]) (fun K3 hK3=>?_) ?_
  ·refine gg_ ?_
   refine zj (fun hk=>?_) (fun hk=>?_)
   ·have hm:=acF hk
    have:=hreg _ hm
    have:=ha (List.ne_nil_of_mem hm)
    refine gg_ ?_
    refine S.st (b:=b3) fun w3 S=>?_
    refine hK3 [] _ ?_
    rw [if_pos hk];exact S
   ·refine hK3 [] _ ?_
    rw [if_neg hk];exact S
  clear S
  rintro _ w6 S d6
  rcases Qo hB with ho|⟨u,ho,hu⟩
  ·have hl : t.of.length=0:=by rw [ho];rfl
   rw [jT ho] at h
   generalize (if t.k=4 then a+t.re else t.re)=re' at S h
   refine zp (fun _ w'=>w'=w6) (fun K3 hK3=>?_) ?_
   ·refine gg_ ?_
    refine c_f (by simp [hl]) ?_
    exact hK3 [] _ rfl
   rintro _ _ rfl d7
   refine S.ldB (b:=b3) ?_ rfl
   refine S.stB (b:=b2) fun w7 S=>?_
   refine S.ceB (b:=b2) ?_ rfl
   exact h _ nothing _ S.ext New.nothing zI
  ·obtain ⟨ba,oa,rfl,c,hc1,hcell,ht⟩:=NdG.of hof (i:=0) (by rw [ho];exact Nat.one_pos)
   have ht : TyG r (.agg c.toArray) u:=by simpa [ho] using ht
   have hl : t.of.length=1:=by rw [ho];rfl
   rw [aew ho] at h
   generalize (if t.k=4 then a+t.re else t.re)=re' at S h
   rw [hl] at S
   refine zp (fun _ w'=>∃ b9 sn c',StX noX w (r.or (sn.or (one b9 c' 31))) w' [.cell b3 [.int .u8 t.k,.bool t.m,.int .i64 re',.int .i64 t.st,.slice (some ⟨b9,0,none⟩) 1 1] 31,.cell b2 yL 31,.cell b1 [.int .u8 t.k,.bool t.m,.int .i64 t.re,.int .i64 t.st,.slice (some ⟨ba,oa,none⟩) 1 cap] 31]∧
    TyG sn (.agg c'.toArray) (u.mapR fun k=>a+k)∧Above w (sn.or (one b9 c' 31))) (fun K3 hK3=>?_) ?_
   ·refine gg_ ?_
    refine c_t (by decide) ?_
    refine gg_ ?_
    refine zq (n:=5) hc1 (fun j v hj=>by simpa using S.at (hcell j v hj)) ?_
    refine ih (by have:=TyD.ht_of (t:=t) (u:=u) (by rw [ho];exact List.mem_singleton.2 rfl);omega) hu (fun x hx=>hreg x (JU ho hx)) (fun hne=>ha (by
     obtain ⟨x,hx⟩:=List.exists_mem_of_ne_nil _ hne
     exact List.ne_nil_of_mem (JU ho hx))) S.holds ht fun v' sn w13 e13 n13 hv'=>?_
    obtain ⟨S,dx,ax⟩:=S.tell e13 n13
    obtain ⟨c',rfl,hc',_⟩:=hv'.rep
    refine S.lit (vm hv') fun b9 w14 S=>?_
    have hm:=S.mine (.cell b9 c' 31) (by simp) b9 rfl
    refine gp_ ?_
    refine S.st (b:=b3) fun w15 S=>?_
    refine hK3 [] _ ⟨b9,sn,c',(S.frzAt b9).reGh,hv',?_⟩
    rintro b o (hb|⟨rfl,_⟩)
    ·exact ax b o hb
    ·exact hm.1.resolve_right id
   clear S
   rintro _ w7 ⟨b9,sn,c',S,hv',hab⟩ d7
   refine S.ldB (b:=b3) ?_ rfl
   refine S.stB (b:=b2) fun w8 S=>?_
   refine S.ceB (b:=b2) ?_ rfl
   exact h _ (sn.or (one b9 c' 31)) _ S.ext (S.newOf hab) (vi hv')
theorem J8 : ∀ (n : Nat) {t : TyD} {c : Int} {w : World} {r : Gh} {v : Value} {K : Value→World→Prop},t.ht≤n→isB t=true→0≤c→c+n≤1000000→Holds r w→TyG r v t→
  (∀ v' sn w',Ext w w'→New w sn w'→TyG sn v' (t.lay (yq t.regs c))→K (.tuple #[v',.int .i64 (c+yb t.regs)]) w')→ze Tryz.prog Tryz.xS #[v,.int .i64 c] w K:=by
 intro n
 induction n with
 |zero=>intro t c w r v K h;cases t;simp [TyD.ht] at h
 |succ n ih=>
  intro t c w r v K hn hB hc0 hcn hr hv h
  obtain ⟨p,cap,rfl,hp,hc,hof⟩:=hv
  refine Tryz.QZ ?_
  unfold Tryz.Zw
  have hlow : t.k=4→-1≤t.re:=fun hk=>adz (n:=47) hB hk
  have S:=St.start hr
  refine S.box fun b1 w1 S=>?_
  have S : StX noX w r w1 [.cell b1 (tyL t p cap) 31]:=S
  refine S.al fun b2 w2 S=>?_
  refine gg_ ?_
  refine S.al fun b3 w3 S=>?_
  refine S.stB (b:=b3) fun w4 S=>?_
  refine gg_ ?_
  refine S.st (b:=b3) fun w5 S=>?_
  refine zp (fun s w'=>s = [.int .i64 (if t.k=4∧t.re = -1 then c+1 else c)]∧StX noX w r w' [.cell b3 [.int .u8 t.k,.bool t.m,.int .i64 (if t.k=4∧t.re = -1 then c else t.re),.int .i64 t.st,.slice none 0 0] 31,.cell b2 yL 31,.cell b1 [.int .u8 t.k,.bool t.m,.int .i64 t.re,.int .i64 t.st,.slice p t.of.length cap] 31]) (fun K3 hK3=>?_) ?_
  ·refine gg_ ?_
   refine zg (c:=decide (t.re = -1)) (fun _ K2 hK2=>by refine gg_ ?_;exact hK2) ?_
   refine c_b (fun hk=>?_) (fun hk=>?_)
   ·have hk : t.k=4∧t.re = -1:=by simpa using hk
    refine gg_ ?_
    refine S.st (b:=b3) fun w3 S=>?_
    refine gg_ ?_
    refine hK3 _ _ ⟨?_,?_⟩
    ·rw [if_pos hk]
    ·rw [if_pos hk];exact S
   ·have hk : ¬ (t.k=4∧t.re = -1):=by simpa using hk
    refine hK3 _ _ ⟨?_,?_⟩
    ·rw [if_neg hk]
    ·rw [if_neg hk];exact S
  clear S
  rintro _ w6 ⟨rfl,S⟩ d6
  simp only [List.getD_cons_zero]
  rcases Qo hB with ho|⟨u,ho,hu⟩
  ·have hl : t.of.length=0:=by rw [ho];rfl
   have hk4 : ¬ t.k=4:=afa hB ho
   rw [Zg ho,ZG ho,if_neg hk4,if_neg hk4] at h
   rw [if_neg (fun hh=>hk4 hh.1)] at S
   rw [if_neg (fun hh=>hk4 hh.1)]
   refine zp (fun s w'=>s = [.int .i64 c]∧w'=w6) (fun K3 hK3=>?_) ?_
   ·refine gg_ ?_
    refine c_f (by simp [hl]) ?_
    exact hK3 _ _ ⟨rfl,rfl⟩
   rintro _ _ ⟨rfl,rfl⟩ d7
   refine S.ldB (b:=b3) ?_ rfl
   refine S.stB (b:=b2) fun w7 S=>?_
   refine S.ceB (b:=b2) ?_ rfl
   have:=h _ nothing _ S.ext New.nothing zI
   rw [yb,Int.add_zero] at this
   exact this
  ·obtain ⟨ba,oa,rfl,cc,hc1,hcell,ht⟩:=NdG.of hof (i:=0) (by rw [ho];exact Nat.one_pos)
   have ht : TyG r (.agg cc.toArray) u:=by simpa [ho] using ht
   have hl : t.of.length=1:=by rw [ho];rfl
   have hlay : t.lay (yq t.regs c) = .mk t.k t.m (if t.k=4∧t.re = -1 then c else t.re) t.st [u.lay (yq u.regs (if t.k=4∧t.re = -1 then c+1 else c))]∧c+yb t.regs=(if t.k=4∧t.re = -1 then c+1 else c)+yb u.regs:=by
    rw [kP ho,kH ho]
    by_cases h4 : t.k=4
    ·have:=hlow h4
     by_cases h1 : t.re = -1
     ·simp [h4,h1,yq,yb];omega
     ·have hre : ¬ t.re<0:=by omega
      simp [h4,h1,yq,yb,hre]
    ·simp [h4]
   rw [hlay.1,hlay.2] at h
   generalize (if t.k=4∧t.re = -1 then c else t.re)=re' at S h
   generalize hc2 : (if t.k=4∧t.re = -1 then c+1 else c)=c2 at h ⊢
   have hc2b : 0≤c2∧c2+n≤1000000:=by split at hc2<;>omega
   rw [hl] at S
   refine zp (fun s w'=>s = [.int .i64 (c2+yb u.regs)]∧∃ b9 sn c',StX noX w (r.or (sn.or (one b9 c' 31))) w' [.cell b3 [.int .u8 t.k,.bool t.m,.int .i64 re',.int .i64 t.st,.slice (some ⟨b9,0,none⟩) 1 1] 31,.cell b2 yL 31,.cell b1 [.int .u8 t.k,.bool t.m,.int .i64 t.re,.int .i64 t.st,.slice (some ⟨ba,oa,none⟩) 1 cap] 31]∧
    TyG sn (.agg c'.toArray) (u.lay (yq u.regs c2))∧Above w (sn.or (one b9 c' 31))) (fun K3 hK3=>?_) ?_
   ·refine gg_ ?_
    refine c_t (by decide) ?_
    refine S.al fun b7 w7 S=>?_
    refine gg_ ?_
    refine zq (n:=5) hc1 (fun j v hj=>by simpa using S.at (hcell j v hj)) ?_
    refine ih (by have:=TyD.ht_of (t:=t) (u:=u) (by rw [ho];exact List.mem_singleton.2 rfl);omega) hu hc2b.1 hc2b.2 S.holds ht fun v' sn w13 e13 n13 hv'=>?_
    obtain ⟨S,dx,ax⟩:=S.tell e13 n13
    obtain ⟨q',cap',rfl,_⟩:=id hv'
    refine gS_ ?_
    refine S.stB (b:=b7) fun w14 S=>?_
    refine S.ldB (b:=b7) ?_ rfl
    refine S.lit (vm (c:=tyL (u.lay (yq u.regs c2)) q' cap') hv') fun b9 w15 S=>?_
    have hm:=S.mine (.cell b9 (tyL (u.lay (yq u.regs c2)) q' cap') 31) (by simp) b9 rfl
    refine gp_ ?_
    refine S.st (b:=b3) fun w16 S=>?_
    refine hK3 _ _ ⟨rfl,b9,sn,_,((S.frzAt b9).drop b7).reGh,hv',?_⟩
    rintro b o (hb|⟨rfl,_⟩)
    ·exact ax b o hb
    ·exact hm.1.resolve_right id
   clear S
   rintro _ w7 ⟨rfl,b9,sn,c',S,hv',hab⟩ d7
   refine S.ldB (b:=b3) ?_ rfl
   refine S.stB (b:=b2) fun w8 S=>?_
   refine S.ceB (b:=b2) ?_ rfl
   exact h _ (sn.or (one b9 c' 31)) _ S.ext (S.newOf hab) (vi hv')
end Go.Proofs
end
