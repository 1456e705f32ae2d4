/-
  The document's answer of layer 9: words, endless, Structs, Types.
  The document's answer of layer 9: Structs, Types, step, Walk.
  The document's answer of layer 9: step, Walk.
  The document's answer of layer 10: small parts.
  The document's answer of layer 10: rest.
  The document's answer of layer 10: walk, to, operand, args of an asker.
  The document's answer of layer 10: operand, args of an asker.
  Joined conditions with calls in them; facts of an asker.
  The document's answer of layer 10: a point.
  The document's answer of layer 10: what a type implies; the head of a graph.
  The document's answer of layer 10: the head of a graph.
  The document's answer of layer 10: Check, May, Is.
  loanwordlaw10.GraphTexts: whatever the program, the function, the point: the law returns true.
  Contracts of the library, laid at this program (by the kit's own tools).
  slices.Sort, slices.Compact, slices.Clip of a row of numbers that the walk has made itself.
  graph.Calls and the document's Calls.
  What the document says of points: Next, Operands, Assigns, Calls, places compared.
  Plain: nets (who comes behind whom), what is reached without going on from some, looked for breadth first.
  loanwordref10.Own: places and operands; what a memory of one's own tells.
  Contract: loanwordref10.Own, a program in memory of its own; one function's lists are told as rows that may be written over.
  Plain: a program that may be still may be with another point, or a local more; what it tells of sizes.
  Plain: a program that may be, with one function changed; what a point that may be tells of its operands' types.
  The net of a graph that may be.
  Plain: who lies above whom (without it there is no way): found by going round until nothing changes.
  Plain: the walk from point 0 (deep first) as steps of a machine; what is left behind.
  Plain: what the walk leaves behind: each point that is reached once; edges back; who lies above comes ahead.
-/
import Derived.Test.YtekpddhibldojaaGreatQKd
import Derived.Test.YtekpddhibldojaaGreatQKc
import Derived.Shelf.Sort.Plain
import Derived.Shelf.Bits.Mul64
import Derived.Shelf.Slices.Reverse
import Derived.Shelf.Slices.Clone
import Derived.Shelf.Slices.CompactI
import Derived.Shelf.Slices.In.SortNone
import Derived.Test.YtekpddhibldojaaGreatProg
import Derived.KernelRfl
import Derived.Test.YtekpddhibldojaaGreatQKa
section
namespace Go.Sh
theorem aka {w : World} {b g c : Bool} {A1 : (List Value→World→Prop)→Prop} {A2 : (List Value→World→Prop)→World→Prop} {Z : Value→World→Prop}
  (h1 : ∀ K : List Value→World→Prop,K [.bool g] w→A1 K) (h2 : ∀ K : List Value→World→Prop,K [.bool c] w→A2 K w) (hZ : Z (.bool (b&&(g||c))) w) :
  za (fun K=>gIf (.bool b) true (A1 K) (K [undef] w)) fun s15 _ w17=>
   za (fun K=>gIf (s15.getD 0 undef) false (A2 K w17) (K [undef] w17)) fun s19 _ w21=>
    za (fun K=>gIf (.bool b) true (zb (s15.getD 0 undef) (.bool true) (s19.getD 0 undef) fun t=>K [t] w21) (K [undef] w21)) fun s23 _ w25=>
     zb (.bool b) (s23.getD 0 undef) (.bool false) fun t=>Z t w25:=by
 cases b<;>cases g<;>cases c <;>
  (iterate 3 (intro K hK;first|refine hK _ _ fun _=>?_|refine h1 _ (hK _ _ fun _=>?_)|refine h2 _ (hK _ _ fun _=>?_)|refine ⟨_,rfl,hK _ _ fun _=>?_⟩)) <;>
  exact ⟨_,rfl,by simpa using hZ⟩
end Go.Sh
namespace Go.Proofs
open Go.Sh
set_option maxRecDepth 100000
set_option linter.unusedSimpArgs false
set_option linter.unusedVariables false
theorem adK {ss : List StD} {p : Option Addr} {cap : Nat} (hg : xG ss) (hac : ∀ k,¬ Rch ss k k) : ∀ (m : Nat) {t : TyD} {w : World} {r : Gh} {v : Value} {K : Value→World→Prop},m≤100→rkT ss t≤m→zz ss.length 48 t=true→ss.length≤32→(∀ k,(ze ss k).length≤8)→
  Holds r w→StG r p ss→TyG r v t→(∀ (n : Nat) w',Ext w w'→n≤17*m+1→(n=wF ss m t∨(16<n∧16<wF ss m t))→K (.int .i64 (n : Int)) w')→zd Tryz.prog Tryz.jq #[.slice p ss.length cap,v] w K:=by
 intro m
 induction m with
 |zero=>
  intro t w r v K _ hrk hl h32 h8 hr hs hv h
  have h5 : ¬ t.k=5:=fun h=>by unfold rkT at hrk;rw [if_pos h] at hrk;omega
  refine Tryz.X3 ?_
  unfold Tryz.ZM
  obtain ⟨p1,cap1,rfl,_⟩:=hv
  have S:=St.start hr
  refine S.box fun b3 w1 S=>?_
  refine gg_ ?_
  refine zk (fun _=>?_) (fun hn=>absurd (by omega) h5)
  exact h 1 _ S.ext (by omega) (.inl (by rw [wF]))
 |succ m ih=>
  intro t w r v K hm hrk hl h32 h8 hr hs hv h
  refine Tryz.X3 ?_
  unfold Tryz.ZM
  obtain ⟨p1,cap1,rfl,_⟩:=hv
  have S:=St.start hr
  refine S.box fun b3 w1 S=>?_
  refine gg_ ?_
  refine zk (fun hn=>?_) (fun h5=>?_)
  ·exact h 1 _ S.ext (by omega) (.inl (by rw [wF,if_neg (by omega)]))
  have h5 : t.k=5:=by omega
  obtain ⟨hst0,hst1,_⟩:=qI hl h5
  have hlt : t.st.toNat<ss.length:=by omega
  obtain ⟨b,off,q,capq,rfl,hcell,_,_,hf⟩:=xE hs hlt
  have htl : ze ss t.st=ss[t.st.toNat].fs.map (·.2):=by
   rw [← yz hlt];simp only [ze,Int.toNat_natCast]
  have hlen : (ze ss t.st).length=ss[t.st.toNat].fs.length:=by rw [htl,List.length_map]
  have h88:=h8 t.st
  refine zi (ι:=Nat × Nat) (fun i=>[.int .i64 (i.2 : Nat),.int .i64 (i.1 : Nat)]) (fun i w'=>i.1≤(ze ss t.st).length∧i.2≤17*(m+1)+1∧(i.2=ya (((ze ss t.st).take i.1).map (wF ss m))∨(16<i.2∧16<ya (((ze ss t.st).take i.1).map (wF ss m))))∧St w r w' _)
   (fun i=>(ze ss t.st).length - i.1) (0,0) rfl ⟨Nat.zero_le _,Nat.zero_le _,.inl (by simp [ya]),S⟩ ?_
  clear S
  rintro ⟨i,n⟩ d w2 ⟨hi,hnb,hn,S⟩ K6 hK6
  simp only at hi hnb hn S ⊢
  simp only [List.getD_cons_zero,List.getD_cons_succ]
  refine gg_ ?_
  refine zg (S.at hcell) ?_
  refine gg_ ?_
  have hle : ya (((ze ss t.st).take i).map (wF ss m))≤wF ss (m+1) t:=by
   rw [wF,if_pos h5];exact ach _ _ _
  refine zf (c:=decide (n≤16)) (fun _ K2 hK2=>?_) ?_
  ·refine gg_ ?_
   rw [show decide ((n : Int)≤16)=decide (n≤16) from decide_eq_decide.2 (by omega)]
   exact hK2
  refine c_b (fun hlt2=>?_) (fun hge=>?_)
  ·obtain ⟨hlt2,hsm⟩ : i<ss[t.st.toNat].fs.length∧n≤16:=by
    simp only [Bool.and_eq_true,decide_eq_true_eq] at hlt2;omega
   have hlt3 : i<(ze ss t.st).length:=by omega
   have hn : n=ya (((ze ss t.st).take i).map (wF ss m)):=by omega
   obtain ⟨b2,off2,c,rfl,hcl,hcc,hty⟩:=qd hf hlt2
   refine gg_ ?_
   refine zg (S.at hcell) ?_
   refine gg_ ?_
   refine zq (n:=5) (c:=c) hcl (fun j v hj=>by
    have:=S.at (hcc (j+1) v (by simpa using hj))
    rw [Int.toNat_natCast,Nat.add_assoc _ 1 j,Nat.add_comm 1 j];exact this) ?_
   have hel : (ze ss t.st)[i]=ss[t.st.toNat].fs[i].2:=by simp only [htl,List.getElem_map]
   have hmem : ss[t.st.toNat].fs[i].2 ∈ ze ss t.st:=by rw [← hel];exact List.getElem_mem hlt3
   have hrk2:=abf hg hac h5 hmem
   refine ih (by omega) (by omega) (hg _ _ hmem) h32 h8 S.holds hs hty fun x w5 e5 hxb hx=>?_
   have S:=S.go e5
   have hst:=Jl (wF ss m) hlt3
   rw [hel] at hst
   refine gg_ ?_
   rw [show ((n : Int)+(x : Int))=((n+x : Nat) : Int) by omega,show ((i : Int)+1)=((i+1 : Nat) : Int) by omega]
   exact hK6 (i+1,n+x) _ ⟨hlt3,by simp only;omega,by simp only;omega,S⟩ (by simp only;omega)
  ·refine h n _ S.ext hnb ?_
   by_cases hie : i=(ze ss t.st).length
   ·rw [hie,List.take_length] at hn
    rw [wF,if_pos h5];exact hn
   ·have h1 : ¬ n≤16:=by
     intro hc
     rw [decide_eq_true hc,Bool.and_true,decide_eq_false_iff_not] at hge
     omega
    exact .inr ⟨by omega,by omega⟩
theorem ag6 : ∀ (l : List Bool) (L : Nat),(∀ j,l.getD j false=true→j<L)→l.length≤cf l+L
 |[],L,_=>Nat.zero_le _
 |b::l,0,h=>by
  have hb : b=false:=by
   cases b
   ·rfl
   ·exact absurd (h 0 rfl) (Nat.lt_irrefl 0)
  have:=ag6 l 0 fun j hj=>absurd (h (j+1) (by simpa using hj)) (Nat.not_lt_zero _)
  rw [hb,cf,List.length_cons]
  simp only [Bool.false_eq_true,if_false]
  omega
 |b::l,L+1,h=>by
  have:=ag6 l L fun j hj=>Nat.lt_of_succ_lt_succ (h (j+1) (by simpa using hj))
  rw [cf,List.length_cons]
  omega
def Shut (ss : List StD) (k : Nat) (met : List Bool) : Prop:=∀ b : Nat,b<ss.length→(b=k∨mt met b=true)→∀ t ∈ ze ss b,t.k=5→mt met t.st=true
theorem ai4 {ss : List StD} {k : Nat} {met : List Bool} (hg : xG ss) (hk : k<ss.length) (h : Shut ss k met) {j : Int} (hr : Rch ss k j) : mt met j=true:=by
 induction hr with
 |one e=>obtain ⟨t,ht,h5,rfl⟩:=e;exact h k hk (.inl rfl) t ht h5
 |@more x j hr e ih=>
  obtain ⟨t,ht,h5,rfl⟩:=e
  have hin:=abd hg hr
  have hx : ((x.toNat : Nat) : Int)=x:=by omega
  exact h x.toNat (by omega) (.inr (by rw [hx];exact ih)) t (by rw [hx];exact ht) h5
theorem acs {met : List Bool} {j : Int} (h : mt met j=true) : met.set j.toNat true=met:=by
 unfold mt at h
 rw [List.getD_eq_getElem?_getD] at h
 by_cases hl : j.toNat<met.length
 ·rw [List.getElem?_eq_getElem hl] at h
  have h : met[j.toNat]=true:=h
  rw [← h,List.set_getElem_self]
 ·rw [List.getElem?_eq_none (by omega)] at h;cases h
set_option maxHeartbeats 1000000 in
theorem abz {ss : List StD} {p : Option Addr} {cap k : Nat} (hg : xG ss) (h32 : ss.length≤32) (hk : k<ss.length) (h8 : ∀ k,(ze ss k).length≤8) {w : World} {r : Gh} {K : Value→World→Prop} (hr : Holds r w) (hs : StG r p ss)
  (h : ∀ w',Ext w w'→K (.bool (kT ss k)) w') : zd Tryz.prog Tryz.j0 #[.slice p ss.length cap,.int .i64 (k : Nat)] w K:=by
 refine Tryz.aaF ?_
 unfold Tryz.Xl
 have S:=St.start hr
 refine S.al fun b5 w1 S=>?_
 have S : StX noX w r w1 [.cell b5 (z8 (List.replicate 32 false)) 205]:=S
 have hno : ∀ j : Nat,mt (List.replicate 32 false) j=true→False:=fun j hj=>by
  unfold mt at hj;rw [List.getD_eq_getElem?_getD,List.getElem?_replicate] at hj
  split at hj<;>cases hj
 refine zi (ι:=Nat × List Bool) (fun i=>[.int .i64 (i.1 : Nat)]) (fun i w'=>i.1≤ss.length+1∧i.2.length=32∧(∀ j : Nat,mt i.2 j=true→Rch ss k j)∧(Shut ss k i.2∨cf i.2+i.1≤32)∧StX noX w r w' [.cell b5 (z8 i.2) 205])
  (fun i=>ss.length+1 - i.1) (0,List.replicate 32 false) rfl ⟨Nat.zero_le _,rfl,fun j hj=>(hno j hj).elim,.inr (show cf (List.replicate 32 false)+0≤32 by decide),S⟩ ?_
 clear S
 rintro ⟨R,met⟩ d w2 ⟨hR,hl32,hsnd,hcl,S⟩ K2 hK2
 simp only at hR hl32 hsnd hcl S ⊢
 rw [List.getD_cons_zero]
 refine gg_ ?_
 refine zk (fun hlt=>?_) (fun hge=>?_)
 rotate_left
 ·have hRe : R=ss.length+1:=by omega
  have hsh : Shut ss k met:=by
   refine hcl.resolve_right fun hc=>?_
   have:=ag6 met ss.length fun j hj=>by
    have h1 : mt met j=true:=by unfold mt;rw [Int.toNat_natCast];exact hj
    have:=abd hg (hsnd j h1)
    omega
   omega
  refine gg_ ?_
  refine S.ld (b:=b5) (v:=.bool (mt met (k : Int))) ?_ (by rw [Nat.zero_add,Nat.mul_one];exact Yy (by omega))
  rw [Vk (b:=mt met (k : Int)) (fun hb=>hsnd k hb) fun hr=>ai4 hg hk hsh hr]
  exact h _ S.ext
 have hlt : R≤ss.length:=by omega
 refine zi (ι:=Nat × List Bool) (fun i=>[.int .i64 (i.1 : Nat)]) (fun i w'=>i.1≤ss.length∧i.2.length=32∧(∀ j : Nat,mt i.2 j=true→Rch ss k j)∧cf i.2≤cf met∧(cf i.2=cf met→∀ b : Nat,b<i.1→(b=k∨mt i.2 b=true)→∀ t ∈ ze ss b,t.k=5→mt i.2 t.st=true)∧(Shut ss k met→i.2=met)∧StX noX w r w' [.cell b5 (z8 i.2) 205])
  (fun i=>ss.length - i.1) (0,met) rfl ⟨Nat.zero_le _,hl32,hsnd,Nat.le_refl _,fun _ b hb=>absurd hb (Nat.not_lt_zero _),fun _=>rfl,S⟩ ?_
 clear S
 rintro ⟨b,m1⟩ d w3 ⟨hb,hl1,hsnd1,hc1,hsh1,hfx1,S⟩ K6 hK6
 simp only at hb hl1 hsnd1 hc1 hsh1 hfx1 S ⊢
 rw [List.getD_cons_zero]
 refine gg_ ?_
 refine zk (fun hlt2=>?_) (fun hge2=>?_)
 rotate_left
 ·have hbe : b=ss.length:=by omega
  refine gg_ ?_
  rw [show ((R : Int)+1)=((R+1 : Nat) : Int) by omega]
  refine hK2 (R+1,m1) _ ⟨by simp only;omega,hl1,hsnd1,?_,S⟩ (by simp only;omega)
  rcases hcl with hcl|hcl
  ·rw [hfx1 hcl];exact .inl hcl
  ·by_cases hce : cf m1=cf met
   ·exact .inl fun b' hb'=>hsh1 hce b' (by omega)
   ·exact .inr (by simp only;omega)
 have hlt2 : b<ss.length:=by omega
 obtain ⟨bs,os,q,capf,rfl,hcs,_,_,hf⟩:=xE hs hlt2
 have htl:=yz hlt2
 have hlen : (ze ss (b : Int)).length=ss[b].fs.length:=by rw [htl,List.length_map]
 have h88:=h8 b
 refine zi (ι:=Nat × List Bool) (fun i=>[.int .i64 (i.1 : Nat)]) (fun i w'=>i.1≤(ze ss (b : Int)).length∧i.2.length=32∧(∀ j : Nat,mt i.2 j=true→Rch ss k j)∧cf i.2≤cf met∧(cf i.2=cf met→∀ b' : Nat,b'<b→(b'=k∨mt i.2 b'=true)→∀ t ∈ ze ss b',t.k=5→mt i.2 t.st=true)∧
   (cf i.2=cf met→∀ t ∈ (ze ss (b : Int)).take i.1,t.k=5→mt i.2 t.st=true)∧(Shut ss k met→i.2=met)∧StX noX w r w' [.cell b5 (z8 i.2) 205])
  (fun i=>(ze ss (b : Int)).length - i.1) (0,m1) rfl ⟨Nat.zero_le _,hl1,hsnd1,hc1,hsh1,fun _ t ht=>by simp at ht,hfx1,S⟩ ?_
 clear S
 rintro ⟨i,m2⟩ d w4 ⟨hi,hl2,hsnd2,hc2,hsh2,hrow2,hfx2,S⟩ K10 hK10
 simp only at hi hl2 hsnd2 hc2 hsh2 hrow2 hfx2 S ⊢
 rw [List.getD_cons_zero]
 refine gg_ ?_
 refine zg (by rw [Int.toNat_natCast];exact S.at hcs) ?_
 refine gg_ ?_
 refine aka (g:=decide ((b : Int)=(k : Int))) (c:=mt m2 (b : Int)) (fun K hK=>by refine gg_ ?_;exact hK) (fun K hK=>?_) ?_
 ·refine gg_ ?_
  refine S.ld (b:=b5) (v:=.bool (mt m2 (b : Int))) ?_ (by rw [Nat.zero_add,Nat.mul_one];exact Yy (by omega))
  exact hK
 refine c_b (fun hgo=>?_) (fun hno=>?_)
 rotate_left
 ·refine gg_ ?_
  rw [show ((b : Int)+1)=((b+1 : Nat) : Int) by omega]
  refine hK6 (b+1,m2) _ ⟨hlt2,hl2,hsnd2,hc2,fun hce b' hb' hor t ht h5=>?_,hfx2,S⟩ (by simp only;omega)
  have hb' : b'<b+1:=hb'
  by_cases hbb : b'=b
  ·subst hbb
   by_cases hie : i=(ze ss (b' : Int)).length
   ·refine hrow2 hce t ?_ h5
    rw [hie,List.take_length];exact ht
   ·exfalso
    have hor : b'=k∨mt m2 (b' : Int)=true:=hor
    rw [decide_eq_true (show (i : Int)<(ss[b'].fs.length : Int) by omega),Bool.true_and,Bool.or_eq_false_iff,decide_eq_false_iff_not] at hno
    rcases hor with rfl|hor
    ·exact hno.1 rfl
    ·rw [hno.2] at hor;cases hor
  ·exact hsh2 hce b' (by omega) hor t ht h5
 simp only [Bool.and_eq_true,Bool.or_eq_true,decide_eq_true_eq] at hgo
 obtain ⟨hil,hor⟩:=hgo
 have hlt3 : i<ss[b].fs.length:=by omega
 have hlt4 : i<(ze ss (b : Int)).length:=by omega
 have hel : (ze ss (b : Int))[i]=ss[b].fs[i].2:=by simp only [htl,List.getElem_map]
 obtain ⟨b2,off2,c,rfl,hcl2,hcc,hty⟩:=qd hf hlt3
 obtain ⟨pt,capt,rfl,_⟩:=Yx hty
 have lk : Ob r fun w=>w.cell? ⟨b2,off2+i*6+1,none⟩=some (.int .u8 ss[b].fs[i].2.k):=hcc 1 _ rfl
 have ls : Ob r fun w=>w.cell? ⟨b2,off2+i*6+4,none⟩=some (.int .i64 ss[b].fs[i].2.st):=hcc 4 _ rfl
 have hst:=List.take_succ_eq_append_getElem hlt4
 have hmem : (ze ss (b : Int))[i] ∈ ze ss (b : Int):=List.getElem_mem hlt4
 rw [hel] at hst hmem
 generalize ss[b].fs[i].2=u at lk ls hst hmem
 have hgo2 : ∀ {m3 : List Bool} {w9 : World},m3.length=32→(∀ j : Nat,mt m3 j=true→Rch ss k j)→cf m3≤cf m2→(cf m3=cf m2→m3=m2)→(cf m3=cf met→u.k=5→mt m3 u.st=true)→(Shut ss k met→m3=met)→StX noX w r w9 [.cell b5 (z8 m3) 205]→K10 [.int .i64 ((i+1 : Nat) : Int)] w9:=fun h1 h2 h3 h4 h5 h6 S=>by
  refine hK10 (i+1,_) _ ⟨hlt4,h1,h2,by simp only;omega,fun hce=>?_,fun hce t ht htk=>?_,h6,S⟩ (by simp only;omega)
  ·rw [h4 (by simp only at hce;omega)];exact hsh2 (by simp only at hce;omega)
  ·simp only at hce ht ⊢
   rw [hst,List.mem_append,List.mem_singleton] at ht
   rcases ht with ht|rfl
   ·rw [h4 (by omega)];exact hrow2 (by omega) t ht htk
   ·exact h5 hce htk
 refine zp (fun _ w'=>∃ m3 : List Bool,m3.length=32∧(∀ j : Nat,mt m3 j=true→Rch ss k j)∧cf m3≤cf m2∧(cf m3=cf m2→m3=m2)∧(cf m3=cf met→u.k=5→mt m3 u.st=true)∧(Shut ss k met→m3=met)∧StX noX w r w' [.cell b5 (z8 m3) 205]) (fun K11 hK11=>?_) ?_
 rotate_left
 ·rintro _ w5 ⟨m3,h1,h2,h3,h4,h5,h6,S⟩ d5
  refine gg_ ?_
  rw [show ((i : Int)+1)=((i+1 : Nat) : Int) by omega]
  exact hgo2 h1 h2 h3 h4 h5 h6 S
 refine gg_ ?_
 refine zg (by rw [Int.toNat_natCast];exact S.at hcs) ?_
 refine gg_ ?_
 refine zg (by rw [Int.toNat_natCast];exact S.at lk) ?_
 refine gg_ ?_
 refine zk (fun h5=>?_) (fun h5=>?_)
 rotate_left
 ·exact hK11 _ _ ⟨m2,hl2,hsnd2,Nat.le_refl _,fun _=>rfl,fun _ hh=>absurd (by omega) h5,hfx2,S⟩
 have h5 : u.k=5:=by omega
 have hkid : Kid ss (b : Int) u.st:=⟨u,hmem,h5,rfl⟩
 have hin:=j1 hg hkid
 have hrk : Rch ss k u.st:=by
  rcases hor with hor|hor
  ·have : b=k:=by omega
   subst this;exact .one hkid
  ·exact .more (hsnd2 b hor) hkid
 refine gg_ ?_
 refine zg (by rw [Int.toNat_natCast];exact S.at hcs) ?_
 refine gg_ ?_
 refine zg (by rw [Int.toNat_natCast];exact S.at ls) ?_
 refine gg_ ?_
 refine S.st (b:=b5) (fun w7 S=>?_) (by rw [Jn];omega)
 have e1 : (z8 m2).set (0+u.st.toNat*1) (.bool true)=z8 (m2.set u.st.toNat true):=by
  rw [Nat.zero_add,Nat.mul_one,z8,z8,List.map_set]
 rw [e1] at S
 have hms : ∀ j : Int,0≤j→mt (m2.set u.st.toNat true) j=(decide (j=u.st)||mt m2 j):=fun j hj=>aeI hin.1 hj (by omega)
 refine hK11 _ _ ⟨m2.set u.st.toNat true,by rw [List.length_set];exact hl2,fun j hj=>?_,?_,fun hce=>?_,fun _ _=>?_,fun hsh=>?_,S⟩
 ·rw [hms j (by omega),Bool.or_eq_true,decide_eq_true_eq] at hj
  rcases hj with hj|hj
  ·rw [hj];exact hrk
  ·exact hsnd2 j hj
 ·cases hm : mt m2 u.st with
  |true=>rw [acs hm];exact Nat.le_refl _
  |false=>
   have:=Jm (l:=m2) (i:=u.st.toNat) (by
    unfold mt at hm
    rw [List.getD_eq_getElem?_getD,List.getElem?_eq_getElem (by omega)] at hm
    rw [List.getElem?_eq_getElem (by omega)]
    simpa using hm)
   omega
 ·cases hm : mt m2 u.st with
  |true=>exact acs hm
  |false=>
   have:=Jm (l:=m2) (i:=u.st.toNat) (by
    unfold mt at hm
    rw [List.getD_eq_getElem?_getD,List.getElem?_eq_getElem (by omega)] at hm
    rw [List.getElem?_eq_getElem (by omega)]
    simpa using hm)
   omega
 ·rw [hms _ hin.1];simp
 ·have hm2:=hfx2 hsh
  have hmt : mt met u.st=true:=hsh b hlt2 (by
   rcases hor with hor|hor
   ·exact .inl (by omega)
   ·rw [← hm2];exact .inr hor) u hmem h5
  rw [hm2,acs hmt]
end Go.Proofs
end
section
namespace Go.Proofs
open Go.Sh
set_option maxRecDepth 100000
set_option linter.unusedSimpArgs false
set_option linter.unusedVariables false
set_option maxHeartbeats 1000000 in
theorem Xm {ss : List StD} {p : Option Addr} {cap : Nat} {w : World} {r : Gh} {K : Value→World→Prop} (hr : Holds r w) (hs : StG r p ss)
  (h : ∀ w',Ext w w'→K (.bool (decide ((zw ss).2=0))) w') : zd Tryz.prog Tryz.k8 #[.slice p ss.length cap] w K:=by
 refine Tryz.aaE ?_
 unfold Tryz.Xk
 have S:=St.start hr
 refine gg_ ?_
 refine c_b (fun hbig=>?_) (fun hsm=>?_)
 ·have hbig : 32<ss.length:=by have:=of_decide_eq_true hbig;omega
  rw [zw,if_pos hbig] at h
  exact h _ S.ext
 have hsm : ¬ 32<ss.length:=by have:=of_decide_eq_false hsm;omega
 rw [zw,if_neg hsm] at h
 refine zi (ι:=Nat) (fun i=>[.int .i64 (i : Nat)]) (fun i w'=>i≤ss.length∧(∀ j,j<i→y6 ss j=false)∧StX noX w r w' []) (fun i=>ss.length - i) 0 rfl ⟨Nat.zero_le _,fun j hj=>by omega,S⟩ ?_
 clear S
 rintro i d w1 ⟨hi,hb,S⟩ K1 hK1
 rw [List.getD_cons_zero]
 refine gg_ ?_
 refine c_b (fun hlt=>?_) (fun hge=>?_)
 ·have hlt : i<ss.length:=by simpa using hlt
  have hbadd : y6 ss i=true→∀ w',Ext w w'→K (.bool false) w':=fun hbd w' e=>by
   have hf:=qm hlt hbd hb
   have:=h w' e
   rw [hf,if_pos hlt] at this
   exact this
  obtain ⟨b,off,q,capq,rfl,hcell,hq0,hqc,hf⟩:=xE hs hlt
  have hlen:=Zs hlt
  have htl:=yz hlt
  refine gg_ ?_
  refine zg (by rw [Int.toNat_natCast];exact S.at hcell) ?_
  refine gg_ ?_
  refine zj (c:=decide (8<(ze ss i).length)) (fun _ K2 hK2=>?_) ?_
  ·refine gg_ ?_
   refine zg (by rw [Int.toNat_natCast];exact S.at hcell) ?_
   refine gg_ ?_
   rw [show decide ((8 : Int)<(ss[i].fs.length : Int))=decide (8<(ze ss i).length) from decide_eq_decide.2 (by omega)]
   exact hK2
  rw [show decide ((ss[i].fs.length : Int)<1)=decide ((ze ss i).length<1) from decide_eq_decide.2 (by omega)]
  refine c_b (fun hl=>?_) (fun hl=>?_)
  ·refine hbadd ?_ _ S.ext
   rw [y6,hl];rfl
  have hl8 : (ze ss (i : Int)).length≤8:=by
   simp only [Bool.or_eq_false_iff,decide_eq_false_iff_not] at hl;omega
  refine zi (ι:=Nat) (fun k=>[.int .i64 (k : Nat)]) (fun k w'=>k≤(ze ss i).length∧(((ze ss i).take k).any fun t=>!zz ss.length 48 t||decide (0<t.regs.length))=false∧StX noX w r w' []) (fun k=>(ze ss i).length - k) 0 rfl ⟨Nat.zero_le _,by simp,S⟩ ?_
  clear S
  rintro k d w2 ⟨hk,hno,S⟩ K9 hK9
  rw [List.getD_cons_zero]
  refine gg_ ?_
  refine zg (by rw [Int.toNat_natCast];exact S.at hcell) ?_
  refine gg_ ?_
  refine c_b (fun hlt2=>?_) (fun hge2=>?_)
  ·have hlt2 : k<ss[i].fs.length:=by simpa using hlt2
   have hlt3 : k<(ze ss i).length:=by omega
   have hel : (ze ss i)[k]=ss[i].fs[k].2:=by simp only [htl,List.getElem_map]
   obtain ⟨b2,off2,c,rfl,hcl,hcc,hty⟩:=qd hf hlt2
   refine gg_ ?_
   refine zg (by rw [Int.toNat_natCast];exact S.at hcell) ?_
   refine gg_ ?_
   refine zq (n:=5) (c:=c) hcl (fun j v hj=>by
    have:=S.at (hcc (j+1) v (by simpa using hj))
    rw [Int.toNat_natCast,Nat.add_assoc _ 1 j,Nat.add_comm 1 j];exact this) ?_
   refine gg_ ?_
   refine j5 48 (by decide) S.holds hty fun w3 e3=>?_
   have S:=S.go e3
   refine gg_ ?_
   have hmt : mtB ss.length 48 false ss[i].fs[k].2 = !(!zz ss.length 48 ss[i].fs[k].2||decide (0<ss[i].fs[k].2.regs.length)):=by
    rw [mtB,Bool.false_or,Bool.not_or,Bool.not_not,← decide_not]
    congr 1
    exact decide_eq_decide.2 (by omega)
   rw [hmt,Bool.not_not]
   refine c_b (fun hy=>?_) (fun hn=>?_)
   ·refine hbadd ?_ _ S.ext
    have : ((ze ss i).any fun t=>!zz ss.length 48 t||decide (0<t.regs.length))=true:=List.any_eq_true.2 ⟨_,List.getElem_mem hlt3,by rw [hel];exact hy⟩
    rw [y6,this,Bool.or_true]
   ·refine gg_ ?_
    rw [show ((k : Int)+1)=((k+1 : Nat) : Int) by omega]
    refine hK9 (k+1) _ ⟨hlt3,?_,S⟩ (by omega)
    rw [List.take_succ_eq_append_getElem hlt3,List.any_append,hno,hel]
    simp only [List.any_cons,List.any_nil,Bool.false_or,Bool.or_false]
    exact hn
  ·have hie : k=(ze ss i).length:=by
    have : ¬ k<ss[i].fs.length:=by simpa using hge2
    omega
   rw [hie,List.take_length] at hno
   refine gg_ ?_
   rw [show ((i : Int)+1)=((i+1 : Nat) : Int) by omega]
   refine hK1 (i+1) _ ⟨hlt,fun j hj=>?_,S⟩ (by omega)
   by_cases hji : j=i
   ·rw [hji,y6,hl,hno];rfl
   ·exact hb j (by omega)
 have hie : i=ss.length:=by
  have : ¬ i<ss.length:=by simpa using hge
  omega
 rw [hie] at hb
 have h1 : ¬ xb ss.length (y6 ss)<ss.length:=by rw [qk hb];omega
 rw [if_neg h1] at h
 have hgd:=XX hb
 refine zi (ι:=Nat) (fun i=>[.int .i64 (i : Nat)]) (fun i w'=>i≤ss.length∧(∀ j,j<i→kT ss j=false)∧StX noX w r w' []) (fun i=>ss.length - i) 0 rfl ⟨Nat.zero_le _,fun j hj=>by omega,S⟩ ?_
 clear S hie hge hi
 rintro i d w5 ⟨hi,hb2,S⟩ K1 hK1
 rw [List.getD_cons_zero]
 refine gg_ ?_
 refine c_b (fun hlt=>?_) (fun hge=>?_)
 ·have hlt : i<ss.length:=by simpa using hlt
  refine abz hgd (by omega) hlt (xL hb) S.holds hs fun w6 e6=>?_
  have S:=S.go e6
  refine c_b (fun hy=>?_) (fun hn=>?_)
  ·have hf:=qm hlt hy hb2
   rw [hf,if_pos hlt] at h
   exact h _ S.ext
  ·refine gg_ ?_
   rw [show ((i : Int)+1)=((i+1 : Nat) : Int) by omega]
   refine hK1 (i+1) _ ⟨hlt,fun j hj=>?_,S⟩ (by omega)
   by_cases hji : j=i
   ·rw [hji];exact hn
   ·exact hb2 j (by omega)
 have hie : i=ss.length:=by
  have : ¬ i<ss.length:=by simpa using hge
  omega
 rw [hie] at hb2
 have h2 : ¬ xb ss.length (kT ss)<ss.length:=by rw [qk hb2];omega
 rw [if_neg h2] at h
 have hac:=Vj hgd hb2
 refine zi (ι:=Nat) (fun i=>[.int .i64 (i : Nat)]) (fun i w'=>i≤ss.length∧(∀ j,j<i→vQ ss j=false)∧StX noX w r w' []) (fun i=>ss.length - i) 0 rfl ⟨Nat.zero_le _,fun j hj=>by omega,S⟩ ?_
 clear S hie hge hi
 rintro i d w5 ⟨hi,hb3,S⟩ K1 hK1
 rw [List.getD_cons_zero]
 refine gg_ ?_
 refine c_b (fun hlt=>?_) (fun hge=>?_)
 ·have hlt : i<ss.length:=by simpa using hlt
  refine zy (cs:=#[.int .u8 5,.bool false,.int .i64 0,.int .i64 i,.slice none 0 0]) (by kernel_rfl) ?_
  refine adK hgd hac 40 (t:=.mk 5 false 0 i []) (by decide) (by have:=abe ss (.mk 5 false 0 i []);omega) ?_ (by omega) (xL hb) S.holds hs (xe (r:=r)) fun x w9 e9 _ hx=>?_
  ·rw [xp]
   simp [TyD.k,TyD.m,TyD.re,TyD.of,TyD.st]
   omega
  have S:=S.go e9
  refine gg_ ?_
  rw [show decide ((x : Int) > 16)=decide (16<wF ss 40 (.mk 5 false 0 i [])) from decide_eq_decide.2 (by omega)]
  refine c_b (fun hy=>?_) (fun hn=>?_)
  ·have hf:=qm (p:=vQ ss) hlt hy hb3
   rw [hf,if_pos hlt] at h
   exact h _ S.ext
  ·refine gg_ ?_
   rw [show ((i : Int)+1)=((i+1 : Nat) : Int) by omega]
   refine hK1 (i+1) _ ⟨hlt,fun j hj=>?_,S⟩ (by omega)
   by_cases hji : j=i
   ·rw [hji];exact hn
   ·exact hb3 j (by omega)
 have hie : i=ss.length:=by
  have : ¬ i<ss.length:=by simpa using hge
  omega
 rw [hie] at hb3
 have h3 : ¬ xb ss.length (vQ ss)<ss.length:=by rw [qk hb3];omega
 rw [if_neg h3] at h
 exact h _ S.ext
theorem adL {ss : List StD} {tys : List TyD} {p q : Option Addr} {cap capt : Nat} {w : World} {r : Gh} {K : Value→World→Prop} (hr : Holds r w) (hs : StG r p ss) (ht : TysG r q tys) (htl : tys.length≤maxLen)
  (h : ∀ w',Ext w w'→K (.bool (decide ((zw ss).2=0)&&tys.all fun t=>mayB ss t)) w') : zd Tryz.prog Tryz.ZC #[.slice p ss.length cap,.slice q tys.length capt] w K:=by
 refine Tryz.aco ?_
 unfold Tryz.QN
 have S:=St.start hr
 have htl' : tys.length≤9223372036854775807:=htl
 refine Xm S.holds hs fun w1 e1=>?_
 have S:=S.go e1
 refine gp_ ?_
 by_cases hst : (zw ss).2=0
 ·rw [decide_eq_true hst] at h ⊢
  refine c_f rfl ?_
  refine zi (ι:=Nat) (fun i=>[.int .i64 (i : Nat)]) (fun i w'=>i≤tys.length∧((tys.take i).all fun t=>mayB ss t)=true∧StX noX w r w' []) (fun i=>tys.length - i) 0 rfl ⟨Nat.zero_le _,by simp,S⟩ ?_
  clear S
  rintro i d w2 ⟨hi,hall,S⟩ K2 hK2
  rw [List.getD_cons_zero]
  refine gg_ ?_
  refine zk (fun hlt=>?_) (fun hge=>?_)
  ·have hlt : i<tys.length:=by omega
   obtain ⟨b,off,c,rfl,hc,hcell,hto⟩:=ht i hlt
   obtain ⟨q2,cap2,rfl,ht2⟩:=yU hto
   refine gg_ ?_
   refine zq (n:=5) hc (fun j v hj=>by rw [Int.toNat_natCast];exact S.at (hcell j v hj)) ?_
   refine gg_ ?_
   refine j5 48 (by decide) S.holds ht2 fun w3 e3=>?_
   have S:=S.go e3
   rw [aeX]
   refine gg_ ?_
   have hm : mayB ss tys[i]=zz ss.length 48 tys[i]:=by rw [mayB,decide_eq_true hst,Bool.true_and]
   refine c_b (fun hb=>?_) (fun hb=>?_)
   ·have hf : (tys.all fun t=>mayB ss t)=false:=by
     rw [List.all_eq_false]
     exact ⟨tys[i],List.getElem_mem hlt,by rw [hm];simpa using hb⟩
    have:=h _ S.ext
    rw [hf,Bool.and_false] at this
    exact this
   ·refine gg_ ?_
    rw [show ((i : Int)+1)=((i+1 : Nat) : Int) by omega]
    refine hK2 (i+1) _ ⟨hlt,?_,S⟩ (by omega)
    rw [List.take_succ_eq_append_getElem hlt,List.all_append,hall]
    simp only [List.all_cons,List.all_nil,Bool.true_and,Bool.and_true]
    rw [hm];simpa using hb
  ·have hie : i=tys.length:=by omega
   rw [hie,List.take_length] at hall
   have:=h _ S.ext
   rw [hall,Bool.and_true] at this
   exact this
 ·rw [decide_eq_false hst] at h ⊢
  refine c_t rfl ?_
  exact h _ S.ext
end Go.Proofs
end
section
namespace Go.Proofs
open Go.Sh
set_option maxRecDepth 100000
set_option linter.unusedSimpArgs false
set_option linter.unusedVariables false
theorem JG {ss : List StD} {t : TyD} {k : Int} {p q : Option Addr} {cap ct : Nat} {w : World} {r : Gh} {K : Value→World→Prop} (hft : Fine ss t) (hr : Holds r w) (hs : StG r p ss) (htt : TyG r (tyV t q ct) t)
  (h : ∀ t' q' c' (n : Int) (ok : Bool) w',Ext w w'→TyG r (tyV t' q' c') t'→(ok=true→ye ss t k=some (t',n))→(ok=false→ye ss t k=none)→K (.tuple #[tyV t' q' c',.int .i64 n,.bool ok]) w') :
  zd Tryz.prog Tryz.jZ #[.slice p ss.length cap,tyV t q ct,.int .i64 k] w K:=by
 refine Tryz.adE ?_
 unfold Tryz.Jz
 have S:=St.start hr
 refine S.box fun b4 w1 S=>?_
 have S : StX noX w r w1 [.cell b4 (tyL t q ct) 93]:=S
 refine S.al fun b6 w2 S=>?_
 have down : (t.k=3∨t.k=4)→∃ uu,t.of = [uu]:=by
  intro hk
  rcases hft.cases with ⟨_,h1⟩|⟨uu,h1,_⟩
  ·omega
  ·exact ⟨uu,h1⟩
 have hinn : ∀ {hw : Int},k = -1→((t.k=3∧hw=1)∨(t.k=4∧hw=if t.m then 2 else 3))→∀ {uu : TyD},t.of = [uu]→ye ss t k=some (uu,hw):=fun hk1 h34 uu hof=>by
  rcases h34 with ⟨h1,h2⟩|⟨h1,h2⟩
  ·rw [ye,if_pos ⟨hk1,h1⟩,hof,h2];rfl
  ·rw [ye,if_neg (by omega),if_pos ⟨hk1,h1⟩,hof,h2];rfl
 have stay : ∀ {w3 : World} {L : List Asr},ye ss t k=none→StX noX w r w3 (.cell b6 ad8 93 :: .cell b4 (tyL t q ct) 93::L)→
   opQ Tryz.prog w3 (Instr.loadAt 93 (.pointer (some ⟨b4,0,none⟩))) fun v=>opU Tryz.prog w3 (Instr.storeAt 93 (.pointer (some ⟨b6,0,none⟩)) v) fun w4=>opQ Tryz.prog w4 (zn 93 (.pointer (some ⟨b6,0,none⟩))) fun v'=>K (.tuple #[v',.int .i64 0,.bool false]) w4:=by
  intro w3 L hn S
  refine S.ldB (b:=b4) ?_ rfl
  refine S.stB (b:=b6) fun w4 S=>?_
  refine S.ceB (b:=b6) ?_ rfl
  exact h _ _ _ 0 false _ S.ext htt (fun hh=>by cases hh) fun _=>hn
 refine gg_ ?_
 refine zk (fun hk1=>?_) (fun hk1=>?_)
 ·refine gg_ ?_
  refine zk (fun h3=>?_) (fun h3=>?_)
  ·obtain ⟨uu,hof⟩:=down (.inl h3)
   obtain ⟨bo,oo,q2,cap2,rfl,ht2,hcc⟩:=Zg htt hof
   have hl1 : t.of.length=1:=by rw [hof];rfl
   refine gg_ ?_
   refine zq (n:=5) (c:=tyL uu q2 cap2) rfl (fun j v hj=>by simpa using S.at (hcc j v hj)) ?_
   refine S.stB (b:=b6) fun w3 S=>?_
   refine S.ceB (b:=b6) ?_ rfl
   exact h _ _ _ 1 true _ S.ext ht2 (fun _=>hinn hk1 (.inl ⟨h3,rfl⟩) hof) fun hh=>by cases hh
  refine gg_ ?_
  refine zf (c:=t.m) (fun _ K2 hK2=>by refine gg_ ?_;exact hK2) ?_
  refine c_b (fun hM=>?_) (fun hM=>?_)
  ·have hM : t.k=4∧t.m=true:=by simpa using hM
   obtain ⟨uu,hof⟩:=down (.inr hM.1)
   obtain ⟨bo,oo,q2,cap2,rfl,ht2,hcc⟩:=Zg htt hof
   have hl1 : t.of.length=1:=by rw [hof];rfl
   refine gg_ ?_
   refine zq (n:=5) (c:=tyL uu q2 cap2) rfl (fun j v hj=>by simpa using S.at (hcc j v hj)) ?_
   refine S.stB (b:=b6) fun w3 S=>?_
   refine S.ceB (b:=b6) ?_ rfl
   exact h _ _ _ 2 true _ S.ext ht2 (fun _=>hinn hk1 (.inr ⟨hM.1,by rw [hM.2];rfl⟩) hof) fun hh=>by cases hh
  refine gg_ ?_
  refine zk (fun h4=>?_) (fun h4=>?_)
  ·have hm : t.m=false:=by
    cases e : t.m
    ·rfl
    ·rw [e,decide_eq_true h4] at hM;cases hM
   obtain ⟨uu,hof⟩:=down (.inr h4)
   obtain ⟨bo,oo,q2,cap2,rfl,ht2,hcc⟩:=Zg htt hof
   have hl1 : t.of.length=1:=by rw [hof];rfl
   refine gg_ ?_
   refine zq (n:=5) (c:=tyL uu q2 cap2) rfl (fun j v hj=>by simpa using S.at (hcc j v hj)) ?_
   refine S.stB (b:=b6) fun w3 S=>?_
   refine S.ceB (b:=b6) ?_ rfl
   exact h _ _ _ 3 true _ S.ext ht2 (fun _=>hinn hk1 (.inr ⟨h4,by rw [hm];rfl⟩) hof) fun hh=>by cases hh
  ·exact stay (by rw [ye,if_neg (by omega),if_neg (by omega),if_neg (by omega)]) S
 ·refine gg_ ?_
  refine zj (c:=decide (k<0)) (fun _ K2 hK2=>by refine gg_ ?_;exact hK2) ?_
  refine zj (c:=decide (((ze ss t.st).length : Int)≤k)) (fun h5 K2 hK2=>?_) ?_
  ·have h5 : t.k=5∧0≤k:=by simpa using h5
   obtain ⟨hst0,hst1⟩:=hft.st h5.1
   have hslt : t.st.toNat<ss.length:=by omega
   obtain ⟨b,off,q9,capq,rfl,hcell9,_,_,hfl⟩:=xE hs hslt
   have hlen : (ze ss t.st).length=ss[t.st.toNat].fs.length:=by
    rw [← Zs hslt];simp only [ze,Int.toNat_natCast]
   refine gg_ ?_
   refine zg (S.at hcell9) ?_
   refine gg_ ?_
   rw [← hlen]
   exact hK2
  refine c_b (fun hX=>?_) (fun hX=>?_)
  ·refine stay ?_ S
   rw [ye,if_neg (by omega),if_neg (by omega)]
   split
   ·rename_i h5
    have h50:=h5.1
    rw [List.getElem?_eq_none]
    ·rfl
    ·have : ((ze ss t.st).length : Int)≤k:=by
      simp only [Bool.or_eq_true,decide_eq_true_eq] at hX;omega
     omega
   ·rfl
  ·have hX : (t.k=5∧0≤k)∧k<(ze ss t.st).length:=by
    simp only [Bool.or_eq_false_iff,decide_eq_false_iff_not] at hX;omega
   obtain ⟨⟨hk5,hk0⟩,hkl⟩:=hX
   obtain ⟨hst0,hst1⟩:=hft.st hk5
   have hslt : t.st.toNat<ss.length:=by omega
   obtain ⟨b,off,q9,capq,rfl,hcell9,_,_,hfl⟩:=xE hs hslt
   have htl2 : ze ss t.st=ss[t.st.toNat].fs.map (·.2):=by
    rw [← yz hslt];simp only [ze,Int.toNat_natCast]
   have hkf : k.toNat<ss[t.st.toNat].fs.length:=by
    rw [htl2,List.length_map] at hkl;omega
   obtain ⟨b10,off9,c9,rfl,hc9,hcell8,ht9⟩:=qd hfl hkf
   obtain ⟨q2,cap2,rfl,ht2⟩:=yU ht9
   refine gg_ ?_
   refine zg (S.at hcell9) ?_
   refine gg_ ?_
   refine zq (n:=5) (c:=tyL _ q2 cap2) rfl (fun j v hj=>by have:=S.at (hcell8 (j+1) v hj);rwa [show off9+k.toNat*6+(j+1)=off9+k.toNat*6+1+j by omega] at this) ?_
   refine S.stB (b:=b6) fun w3 S=>?_
   refine S.ceB (b:=b6) ?_ rfl
   refine h _ _ _ 0 true _ S.ext ht2 (fun _=>?_) fun hh=>by cases hh
   rw [ye,if_neg (by omega),if_neg (by omega),if_pos ⟨hk0,hk5⟩,htl2,List.getElem?_map,List.getElem?_eq_getElem hkf];rfl
set_option maxHeartbeats 2000000 in
theorem aeY {ss : List StD} {tys : List TyD} {p : PlD} {c : List Value} {p0 q : Option Addr} {cap0 capt : Nat} {w : World} {r : Gh} {K : Value→World→Prop} (hr : Holds r w) (hs : StG r p0 ss) (ht : TysG r q tys) (htl : tys.length≤maxLen) (hp : PlG r c p)
  (hN : ∀ w',j3 ss tys p=none→Ext w w'→K (.tuple #[ajL,.slice none 0 0,.bool false]) w')
  (hS : ∀ t g q cap vg s w',j3 ss tys p=some (t,g)→Ext w w'→New w s w'→TyG r (tyV t q cap) t→SlG 1 s zU vg g→K (.tuple #[tyV t q cap,vg,.bool true]) w') :
  zd Tryz.prog Tryz.Yl #[.slice p0 ss.length cap0,.slice q tys.length capt,.agg c.toArray] w K:=by
 obtain ⟨v,rfl,hl⟩:=hp
 obtain ⟨qs,caps,rfl,_,_⟩:=hl.sl.shape
 have hbl:=hl.lt
 have htl' : tys.length≤9223372036854775807:=htl
 refine Tryz.adC ?_
 unfold Tryz.Jy
 have S:=St.start hr
 refine S.box fun b5 w1 S=>?_
 refine S.al fun b6 w3 S=>?_
 have S : StX noX w r w3 [.cell b6 ad8 93,.cell b5 [.int .i64 p.l,.slice qs p.ps.length caps] 58]:=S
 refine gg_ ?_
 refine zj (c:=decide ((tys.length : Int)≤p.l)) (fun _ K2 hK2=>by refine gg_ ?_;exact hK2) ?_
 refine zj (c:=decide (8<p.ps.length)) (fun _ K2 hK2=>?_) ?_
 ·refine gg_ ?_
  rw [show decide ((8 : Int)<(p.ps.length : Int))=decide (8<p.ps.length) from decide_eq_decide.2 (by omega)]
  exact hK2
 refine yP (c:=!(decide ((zw ss).2=0)&&tys.all fun t=>mayB ss t)) (fun _ K2 hK2=>?_) fun w4 e4=>?_
 ·refine adL S.holds hs ht htl fun w6 e6=>?_
  refine gp_ ?_
  exact hK2 _ e6
 have S:=S.go e4
 have hO : Zu ss tys p = !(((decide (p.l<0)||decide ((tys.length : Int)≤p.l))||decide (8<p.ps.length)) || !(decide ((zw ss).2=0)&&tys.all fun t=>mayB ss t)):=by
  rw [Zu]
  simp only [Bool.not_or,Bool.not_not]
  congr 1
  rw [← decide_not,← decide_not,← decide_not]
  congr 1
  ·congr 1<;>exact decide_eq_decide.2 (by omega)
  ·exact decide_eq_decide.2 (by omega)
 refine c_b (fun hbad=>?_) (fun hgood=>?_)
 ·rw [hbad] at hO
  refine zy (cs:=#[.int .u8 0,.bool false,.int .i64 0,.int .i64 0,.slice none 0 0]) (by kernel_rfl) ?_
  refine S.stB (b:=b6) fun w4 S=>?_
  refine S.ceB (b:=b6) ?_ rfl
  exact hN _ (ahZ hO) S.ext
 rw [hgood] at hO
 have hO : Zu ss tys p=true:=hO
 have hO2:=hO
 simp only [Zu,Bool.and_eq_true,decide_eq_true_eq,List.all_eq_true] at hO2
 obtain ⟨⟨⟨hl0,hl1⟩,hl8⟩,hst,hmay⟩:=hO2
 obtain ⟨h32,_,hg,_⟩:=xS hst
 have hlt0 : p.l.toNat<tys.length:=by omega
 have hW : j3 ss tys p=zS ss p.ps tys[p.l.toNat]:=by
  rw [j3,if_pos hO,List.getD_eq_getElem?_getD,List.getElem?_eq_getElem hlt0];rfl
 rw [hW] at hN hS
 obtain ⟨bt,ot,ct,rfl,hct,hcell,htc⟩:=ht p.l.toNat hlt0
 have hfi : Fine ss tys[p.l.toNat]:=(Yz (hmay _ (List.getElem_mem hlt0))).2
 generalize tys[p.l.toNat]=t0 at hN hS htc hfi
 obtain ⟨q0,cap1,rfl,ht0⟩:=yU htc
 clear hgood hbl
 refine gg_ ?_
 refine zq (n:=5) hct (fun j v hj=>S.at (hcell j v hj)) ?_
 refine S.al fun b9 w7 S=>?_
 refine S.stB (b:=b9) fun w7 S=>?_
 have S:=S.ownNil 3 1
 refine zi (ι:=Nat × Value × TyD × Option Addr × Nat × List Int) (fun i=>[i.2.1,.int .i64 (i.1 : Nat)]) (fun i w'=>i.1≤p.ps.length∧zS ss (p.ps.take i.1) t0=some (i.2.2.1,i.2.2.2.2.2)∧TyG r (tyV i.2.2.1 i.2.2.2.1 i.2.2.2.2.1) i.2.2.1∧
  StX noX w r w' [.row i.2.1 3 1 i.1 (ints i.2.2.2.2.2),.cell b9 (tyL i.2.2.1 i.2.2.2.1 i.2.2.2.2.1) 93,.cell b6 ad8 93,.cell b5 [.int .i64 p.l,.slice qs p.ps.length caps] 58]) (fun i=>p.ps.length - i.1) (0,.slice none 0 0,t0,q0,cap1,[]) rfl ⟨Nat.zero_le _,rfl,ht0,S⟩ ?_
 clear S
 rintro ⟨i,vg,t,q,cap,g⟩ d w8 ⟨hi,hw,htt,S⟩ K6 hK6
 simp only at hi hw htt S ⊢
 simp only [List.getD_cons_zero,List.getD_cons_succ]
 have hft : Fine ss t:=abq hg hfi hw
 have hgl : g.length=(p.ps.take i).length:=Jt hw
 rw [List.length_take] at hgl
 refine gg_ ?_
 refine zk (fun hlt=>?_) (fun hge=>?_)
 rotate_left
 ·have hie : i=p.ps.length:=by omega
  rw [hie,List.take_length] at hw
  refine S.ldB (b:=b9) ?_ rfl
  refine S.stB (b:=b6) fun w9 S=>?_
  refine S.ceB (b:=b6) ?_ rfl
  obtain ⟨s,S,hsl,_,hab⟩:=S.doneRow (l:=g) (R:=zU) (sz:=1) ⟨by rw [jx,Nat.mul_one],fun j hj=>by
   show _=_
   rw [Nat.mul_one,ints,← List.map_drop,← List.map_take,List.drop_eq_getElem_cons hj];rfl⟩ (by decide) (by omega)
  exact hS _ _ _ _ _ s _ hw S.ext (S.newOf fun b o ho=>(hab b o ho).resolve_right id) htt hsl
 have hlt : i<p.ps.length:=by omega
 obtain ⟨k,hke⟩ : ∃ k,p.ps[i]=k:=⟨_,rfl⟩
 obtain ⟨bs,os,cs,rfl,hcs,hck,hcl⟩:=hl.sl.get (by decide) hlt
 rw [hke] at hck
 obtain ⟨rfl,hin⟩:=hck
 have hstep : zS ss (p.ps.take (i+1)) t0=(ye ss t k).map fun s=>(s.1,g ++ [s.2]):=by
  rw [List.take_succ_eq_append_getElem hlt,abo,hw,hke];rfl
 have hbadk : ye ss t k=none→zS ss p.ps t0=none:=fun e=>by
  have:=abp (m:=p.ps.drop (i+1)) (hstep.trans (by rw [e];rfl))
  rwa [List.take_append_drop] at this
 refine zp (fun s w'=>∃ b12 t' q' c' n ok,s = [.pointer (some ⟨b12,0,none⟩),.int .i64 n,.bool ok]∧TyG r (tyV t' q' c') t'∧(ok=true→ye ss t k=some (t',n))∧(ok=false→ye ss t k=none)∧
  StX noX w r w' [.cell b12 (tyL t' q' c') 93,.row vg 3 1 i (ints g),.cell b9 (tyL t q cap) 93,.cell b6 ad8 93,.cell b5 [.int .i64 p.l,.slice (some ⟨bs,os,none⟩) p.ps.length caps] 58]) (fun K24 hK24=>?_) ?_
 ·have S:=S.go (Ext.drew _)
  refine S.ldB (b:=b9) ?_ rfl
  refine gg_ ?_
  refine zg (v:=.int .i64 k) (by simpa using S.at (hcl 0 _ rfl)) ?_
  refine And.intro ?_ ?_
  ·refine JG hft S.holds hs htt fun t' q' c' n ok w9 e9 ht' h1 h2=>?_
   have S:=S.go e9
   refine gS_ ?_
   refine S.alU fun b12 w10 S=>?_
   refine S.stB (b:=b12) fun w11 S=>?_
   exact hK24 _ _ ⟨b12,t',q',c',n,ok,rfl,ht',h1,h2,S⟩
  ·refine S.alU fun b12 w10 S=>?_
   refine JG hft S.holds hs htt fun t' q' c' n ok w9 e9 ht' h1 h2=>?_
   have S:=S.go e9
   refine gS_ ?_
   refine S.stB (b:=b12) fun w11 S=>?_
   exact hK24 _ _ ⟨b12,t',q',c',n,ok,rfl,ht',h1,h2,S⟩
 clear S
 rintro _ w12 ⟨b12,t',q',c',n,ok,rfl,ht',h1,h2,S⟩ d12
 simp only [List.getD_cons_zero,List.getD_cons_succ]
 refine gp_ ?_
 cases ok with
 |false=>
  refine c_t rfl ?_
  refine zy (cs:=#[.int .u8 0,.bool false,.int .i64 0,.int .i64 0,.slice none 0 0]) (by kernel_rfl) ?_
  refine S.stB (b:=b6) fun w13 S=>?_
  refine S.ceB (b:=b6) ?_ rfl
  exact hN _ (hbadk (h2 rfl)) S.ext
 |true=>
  refine c_f rfl ?_
  refine S.ldB (b:=b12) ?_ rfl
  refine S.stB (b:=b9) fun w13 S=>?_
  refine S.lit (e:=3) (cs:=[.int .i64 n]) (by kernel_rfl) fun b14 w14 S=>?_
  refine S.ap (m':=1) (Sl.blk (S.blk b14)) (fun v15 w15 S=>?_) (by omega)
  have S:=(S.drop b14).drop b12
  have hins : ints g ++ [.int .i64 n]=ints (g ++ [n]):=by rw [ints,ints,List.map_append];rfl
  rw [hins] at S
  refine gg_ ?_
  rw [show ((i : Int)+1)=((i+1 : Nat) : Int) by omega]
  exact hK6 (i+1,v15,t',q',c',g ++ [n]) _ ⟨hlt,hstep.trans (by rw [h1 rfl];rfl),ht',S⟩ (by show p.ps.length - (i+1)<p.ps.length - i;omega)
end Go.Proofs
end
section
namespace Go.Proofs
open Go.Sh
set_option maxRecDepth 100000
set_option linter.unusedSimpArgs false
set_option linter.unusedVariables false
theorem xm {p : PlD} {c : List Value} {w : World} {r : Gh} {K : Value→World→Prop} (hr : Holds r w) (hp : PlG r c p)
  (h : ∀ w',Ext w w'→K (.bool (yR p)) w') : zd Tryz.prog Tryz.yy #[.agg c.toArray] w K:=by
 refine Tryz.JF ?_
 unfold Tryz.Z2
 obtain ⟨v,rfl,hl⟩:=hp
 obtain ⟨qs,caps,rfl,_,_⟩:=hl.sl.shape
 have S:=St.start hr
 refine S.box fun b1 w1 S=>?_
 have S : StX noX w r w1 [.cell b1 [.int .i64 p.l,.slice qs p.ps.length caps] 58]:=S
 refine gg_ ?_
 refine zf (c:=decide (p.ps.length=0)) (fun _ K2 hK2=>?_) ?_
 ·refine gg_ ?_
  rw [decide_eq_decide.2 (kB p.ps.length)]
  exact hK2
 exact h _ S.ext
theorem vG {o : OpD} {c : List Value} {w : World} {r : Gh} {K : Value→World→Prop} (hr : Holds r w) (ho : OpG r c o)
  (h : ∀ w',Ext w w'→K (.bool (jr o)) w') : zd Tryz.prog Tryz.xD #[.agg c.toArray] w K:=by
 refine Tryz.Qo ?_
 unfold Tryz.vF
 obtain ⟨v,rfl,hl⟩:=ho
 obtain ⟨qs,caps,rfl,_,_⟩:=hl.sl.shape
 have S:=St.start hr
 refine S.box fun b1 w1 S=>?_
 have S : StX noX w r w1 [.cell b1 [.int .u8 o.k,.int .i64 o.n,.int .i64 o.pl.l,.slice qs o.pl.ps.length caps] 61]:=S
 refine gg_ ?_
 refine zf (c:=decide (o.n=0)) (fun _ K2 hK2=>by refine gg_ ?_;exact hK2) ?_
 refine zs (c:=yR o.pl) (fun _ K2 hK2=>?_) fun w5 e5=>?_
 ·refine gg_ ?_
  refine S.ldN (b:=b1) ?_
  refine xm (p:=o.pl) S.holds ⟨_,rfl,hl⟩ fun w6 e6=>hK2 _ e6
 exact h _ (S.go e5).ext
theorem zV {t : TyD} {q : Option Addr} {cap : Nat} {k : Int} {w : World} {r : Gh} {K : Value→World→Prop} (hr : Holds r w)
  (h : ∀ w',Ext w w'→K (.bool (isK t k)) w') : zd Tryz.prog Tryz.zI #[tyV t q cap,.int .u8 k] w K:=by
 refine Tryz.afV ?_
 unfold Tryz.abx
 have S:=St.start hr
 refine S.box fun b1 w1 S=>?_
 have S : StX noX w r w1 [.cell b1 (tyL t q cap) 93]:=S
 refine gg_ ?_
 exact h _ S.ext
theorem aeZ {s : ByteArray} {w : World} {K : Value→World→Prop}
  (h : K (.bool (yd s [[43],[45],[42],[47],[37]])) w) : zd Tryz.prog Tryz.Yo #[.string s] w K:=by
 refine Tryz.adI ?_
 unfold Tryz.JD
 refine gg_ ?_
 refine zj (c:=s.toList == [45]) (fun _ K2 hK2=>by refine gg_ ?_;exact hK2) ?_
 refine zj (c:=s.toList == [42]) (fun _ K2 hK2=>by refine gg_ ?_;exact hK2) ?_
 refine zj (c:=s.toList == [47]) (fun _ K2 hK2=>by refine gg_ ?_;exact hK2) ?_
 refine zj (c:=s.toList == [37]) (fun _ K2 hK2=>by refine gg_ ?_;exact hK2) ?_
 have e : ((((s.toList == [43])||(s.toList == [45]))||(s.toList == [42]))||(s.toList == [47])||(s.toList == [37]))=yd s [[43],[45],[42],[47],[37]]:=by
  simp only [yd,List.any_cons,List.any_nil,Bool.or_false,Bool.or_assoc]
 rw [← e] at h
 exact h
theorem acu {s : ByteArray} {w : World} {K : Value→World→Prop}
  (h : K (.bool (yd s [[61,61],[33,61],[60],[60,61],[62],[62,61]])) w) : zd Tryz.prog Tryz.vO #[.string s] w K:=by
 refine Tryz.aby ?_
 unfold Tryz.X4
 refine gg_ ?_
 refine zj (c:=s.toList == [33,61]) (fun _ K2 hK2=>by refine gg_ ?_;exact hK2) ?_
 refine zj (c:=s.toList == [60]) (fun _ K2 hK2=>by refine gg_ ?_;exact hK2) ?_
 refine zj (c:=s.toList == [60,61]) (fun _ K2 hK2=>by refine gg_ ?_;exact hK2) ?_
 refine zj (c:=s.toList == [62]) (fun _ K2 hK2=>by refine gg_ ?_;exact hK2) ?_
 refine zj (c:=s.toList == [62,61]) (fun _ K2 hK2=>by refine gg_ ?_;exact hK2) ?_
 have e : (((((s.toList == [61,61])||(s.toList == [33,61]))||(s.toList == [60]))||(s.toList == [60,61])||(s.toList == [62]))||(s.toList == [62,61]))=yd s [[61,61],[33,61],[60],[60,61],[62],[62,61]]:=by
  simp only [yd,List.any_cons,List.any_nil,Bool.or_false,Bool.or_assoc]
 rw [← e] at h
 exact h
def yC (m : Int) : List Int→Int
 |[]=>m
 |k::l=>yC (max m k) l
theorem abA (k : Int) : ∀ (l : List Int) (m : Int),yC m (l ++ [k])=max (yC m l) k
 |[],m=>rfl
 |x::l,m=>by rw [List.cons_append,yC,yC,abA k l]
theorem j6 {l : List Int} {v : Value} {w : World} {r : Gh} {K : Value→World→Prop} (hr : Holds r w) (hl : SlG 1 r zU v l) (hb : l.length≤1000000)
  (h : ∀ w',Ext w w'→K (.int .i64 (yC 0 l)) w') : zd Tryz.prog Tryz.kh #[v] w K:=by
 refine Tryz.adJ ?_
 unfold Tryz.JE
 obtain ⟨p,cap,rfl,_,_⟩:=hl.shape
 have S:=St.start hr
 refine zi (ι:=Nat) (fun i=>[.int .i64 (yC 0 (l.take i)),.int .i64 (i : Nat)]) (fun i w'=>i≤l.length∧StX noX w r w' []) (fun i=>l.length - i) 0 rfl ⟨Nat.zero_le _,S⟩ ?_
 clear S
 rintro i d w2 ⟨hi,S⟩ K1 hK1
 simp only [List.getD_cons_zero,List.getD_cons_succ]
 refine gg_ ?_
 refine zk (fun hlt=>?_) (fun hge=>?_)
 ·have hlt : i<l.length:=by omega
  have hs : yC 0 (l.take (i+1))=max (yC 0 (l.take i)) l[i]:=by rw [List.take_succ_eq_append_getElem hlt,abA]
  obtain ⟨b,off,c,rfl,hc,hcc,hcell⟩:=hl.get (by decide) hlt
  obtain rfl : c=_:=hcc
  have hx : Ob r fun w=>w.cell? ⟨b,off+i,none⟩=some (.int .i64 l[i]):=by simpa using hcell 0 _ rfl
  refine zp (fun s w'=>s = [.int .i64 (yC 0 (l.take (i+1)))]∧w'=w2) (fun K5 hK5=>?_) ?_
  rotate_left
  ·rintro _ _ ⟨rfl,rfl⟩ d3
   rw [List.getD_cons_zero]
   refine gg_ ?_
   rw [show ((i : Int)+1)=((i+1 : Nat) : Int) by omega]
   exact hK1 (i+1) _ ⟨hlt,S⟩ (by omega)
  refine gg_ ?_
  refine zg (by simpa using S.at hx) ?_
  refine gg_ ?_
  refine zk (fun hgt=>?_) (fun hle=>?_)
  ·refine gg_ ?_
   refine zg (by simpa using S.at hx) ?_
   exact hK5 _ _ ⟨by rw [hs,Int.max_eq_right (by omega)],rfl⟩
  ·exact hK5 _ _ ⟨by rw [hs,Int.max_eq_left (by omega)],rfl⟩
 ·have hie : i=l.length:=by omega
  rw [hie,List.take_length]
  exact h _ S.ext
theorem QQ {s s' : Int} : ∀ (n : Nat) {a b : TyD} {w : World} {r : Gh} {va vb : Value} {K : Value→World→Prop},zz s n a=true→zz s' n b=true→Holds r w→TyG r va a→TyG r vb b→
  (∀ w',Ext w w'→K (.bool (xR yg n a b)) w')→zd Tryz.prog Tryz.yG #[va,vb] w K:=by
 intro n
 induction n with
 |zero=>intro a b w r va vb K h;cases h
 |succ n ih=>
  intro a b w r va vb K ha hb hr hva hvb h
  refine Tryz.acq ?_
  unfold Tryz.QP
  have hva0:=hva
  have hvb0:=hvb
  obtain ⟨p1,cap1,rfl,_⟩:=hva
  obtain ⟨p2,cap2,rfl,_⟩:=hvb
  have S:=St.start hr
  refine S.box fun b2 w1 S=>?_
  refine S.box fun b3 w2 S=>?_
  have S : StX noX w r w2 [.cell b3 (tyL b p2 cap2) 93,.cell b2 (tyL a p1 cap1) 93]:=S
  refine gg_ ?_
  refine zj (c:=!(a.m == b.m)) (fun _ K2 hK2=>by refine gg_ ?_;exact hK2) ?_
  refine zj (c:=decide (a.st≠b.st)) (fun _ K2 hK2=>by refine gg_ ?_;exact hK2) ?_
  refine zj (c:=decide (a.of.length≠b.of.length)) (fun _ K2 hK2=>?_) ?_
  ·refine gg_ ?_
   rw [show decide ((a.of.length : Int)≠(b.of.length : Int))=decide (a.of.length≠b.of.length) from decide_eq_decide.2 (by omega)]
   exact hK2
  have key : a.k=b.k→a.of.length=b.of.length:=fun hk=>by
   rcases ym ha with ⟨h1,h2⟩|⟨u,h1,_,h2⟩<;>rcases ym hb with ⟨h3,h4⟩|⟨x,h3,_,h4⟩<;>rw [h1,h3]<;>first|rfl|omega
  refine c_b (fun hbad=>?_) (fun hok=>?_)
  ·have:=h _ S.ext
   rw [Jk] at this
   ·exact this
   ·simp only [Bool.or_eq_true,decide_eq_true_eq,yg,Bool.not_true] at hbad ⊢
    rcases hbad with (hh|hh)|hh
    ·exact .inl (.inl hh)
    ·exact .inl (.inr hh)
    ·exact .inl (.inl (.inl fun hk=>hh (key hk)))
  have hflat : (!(decide (a.k≠b.k) || !(a.m == b.m)||decide (a.st≠b.st) || !yg a.re b.re))=true:=by
   simp only [Bool.or_eq_false_iff] at hok
   rw [hok.1.1.1,hok.1.1.2,hok.1.2];rfl
  have hk : a.k=b.k:=by
   simp only [Bool.or_eq_false_iff,decide_eq_false_iff_not] at hok;omega
  have S:=S.go (Ext.drew _)
  rcases ym ha with ⟨ho,hk2⟩|⟨u,ho,hu,hk2⟩
  ·have hl0 : a.of.length=0:=by rw [ho];rfl
   rw [aba ho,hflat] at h
   refine gg_ ?_
   refine yP (c:=true) (fun hb=>?_) fun w5 e5=>?_
   ·exfalso;simp [hl0] at hb
   rw [Bool.or_true]
   exact h _ (S.go e5).ext
  ·have hob : ∃ x,b.of = [x]∧zz s' n x=true:=by
    rcases ym hb with ⟨h3,h4⟩|⟨x,h3,h5,h4⟩
    ·omega
    ·exact ⟨x,h3,h5⟩
   obtain ⟨x,hox,hx⟩:=hob
   have hl1 : a.of.length=1:=by rw [ho];rfl
   have hl2 : b.of.length=1:=by rw [hox];rfl
   obtain ⟨bo,oo,q3,cap3,rfl,hc3,ht3⟩:=Zg hva0 ho
   obtain ⟨bx,ox,q4,cap4,rfl,hc4,ht4⟩:=Zg hvb0 hox
   rw [abb ho hox,hflat,Bool.true_and] at h
   refine gg_ ?_
   refine yP (c:=xR yg n u x) (fun _ K2 hK2=>?_) fun w5 e5=>?_
   ·refine gg_ ?_
    refine zq (n:=5) (c:=tyL u q3 cap3) rfl (fun j v hj=>by simpa using S.at (ht3 j v hj)) ?_
    refine gg_ ?_
    refine zq (n:=5) (c:=tyL x q4 cap4) rfl (fun j v hj=>by simpa using S.at (ht4 j v hj)) ?_
    exact ih hu hx S.holds hc3 hc4 fun w6 e6=>hK2 _ e6
   rw [show decide ((a.of.length : Int)=0)=false by rw [hl1];rfl,Bool.false_or]
   exact h _ (S.go e5).ext
end Go.Proofs
end
section
namespace Go.Proofs
open Go.Sh
set_option maxRecDepth 100000
set_option linter.unusedSimpArgs false
set_option linter.unusedVariables false
def zZ : List UInt8:=[84,65,66,76,70,83,78,85,77,69]
def abB (p : PtD) : List Bool:=[yR p.to,jr p.a,jr p.b,decide (p.args.length=0),yR p.fr,p.sign.toList == [],decide (p.fn=0),decide (p.st=0),!p.mu,decide (p.el=0)]
def kV (has : List UInt8) (c : Int) : Bool:=has.any fun x=>decide ((x.toNat : Int)=c)
def thR (p : PtD) (has : List UInt8) (i : Nat) : Bool:=kV has (zQ zZ i)||(abB p).getD i true
def qO (p : PtD) (has : List UInt8) (n : Nat) : Bool:=(List.range n).all (thR p has)
theorem ag7 (p : PtD) (has : List UInt8) (n : Nat) : qO p has (n+1)=(qO p has n&&thR p has n):=by
 rw [qO,List.range_succ,List.all_append];simp [qO]
theorem ai5 {p : PtD} {h : aaw} {L : List UInt8} (e0 : kV L 84=h.to) (e1 : kV L 65=h.a) (e2 : kV L 66=h.b) (e3 : kV L 76=h.args) (e4 : kV L 70=h.fr) (e5 : kV L 83=h.sign) (e6 : kV L 78=h.fn) (e7 : kV L 85=h.st) (e8 : kV L 77=h.mu) (e9 : kV L 69=h.el) : qO p L 10=zB p h:=by
 have r10 : List.range 10 = [0,1,2,3,4,5,6,7,8,9]:=rfl
 have b0 : zQ zZ 0=84:=rfl
 have b1 : zQ zZ 1=65:=rfl
 have b2 : zQ zZ 2=66:=rfl
 have b3 : zQ zZ 3=76:=rfl
 have b4 : zQ zZ 4=70:=rfl
 have b5 : zQ zZ 5=83:=rfl
 have b6 : zQ zZ 6=78:=rfl
 have b7 : zQ zZ 7=85:=rfl
 have b8 : zQ zZ 8=77:=rfl
 have b9 : zQ zZ 9=69:=rfl
 rw [qO,r10]
 simp only [List.all_cons,List.all_nil,Bool.and_true,thR,b0,b1,b2,b3,b4,b5,b6,b7,b8,b9,e0,e1,e2,e3,e4,e5,e6,e7,e8,e9,abB,List.getD_cons_zero,List.getD_cons_succ,zB,x9,id]
 ac_rfl
set_option maxHeartbeats 4000000 in
theorem ae0 {p : PtD} {has : List UInt8} {c : List Value} {w : World} {r : Gh} {K : Value→World→Prop} (hr : Holds r w) (hp : PtG r c p) (hh : has.length≤100)
  (h : ∀ w',Ext w w'→K (.bool (qO p has 10)) w') : zd Tryz.prog Tryz.zN #[.agg c.toArray,.string (bs has)] w K:=by
 refine Tryz.adH ?_
 unfold Tryz.JC
 obtain ⟨q1,q2,q3,q4,q5,c1,c2,c3,c4,c5,rfl,hp0⟩:=xf hp
 obtain ⟨_,_,_,_,_,hE,k1,k2,k3,k4,k5⟩:=hp0
 cases hE
 have S:=St.start hr
 refine S.box fun b1 w1 S=>?_
 have S : StX noX w r w1 [.cell b1 (ptL p q1 q2 q3 q4 q5 c1 c2 c3 c4 c5) 64]:=S
 refine zi (ι:=Nat) (fun i=>[.bool (qO p has i),.int .i64 (i : Nat)]) (fun i w'=>i≤10∧StX noX w r w' [.cell b1 (ptL p q1 q2 q3 q4 q5 c1 c2 c3 c4 c5) 64]) (fun i=>10 - i) 0 rfl ⟨Nat.zero_le _,S⟩ ?_
 clear S
 rintro i d w2 ⟨hi,S⟩ K2 hK2
 simp only [List.getD_cons_zero,List.getD_cons_succ]
 refine gg_ ?_
 refine zk (fun hlt=>?_) (fun hge=>?_)
 rotate_left
 ·have hie : i=10:=by omega
  rw [hie];exact h _ S.ext
 have hlt : i<10:=by omega
 refine zp (fun s w'=>s = [.bool (qO p has (i+1))]∧StX noX w r w' [.cell b1 (ptL p q1 q2 q3 q4 q5 c1 c2 c3 c4 c5) 64]) (fun K6 hK6=>?_) ?_
 rotate_left
 ·clear S
  rintro _ w3 ⟨rfl,S⟩ d3
  rw [List.getD_cons_zero]
  refine gg_ ?_
  rw [show ((i : Int)+1)=((i+1 : Nat) : Int) by omega]
  exact hK2 (i+1) _ ⟨hlt,S⟩ (by omega)
 have hcl : zZ.length=10:=rfl
 show opP Tryz.prog (Instr.index 9 (.string (bs zZ)) _) _
 refine gg_ ?_
 rw [Int.toNat_natCast]
 refine zi (ι:=Nat) (fun k=>[.bool (kV (has.take k) (zQ zZ i)),.int .i64 (k : Nat)]) (fun k w'=>k≤has.length∧StX noX w r w' [.cell b1 (ptL p q1 q2 q3 q4 q5 c1 c2 c3 c4 c5) 64]) (fun k=>has.length - k) 0 rfl ⟨Nat.zero_le _,S⟩ ?_
 clear S
 rintro k d w4 ⟨hk,S⟩ K10 hK10
 simp only [List.getD_cons_zero,List.getD_cons_succ]
 refine gg_ ?_
 refine zk (fun hlt2=>?_) (fun hge2=>?_)
 ·have hlt2 : k<has.length:=by omega
  have hs : kV (has.take (k+1)) (zQ zZ i)=(kV (has.take k) (zQ zZ i)||decide (zQ has k=zQ zZ i)):=by
   rw [kV,List.take_succ_eq_append_getElem hlt2,List.any_append]
   simp only [List.any_cons,List.any_nil,Bool.or_false]
   have : zQ has k=(has[k].toNat : Int):=by rw [zQ,List.getD_eq_getElem?_getD,List.getElem?_eq_getElem hlt2];rfl
   rw [this];rfl
  refine zj (c:=decide (zQ has k=zQ zZ i)) (fun _ K2 hK2=>?_) ?_
  ·refine gg_ ?_
   rw [Int.toNat_natCast]
   exact hK2
  rw [← hs]
  refine gg_ ?_
  rw [show ((k : Int)+1)=((k+1 : Nat) : Int) by omega]
  exact hK10 (k+1) _ ⟨hlt2,S⟩ (by omega)
 have hke : k=has.length:=by omega
 rw [hke,List.take_length]
 have hth : qO p has (i+1)=(qO p has i&&(kV has (zQ zZ i)||(abB p).getD i true)):=ag7 p has i
 refine c_b (fun hin=>?_) (fun hno=>?_)
 ·rw [hin,Bool.true_or,Bool.and_true] at hth
  exact hK6 _ _ ⟨by rw [hth],S⟩
 rw [hno,Bool.false_or] at hth
 clear hno hK10 hge2 hke hk
 have fin : ∀ {w9 : World},Ext w4 w9→K6 [.bool (qO p has i&&(abB p).getD i true)] w9:=fun e=>hK6 _ _ ⟨by rw [hth],S.go e⟩
 clear hK6 hth
 have hpto : PlG r [.int .i64 p.to.l,.slice q1 p.to.ps.length c1] p.to:=⟨_,rfl,k1⟩
 have hpfr : PlG r [.int .i64 p.fr.l,.slice q5 p.fr.ps.length c5] p.fr:=⟨_,rfl,k5⟩
 have hoa : OpG r [.int .u8 p.a.k,.int .i64 p.a.n,.int .i64 p.a.pl.l,.slice q2 p.a.pl.ps.length c2] p.a:=⟨_,rfl,k2⟩
 have hob : OpG r [.int .u8 p.b.k,.int .i64 p.b.n,.int .i64 p.b.pl.l,.slice q3 p.b.pl.ps.length c3] p.b:=⟨_,rfl,k3⟩
 have hi10 : i=0∨i=1∨i=2∨i=3∨i=4∨i=5∨i=6∨i=7∨i=8∨i=9:=by omega
 rcases hi10 with rfl|rfl|rfl|rfl|rfl|rfl|rfl|rfl|rfl|rfl
 ·rw [show zQ zZ 0=84 from rfl]
  refine gg_ ?_
  refine c_t (by decide) ?_
  refine zs (c:=yR p.to) (fun _ K9 hK9=>?_) fun w9 e9=>fin e9
  refine gg_ ?_
  refine S.ldN (b:=b1) ?_
  exact xm S.holds hpto fun w6 e6=>hK9 _ e6
 ·rw [show zQ zZ 1=65 from rfl]
  iterate 1 (refine gg_ ?_;refine c_f (by decide) ?_)
  refine gg_ ?_
  refine c_t (by decide) ?_
  refine zs (c:=jr p.a) (fun _ K9 hK9=>?_) fun w9 e9=>fin e9
  refine gg_ ?_
  refine S.ldN (b:=b1) ?_
  exact vG S.holds hoa fun w6 e6=>hK9 _ e6
 ·rw [show zQ zZ 2=66 from rfl]
  iterate 2 (refine gg_ ?_;refine c_f (by decide) ?_)
  refine gg_ ?_
  refine c_t (by decide) ?_
  refine zs (c:=jr p.b) (fun _ K9 hK9=>?_) fun w9 e9=>fin e9
  refine gg_ ?_
  refine S.ldN (b:=b1) ?_
  exact vG S.holds hob fun w6 e6=>hK9 _ e6
 ·rw [show zQ zZ 3=76 from rfl]
  iterate 3 (refine gg_ ?_;refine c_f (by decide) ?_)
  refine gg_ ?_
  refine c_t (by decide) ?_
  refine zf (c:=decide (p.args.length=0)) (fun _ K9 hK9=>?_) (fin (Ext.refl _))
  refine gg_ ?_
  rw [decide_eq_decide.2 (kB p.args.length)]
  exact hK9
 ·rw [show zQ zZ 4=70 from rfl]
  iterate 4 (refine gg_ ?_;refine c_f (by decide) ?_)
  refine gg_ ?_
  refine c_t (by decide) ?_
  refine zs (c:=yR p.fr) (fun _ K9 hK9=>?_) fun w9 e9=>fin e9
  refine gg_ ?_
  refine S.ldN (b:=b1) ?_
  exact xm S.holds hpfr fun w6 e6=>hK9 _ e6
 ·rw [show zQ zZ 5=83 from rfl]
  iterate 5 (refine gg_ ?_;refine c_f (by decide) ?_)
  refine gg_ ?_
  refine c_t (by decide) ?_
  refine zf (c:=p.sign.toList == []) (fun _ K9 hK9=>?_) (fin (Ext.refl _))
  refine gg_ ?_
  exact hK9
 ·rw [show zQ zZ 6=78 from rfl]
  iterate 6 (refine gg_ ?_;refine c_f (by decide) ?_)
  refine gg_ ?_
  refine c_t (by decide) ?_
  refine zf (c:=decide (p.fn=0)) (fun _ K9 hK9=>?_) (fin (Ext.refl _))
  refine gg_ ?_
  exact hK9
 ·rw [show zQ zZ 7=85 from rfl]
  iterate 7 (refine gg_ ?_;refine c_f (by decide) ?_)
  refine gg_ ?_
  refine c_t (by decide) ?_
  refine zf (c:=decide (p.st=0)) (fun _ K9 hK9=>?_) (fin (Ext.refl _))
  refine gg_ ?_
  exact hK9
 ·rw [show zQ zZ 8=77 from rfl]
  iterate 8 (refine gg_ ?_;refine c_f (by decide) ?_)
  refine gg_ ?_
  refine c_t (by decide) ?_
  refine zf (c:=!p.mu) (fun _ K9 hK9=>?_) (fin (Ext.refl _))
  refine gg_ ?_
  exact hK9
 ·rw [show zQ zZ 9=69 from rfl]
  iterate 9 (refine gg_ ?_;refine c_f (by decide) ?_)
  refine gg_ ?_
  refine c_t (by decide) ?_
  refine zf (c:=decide (p.el=0)) (fun _ K9 hK9=>?_) (fin (Ext.refl _))
  refine gg_ ?_
  exact hK9
end Go.Proofs
end
section
namespace Go.Proofs
open Go.Sh
set_option maxRecDepth 100000
set_option linter.unusedSimpArgs false
set_option linter.unusedVariables false
abbrev asL (u : UnD) (g : GrD) (p0 : Option Addr) (cap0 : Nat) (qf : Option Addr) (capf : Nat) (q1 : Option Addr) (c1 : Nat) (q2 : Option Addr) (c2 : Nat) (q3 : Option Addr) (c3 : Nat) (q4 : Option Addr) (c4 : Nat) : List Value:=
 [.slice p0 u.ss.length cap0,.slice qf u.fs.length capf,.int .i64 u.mn,.string g.name,.int .i64 g.lv,.slice q1 g.outs.length c1,.int .i64 g.pn,.slice q2 g.tys.length c2,.slice q3 g.nms.length c3,.slice q4 g.pts.length c4]
def AsP (r : Gh) (b : Nat) (u : UnD) (g : GrD) : Prop:=∃ p0 cap0 qf capf q1 c1 q2 c2 q3 c3 q4 c4,(Ob r fun w=>Blk w b (asL u g p0 cap0 qf capf q1 c1 q2 c2 q3 c3 q4 c4) 142)∧
 UnG r (.agg #[.slice p0 u.ss.length cap0,.slice qf u.fs.length capf,.int .i64 u.mn]) u∧GrG r [.string g.name,.int .i64 g.lv,.slice q1 g.outs.length c1,.int .i64 g.pn,.slice q2 g.tys.length c2,.slice q3 g.nms.length c3,.slice q4 g.pts.length c4] g
theorem AsP.up {r s : Gh} {b : Nat} {u : UnD} {g : GrD} (h : AsP r b u g) [l : Le r s] : AsP s b u g:=by
 obtain ⟨p0,cap0,qf,capf,q1,c1,q2,c2,q3,c3,q4,c4,h1,h2,h3⟩:=h
 exact ⟨p0,cap0,qf,capf,q1,c1,q2,c2,q3,c3,q4,c4,h1.up,h2.up,h3.up⟩
theorem aaG {ss : List StD} : ∀ (l : List Int) (t : TyD) (m : Int),0≤m→goG ss l (t,m)=(zS ss l t).map fun x=>(x.1,yC m x.2)
 |[],t,m,_=>rfl
 |k::l,t,m,hm=>by
  have hs : stepG ss (t,m) k=(ye ss t k).map fun s=>(s.1,max m s.2):=by
   unfold stepG ye
   split
   ·cases t.of.head?<;>rfl
   split
   ·cases t.of.head?<;>rfl
   split
   ·cases (ze ss t.st)[k.toNat]? with
    |none=>rfl
    |some u=>show some (u,m)=some (u,max m 0);rw [Int.max_eq_left hm]
   ·rfl
  rw [goG,zS,hs]
  cases h1 : ye ss t k with
  |none=>rfl
  |some s=>
   show goG ss l (s.1,max m s.2)=((zS ss l s.1).map _).map _
   rw [aaG l s.1 (max m s.2) (by omega),Option.map_map]
   rfl
theorem JH {ss : List StD} {t : TyD} {ps : List Int} (hst : (zw ss).2=0) (hm : mayB ss t=true) : j3 ss [t] ⟨0,ps⟩=if ps.length≤8 then zS ss ps t else none:=by
 have e : Zu ss [t] ⟨0,ps⟩=decide (ps.length≤8):=by
  simp [Zu,hst,hm]
 rw [j3,e]
 by_cases h : ps.length≤8
 ·rw [if_pos (decide_eq_true h),if_pos h];rfl
 ·rw [if_neg (by simpa using h),if_neg h]
theorem JI {ss : List StD} {tys : List TyD} {p : PlD} (hst : (zw ss).2=0) (hf : xq ss tys) : (zm ss tys p).2.2=true↔0≤p.l∧∃ (hl : p.l.toNat<tys.length) (x : TyD × List Int),j3 ss [tys[p.l.toNat]] ⟨0,p.ps⟩=some x∧zm ss tys p=(x.1,yC 0 x.2,true):=by
 constructor
 ·intro ho
  have h8:=abu ho
  unfold zm at ho ⊢
  cases hb : (if p.l<0 then none else tys[p.l.toNat]?).bind fun t=>goG ss p.ps (t,0) with
  |none=>rw [hb] at ho;cases ho
  |some s=>
   split at hb
   ·cases hb
   ·rename_i hl0
    cases ht : tys[p.l.toNat]? with
    |none=>rw [ht] at hb;cases hb
    |some t=>
     rw [ht] at hb
     have hb : goG ss p.ps (t,0)=some s:=hb
     obtain ⟨hlt,rfl⟩:=List.getElem?_eq_some_iff.1 ht
     rw [aaG _ _ _ (Int.le_refl _)] at hb
     cases hw : zS ss p.ps tys[p.l.toNat] with
     |none=>rw [hw] at hb;cases hb
     |some x=>
      rw [hw] at hb
      have hb : (x.1,yC 0 x.2)=s:=Option.some.inj hb
      refine ⟨by omega,hlt,x,?_,?_⟩
      ·rw [JH hst (by rw [mayB,decide_eq_true hst,Bool.true_and];exact hf.all _ (List.getElem_mem hlt)),if_pos h8,hw]
      ·rw [← hb]
       show (x.1,yC 0 x.2,decide (p.ps.length≤8))=_
       rw [decide_eq_true h8]
 ·rintro ⟨_,_,x,_,h⟩;rw [h]
theorem akb {tys : List TyD} {i : Nat} (hi : i<tys.length) : (tys.drop i).take 1 = [tys[i]]:=by
 rw [List.drop_eq_getElem_cons hi];rfl
set_option maxHeartbeats 1000000 in
theorem YG {u : UnD} {g : GrD} {p : PlD} {bx : Nat} {c : List Value} {w : World} {r : Gh} {K : Value→World→Prop} (hr : Holds r w) (hx : AsP r bx u g) (hst : (zw u.ss).2=0) (hf : xq u.ss g.tys) (hp : PlG r c p)
  (hN : ∀ w',(zm u.ss g.tys p).2.2=false→Ext w w'→K (.tuple #[ajL,.slice none 0 0,.bool false]) w')
  (hS : ∀ t how q cap vg s w',zm u.ss g.tys p=(t,yC 0 how,true)→Ext w w'→New w s w'→TyG r (tyV t q cap) t→SlG 1 s zU vg how→how.length≤8→K (.tuple #[tyV t q cap,vg,.bool true]) w') :
  zd Tryz.prog Tryz.yL #[.pointer (some ⟨bx,0,none⟩),.agg c.toArray] w K:=by
 refine Tryz.QZ ?_
 unfold Tryz.Zv
 obtain ⟨p0,cap0,qf,capf,q1,c1,q2,c2,q3,c3,q4,c4,hB,hu,hg⟩:=hx
 obtain ⟨_,_,_,hE,_,_,hss,_,_⟩:=hu
 cases hE
 obtain ⟨_,_,_,_,hE,_,ht,_,_⟩:=hg
 cases hE
 obtain ⟨_,_,hE,_,hct2⟩:=ht.sl.shape
 cases hE
 have htl:=ht.few
 have htl' : g.tys.length≤9223372036854775807:=htl
 obtain ⟨v,rfl,hl⟩:=hp
 obtain ⟨qs,caps,rfl,hqs,hcs⟩:=hl.sl.shape
 have S:=St.start hr
 refine S.box fun b3 w1 S=>?_
 have S : StX noX w r w1 [.cell b3 [.int .i64 p.l,.slice qs p.ps.length caps] 58]:=S
 refine S.al fun b4 w2 S=>?_
 have S:=S.go (Ext.drew _)
 have ld : ∀ {w9 : World} {L : List Asr} {i : Nat} {v : Value},StX noX w r w9 L→(asL u g p0 cap0 qf capf q1 c1 q2 c2 q3 c3 q4 c4)[i]? = some v→w9.cell? ⟨bx,i,none⟩=some v:=fun S hi=>by
  rw [(S.at hB).cell];exact hi
 refine gg_ ?_
 refine zj (c:=decide ((g.tys.length : Int)≤p.l)) (fun _ K2 hK2=>?_) ?_
 ·refine gg_ ?_
  refine zg (ld (i:=7) S rfl) ?_
  refine gg_ ?_
  exact hK2
 refine c_b (fun hbad=>?_) (fun hok=>?_)
 ·have hno : (zm u.ss g.tys p).2.2=false:=by
   cases hh : (zm u.ss g.tys p).2.2 with
   |false=>rfl
   |true=>
    obtain ⟨h1,h2,_⟩:=(JI hst hf).1 hh
    simp only [Bool.or_eq_true,decide_eq_true_eq] at hbad;omega
  refine zy (cs:=#[.int .u8 0,.bool false,.int .i64 0,.int .i64 0,.slice none 0 0]) (by kernel_rfl) ?_
  refine S.stB (b:=b4) fun w4 S=>?_
  refine S.ceB (b:=b4) ?_ rfl
  exact hN _ hno S.ext
 simp only [Bool.or_eq_false_iff,decide_eq_false_iff_not] at hok
 have hlt : p.l.toNat<g.tys.length:=by omega
 have S:=S.go (Ext.drew _)
 refine gg_ ?_
 refine zg (ld (i:=0) S rfl) ?_
 refine gg_ ?_
 refine zg (ld (i:=7) S rfl) ?_
 refine gg_ ?_
 have hlen : (p.l+1).toNat - p.l.toNat = [g.tys[p.l.toNat]].length:=by show _=1;omega
 have hsub:=(X0 ht.sl).sub (a:=p.l.toNat) (n:=1) (cap:=c2) hct2
 rw [akb hlt] at hsub
 rw [hlen]
 generalize (if c2=p.l.toNat then q2 else q2.map (·.add (p.l.toNat*5)))=qx at hsub ⊢
 have hp2 : PlG r [.int .i64 0,.slice qs p.ps.length caps] ⟨0,p.ps⟩:=⟨_,rfl,hl⟩
 refine aeY (p:=⟨0,p.ps⟩) S.holds hss hsub (by simp [maxLen]) hp2 (fun w5 hn e5=>?_) fun t how q cap vg s w5 hs e5 n5 htt hsl=>?_
 ·have hno : (zm u.ss g.tys p).2.2=false:=by
   cases hh : (zm u.ss g.tys p).2.2 with
   |false=>rfl
   |true=>
    obtain ⟨h1,h2,x,h3,_⟩:=(JI hst hf).1 hh
    rw [hn] at h3;cases h3
  have S:=S.go e5
  refine gS_ ?_
  refine S.stB (b:=b4) fun w6 S=>?_
  refine S.ceB (b:=b4) ?_ rfl
  exact hN _ hno S.ext
 ·obtain ⟨S,d5,a5⟩:=S.tell e5 n5
  have hm : mayB u.ss g.tys[p.l.toNat]=true:=by rw [mayB,decide_eq_true hst,Bool.true_and];exact hf.all _ (List.getElem_mem hlt)
  have hs':=hs
  rw [JH hst hm] at hs'
  have h8 : p.ps.length≤8:=by
   refine Classical.byContradiction fun hc=>?_
   rw [if_neg hc] at hs';cases hs'
  rw [if_pos h8] at hs'
  have hw:=Jt hs'
  have hsp : zm u.ss g.tys p=(t,yC 0 how,true):=by
   unfold zm
   rw [if_neg (by omega),List.getElem?_eq_getElem hlt]
   show (match goG u.ss p.ps (g.tys[p.l.toNat],0) with|some s=>(s.1,s.2,decide (p.ps.length≤8))|none=>(yc,0,false))=_
   rw [aaG _ _ _ (Int.le_refl _),hs']
   show (t,yC 0 how,decide (p.ps.length≤8))=_
   rw [decide_eq_true h8]
  refine gS_ ?_
  refine S.stB (b:=b4) fun w6 S=>?_
  refine S.ceB (b:=b4) ?_ rfl
  exact hS t how _ _ _ s _ hsp S.ext (S.newOf a5) htt hsl (by rw [hw];exact h8)
theorem ag8 {u : UnD} {g : GrD} {p : PlD} {bx : Nat} {c : List Value} {w : World} {r : Gh} {K : Value→World→Prop} (hr : Holds r w) (hx : AsP r bx u g) (hst : (zw u.ss).2=0) (hf : xq u.ss g.tys) (hp : PlG r c p)
  (h : ∀ t q cap w',((zm u.ss g.tys p).2.2=true→t=(zm u.ss g.tys p).1)→Ext w w'→TyG r (tyV t q cap) t→K (.tuple #[tyV t q cap,.bool ((zm u.ss g.tys p).2.2&&decide ((zm u.ss g.tys p).2.1<3))]) w') :
  zd Tryz.prog Tryz.jv #[.pointer (some ⟨bx,0,none⟩),.agg c.toArray] w K:=by
 refine Tryz.VB ?_
 unfold Tryz.YF
 obtain ⟨v,rfl,hl⟩:=hp
 obtain ⟨qs,caps,rfl,_,_⟩:=hl.sl.shape
 have S:=St.start hr
 refine S.box fun b3 w1 S=>?_
 have S : StX noX w r w1 [.cell b3 [.int .i64 p.l,.slice qs p.ps.length caps] 58]:=S
 refine S.al fun b4 w2 S=>?_
 refine S.ldB (b:=b3) ?_ rfl
 refine YG (p:=p) S.holds hx hst hf ⟨_,rfl,hl⟩ (fun w3 hno e3=>?_) fun t how q cap vg s w3 hsp e3 n3 htt hsl h8=>?_
 ·have S:=S.go e3
  rw [hno] at h
  refine gS_ ?_
  refine S.al fun b6 w4 S=>?_
  refine S.stB (b:=b6) fun w5 S=>?_
  have S:=S.go (Ext.drew _)
  refine S.ldB (b:=b6) ?_ rfl
  refine zs (c:=true) (fun hh=>by cases hh) fun w6 e6=>?_
  have S:=S.go e6
  refine S.stB (b:=b4) fun w7 S=>?_
  refine S.ceB (b:=b4) ?_ rfl
  exact h yc none 0 _ (fun hh=>by cases hh) S.ext xe
 ·obtain ⟨S,d3,a3⟩:=S.tell e3 n3
  rw [hsp] at h
  refine gS_ ?_
  refine S.al fun b6 w4 S=>?_
  refine S.stB (b:=b6) fun w5 S=>?_
  have S:=S.go (Ext.drew _)
  refine S.ldB (b:=b6) ?_ rfl
  refine zs (c:=decide (yC 0 how<3)) (fun _ K2 hK2=>?_) fun w6 e6=>?_
  ·refine j6 S.holds (hsl.cells (s:=r.or s)) (by omega) fun w7 e7=>⟨e7,?_⟩
   refine gp_ ?_
   exact hK2 _ e7
  have S:=S.go e6
  refine S.stB (b:=b4) fun w7 S=>?_
  refine S.ceB (b:=b4) ?_ rfl
  exact h t q cap _ (fun _=>rfl) S.ext htt
end Go.Proofs
end
section
namespace Go.Proofs
open Go.Sh
set_option maxRecDepth 100000
set_option linter.unusedSimpArgs false
set_option linter.unusedVariables false
set_option maxHeartbeats 2000000 in
theorem j7 {u : UnD} {g : GrD} {o : OpD} {bx : Nat} {c : List Value} {w : World} {r : Gh} {K : Value→World→Prop} (hr : Holds r w) (hx : AsP r bx u g) (hst : (zw u.ss).2=0) (hf : xq u.ss g.tys) (ho : OpG r c o)
  (h : ∀ t q cap w',((zr u.ss g.tys o).2=true→t=(zr u.ss g.tys o).1)→Ext w w'→TyG r (tyV t q cap) t→K (.tuple #[tyV t q cap,.bool (zr u.ss g.tys o).2]) w') :
  zd Tryz.prog Tryz.yK #[.pointer (some ⟨bx,0,none⟩),.agg c.toArray] w K:=by
 refine Tryz.XE ?_
 unfold Tryz.jO
 obtain ⟨v,rfl,hl⟩:=ho
 obtain ⟨qs,caps,rfl,_,_⟩:=hl.sl.shape
 have hpl : PlG r [.int .i64 o.pl.l,.slice qs o.pl.ps.length caps] o.pl:=⟨_,rfl,hl⟩
 have S:=St.start hr
 refine S.box fun b3 w1 S=>?_
 have S : StX noX w r w1 [.cell b3 [.int .u8 o.k,.int .i64 o.n,.int .i64 o.pl.l,.slice qs o.pl.ps.length caps] 61]:=S
 refine S.al fun b4 w2 S=>?_
 refine gg_ ?_
 refine zk (fun h1=>?_) (fun h1=>?_)
 ·rw [zr,if_pos h1] at h
  refine zy (cs:=#[.int .u8 1,.bool false,.int .i64 0,.int .i64 0,.slice none 0 0]) (by kernel_rfl) ?_
  refine gg_ ?_
  refine S.ldN (b:=b3) ?_
  refine xm S.holds hpl fun w3 e3=>?_
  have S:=S.go e3
  refine S.stB (b:=b4) fun w4 S=>?_
  refine S.ceB (b:=b4) ?_ rfl
  exact h jy none 0 _ (fun _=>rfl) S.ext xe
 refine gg_ ?_
 refine zk (fun h2=>?_) (fun h2=>?_)
 ·rw [zr,if_neg h1,if_pos h2] at h
  refine zy (cs:=#[.int .u8 2,.bool false,.int .i64 0,.int .i64 0,.slice none 0 0]) (by kernel_rfl) ?_
  have S:=S.go (Ext.drew _)
  refine gg_ ?_
  refine S.ldN (b:=b3) ?_
  refine xm S.holds hpl fun w3 e3=>?_
  have S:=S.go e3
  have fin : ∀ {w4 : World} {L : List Asr} {b : Bool},b=(yR o.pl&&(decide (o.n=0)||decide (o.n=1)))→StX noX w r w4 (.cell b4 [.int .u8 2,.bool false,.int .i64 0,.int .i64 0,.slice none 0 0] 93::L)→K (.tuple #[tyV Vl none 0,.bool b]) w4:=fun hb S=>by
   rw [hb];exact h Vl none 0 _ (fun _=>rfl) S.ext xe
  cases hz : yR o.pl with
  |false=>
   rw [hz] at fin
   (intro K9 hK9;refine gd_ ?_;refine hK9 _ _ fun _=>?_;clear hK9 K9)
   (intro K9 hK9;refine gd_ ?_;refine hK9 _ _ fun _=>?_;clear hK9 K9)
   refine ⟨?_,?_⟩
   ·(intro K9 hK9;refine gd_ ?_;refine hK9 _ _ fun _=>?_;clear hK9 K9)
    (intro K9 hK9;refine gd_ ?_;refine hK9 _ _ fun _=>?_;clear hK9 K9)
    refine gd_ ?_
    refine S.stB (b:=b4) fun w10 S=>?_
    refine S.ceB (b:=b4) ?_ rfl
    exact fin rfl S
   ·refine S.stB (b:=b4) fun w10 S=>?_
    (intro K9 hK9;refine gd_ ?_;refine hK9 _ _ fun _=>?_;clear hK9 K9)
    (intro K9 hK9;refine gd_ ?_;refine hK9 _ _ fun _=>?_;clear hK9 K9)
    refine gd_ ?_
    exact fin rfl S
  |true=>
   rw [hz] at fin
   refine zp (fun s w'=>s = [.bool (decide (o.n=0))]∧w'=w3) (fun K9 hK9=>?_) ?_
   ·refine gd_ ?_
    exact hK9 _ _ ⟨rfl,rfl⟩
   rintro _ w3 ⟨rfl,rfl⟩ d1
   simp only [List.getD_cons_zero]
   by_cases hn : o.n=0
   ·rw [decide_eq_true hn]
    rw [decide_eq_true hn] at fin
    (intro K9 hK9;refine gd_ ?_;refine hK9 _ _ fun _=>?_;clear hK9 K9)
    refine ⟨?_,?_⟩
    ·(intro K9 hK9;refine gd_ ?_;refine hK9 _ _ fun _=>?_;clear hK9 K9)
     (intro K9 hK9;refine gd_ ?_;refine hK9 _ _ fun _=>?_;clear hK9 K9)
     refine gd_ ?_
     refine S.stB (b:=b4) fun w10 S=>?_
     refine S.ceB (b:=b4) ?_ rfl
     exact fin rfl S
    ·refine S.stB (b:=b4) fun w10 S=>?_
     (intro K9 hK9;refine gd_ ?_;refine hK9 _ _ fun _=>?_;clear hK9 K9)
     (intro K9 hK9;refine gd_ ?_;refine hK9 _ _ fun _=>?_;clear hK9 K9)
     refine gd_ ?_
     exact fin rfl S
   ·rw [decide_eq_false hn]
    rw [decide_eq_false hn] at fin
    (intro K9 hK9;refine gd_ ?_;refine hK9 _ _ fun _=>?_;clear hK9 K9)
    refine ⟨?_,?_⟩
    ·refine zp (fun s w'=>s = [.bool (decide (o.n=1))]∧w'=w3) (fun K9 hK9=>?_) ?_
     ·refine gd_ ?_
      refine w_q ?_
      refine gd_ ?_
      exact hK9 _ _ ⟨rfl,rfl⟩
     rintro _ _ ⟨rfl,rfl⟩ d1
     (intro K9 hK9;refine gd_ ?_;refine hK9 _ _ fun _=>?_;clear hK9 K9)
     refine gd_ ?_
     refine S.stB (b:=b4) fun w10 S=>?_
     refine S.ceB (b:=b4) ?_ rfl
     exact fin (by simp) S
    ·refine S.stB (b:=b4) fun w10 S=>?_
     refine zp (fun s w'=>s = [.bool (decide (o.n=1))]∧w'=w10) (fun K9 hK9=>?_) ?_
     ·refine gd_ ?_
      refine w_q ?_
      refine gd_ ?_
      exact hK9 _ _ ⟨rfl,rfl⟩
     rintro _ _ ⟨rfl,rfl⟩ d1
     (intro K9 hK9;refine gd_ ?_;refine hK9 _ _ fun _=>?_;clear hK9 K9)
     refine gd_ ?_
     exact fin (by simp) S
 intro K41 hK41
 refine gg_ ?_
 refine kA (c:=decide (o.k=4)) (hK41 _ _ fun _=>?_) fun _ hk=>?_
 rotate_left
 ·refine gg_ ?_;exact hk
 simp only [List.getD_cons_zero]
 refine c_b (fun h34=>?_) (fun h34=>?_)
 rotate_left
 ·have h34 : ¬ o.k=3∧¬ o.k=4:=by simpa using h34
  rw [zr,if_neg h1,if_neg h2,if_neg h34.1,if_neg h34.2] at h
  refine zy (cs:=#[.int .u8 0,.bool false,.int .i64 0,.int .i64 0,.slice none 0 0]) (by kernel_rfl) ?_
  refine S.stB (b:=b4) fun w10 S=>?_
  refine S.ceB (b:=b4) ?_ rfl
  exact h yc none 0 _ (fun hh=>by cases hh) S.ext xe
 have h34 : o.k=3∨o.k=4:=by simpa using h34
 have hop : zr u.ss g.tys o=if o.k=3 then ((zm u.ss g.tys o.pl).1,((zm u.ss g.tys o.pl).2.2&&decide (o.n=0))&&xK (zm u.ss g.tys o.pl).1)
   else ((zm u.ss g.tys o.pl).1,(((zm u.ss g.tys o.pl).2.2&&decide (o.n=0)) && !xK (zm u.ss g.tys o.pl).1)&&decide ((zm u.ss g.tys o.pl).2.1<2)):=by
  rw [zr,if_neg h1,if_neg h2]
  by_cases h3 : o.k=3
  ·rw [if_pos h3,if_pos h3]
  ·rw [if_neg h3,if_neg h3,if_pos (by omega)]
 refine gg_ ?_
 refine S.ldN (b:=b3) ?_
 refine YG (p:=o.pl) S.holds hx hst hf hpl (fun w3 hno e3=>?_) fun t how q cap vg s w3 hsp e3 n3 htt hsl h8=>?_
 ·have S:=S.go e3
  have hz : (zr u.ss g.tys o).2=false:=by
   rw [hop];split<;>simp [hno]
  rw [hz] at h
  refine gS_ ?_
  refine S.al fun b6 w4 S=>?_
  refine S.stB (b:=b6) fun w5 S=>?_
  refine gp_ ?_
  refine zj (c:=true) (fun hh=>by cases hh) ?_
  refine c_t rfl ?_
  refine S.ldB (b:=b6) ?_ rfl
  refine S.stB (b:=b4) fun w7 S=>?_
  refine S.ceB (b:=b4) ?_ rfl
  exact h yc none 0 _ (fun hh=>by cases hh) S.ext xe
 obtain ⟨S,d3,a3⟩:=S.tell e3 n3
 rw [hsp] at hop
 simp only [Bool.true_and] at hop
 refine gS_ ?_
 refine S.al fun b6 w4 S=>?_
 refine S.stB (b:=b6) fun w5 S=>?_
 refine gp_ ?_
 refine zj (c:=decide (o.n≠0)) (fun _ K2 hK2=>by refine gg_ ?_;exact hK2) ?_
 rw [show ((!true)||decide (o.n≠0))=decide (o.n≠0) by simp]
 refine zk (fun hn=>?_) (fun hn=>?_)
 ·have hz : (zr u.ss g.tys o).2=false:=by
   rw [hop];split<;>simp [hn]
  rw [hz] at h
  refine S.ldB (b:=b6) ?_ rfl
  refine S.stB (b:=b4) fun w7 S=>?_
  refine S.ceB (b:=b4) ?_ rfl
  exact h t q cap _ (fun hh=>by cases hh) S.ext htt
 have hn : o.n=0:=by omega
 rw [decide_eq_true hn] at hop
 simp only [Bool.true_and] at hop
 refine gg_ ?_
 refine zk (fun h3=>?_) (fun h3=>?_)
 ·rw [if_pos h3] at hop
  rw [hop] at h
  have S:=S.go (Ext.drew _)
  refine S.ldB (b:=b6) ?_ rfl
  refine S.ldB (b:=b6) ?_ rfl
  refine XY S.holds htt.up fun w6 e6=>⟨e6,?_⟩
  have S:=S.go e6
  refine S.stB (b:=b4) fun w7 S=>?_
  refine S.ceB (b:=b4) ?_ rfl
  exact h t q cap _ (fun _=>rfl) S.ext htt
 ·rw [if_neg h3] at hop
  rw [hop] at h
  have S:=S.go (Ext.drew _)
  refine S.ldB (b:=b6) ?_ rfl
  refine S.ldB (b:=b6) ?_ rfl
  refine XY S.holds htt.up fun w6 e6=>⟨e6,?_⟩
  have S:=S.go e6
  refine gp_ ?_
  refine zs (c:=decide (yC 0 how<2)) (fun _ K2 hK2=>?_) fun w7 e7=>?_
  ·refine j6 S.holds (hsl.cells (s:=r.or s)) (by omega) fun w7 e7=>⟨e7,?_⟩
   refine gp_ ?_
   exact hK2 _ e7
  have S:=S.go e7
  refine S.stB (b:=b4) fun w7 S=>?_
  refine S.ceB (b:=b4) ?_ rfl
  exact h t q cap _ (fun _=>rfl) S.ext htt
theorem abC {ss : List StD} {tys : List TyD} (hf : xq ss tys) {o : OpD} (h : (zr ss tys o).2=true) : isB (zr ss tys o).1=true:=by
 by_cases hk : o.k=3∨o.k=4
 ·unfold zr at h ⊢
  rw [if_neg (by omega),if_neg (by omega)] at h ⊢
  rcases hk with hk|hk
  ·rw [if_pos hk] at h ⊢
   simp only [Bool.and_eq_true] at h
   exact (qu hf h.1.1).is hf.few
  ·rw [if_neg (by omega),if_pos hk] at h ⊢
   simp only [Bool.and_eq_true] at h
   exact (qu hf h.1.1.1).is hf.few
 ·unfold zr at h ⊢
  by_cases h1 : o.k=1
  ·rw [if_pos h1];rfl
  by_cases h2 : o.k=2
  ·rw [if_neg h1,if_pos h2];rfl
  ·rw [if_neg h1,if_neg h2,if_neg (by omega),if_neg (by omega)] at h;cases h
theorem abD {ss : List StD} {tys : List TyD} : ∀ {l : List OpD} {ts : List TyD} (i : Nat) (hi : i<l.length) (hj : i<ts.length),yS ss tys (l.take (i+1)) (ts.take (i+1))=(yS ss tys (l.take i) (ts.take i)&&((zr ss tys l[i]).2&&zO yg (zr ss tys l[i]).1 ts[i]))
 |[],_,i,hi,_=>absurd hi (Nat.not_lt_zero _)
 |_::_,[],i,_,hj=>absurd hj (Nat.not_lt_zero _)
 |o::l,t::r,0,hi,hj=>by
  rw [List.take_succ_cons,List.take_succ_cons,kE]
  simp [yS]
 |o::l,t::r,i+1,hi,hj=>by
  rw [List.take_succ_cons,List.take_succ_cons,kE,abD i (by simpa using hi) (by simpa using hj),List.take_succ_cons,List.take_succ_cons,kE]
  simp only [List.getElem_cons_succ,Bool.and_assoc]
theorem ai6 {ss : List StD} {tys : List TyD} {l : List OpD} {ts : List TyD} {i : Nat} (hi : i<l.length) (hj : i<ts.length) (h : ((zr ss tys l[i]).2&&zO yg (zr ss tys l[i]).1 ts[i])=false) : yS ss tys l ts=false:=by
 cases ha : yS ss tys l ts with
 |false=>rfl
 |true=>
  exfalso
  have key : ∀ {l : List OpD} {ts : List TyD} (i : Nat) (hi : i<l.length) (hj : i<ts.length),yS ss tys l ts=true→((zr ss tys l[i]).2&&zO yg (zr ss tys l[i]).1 ts[i])=true:=by
   intro l
   induction l with
   |nil=>intro ts i hi;exact absurd hi (Nat.not_lt_zero _)
   |cons o l ih=>
    intro ts i hi hj ha
    cases ts with
    |nil=>exact absurd hj (Nat.not_lt_zero _)
    |cons t r=>
     rw [kE,Bool.and_eq_true] at ha
     cases i with
     |zero=>exact ha.1
     |succ i=>exact ih i (by simpa using hi) (by simpa using hj) ha.2
  rw [key i hi hj ha] at h;cases h
set_option maxHeartbeats 1000000 in
theorem JJ {u : UnD} {g : GrD} {l : List OpD} {ts : List TyD} {bx : Nat} {p q : Option Addr} {cp cq : Nat} {w : World} {r : Gh} {K : Value→World→Prop} (hr : Holds r w) (hx : AsP r bx u g) (hst : (zw u.ss).2=0) (hf : xq u.ss g.tys)
  (hl : SlG 4 r (OpG r) (.slice p l.length cp) l) (hb : l.length≤maxLen) (ht : TysG r q ts) (htb : ts.length≤maxLen) (hts : ∀ t ∈ ts,isB t=true)
  (h : ∀ w',Ext w w'→K (.bool (yS u.ss g.tys l ts)) w') : zd Tryz.prog Tryz.xP #[.pointer (some ⟨bx,0,none⟩),.slice p l.length cp,.slice q ts.length cq] w K:=by
 refine Tryz.Q0 ?_
 unfold Tryz.Zw
 have S:=St.start hr
 have hb' : l.length≤9223372036854775807:=hb
 refine gg_ ?_
 refine zk (fun hne=>?_) (fun heq=>?_)
 ·have:=h _ S.ext
  rw [Js (by omega)] at this
  exact this
 have heq : l.length=ts.length:=by omega
 refine zi (ι:=Nat) (fun i=>[.int .i64 (i : Nat)]) (fun i w'=>i≤l.length∧yS u.ss g.tys (l.take i) (ts.take i)=true∧StX noX w r w' []) (fun i=>l.length - i) 0 rfl ⟨Nat.zero_le _,rfl,S⟩ ?_
 clear S
 rintro i d w2 ⟨hi,hall,S⟩ K1 hK1
 rw [List.getD_cons_zero]
 refine gg_ ?_
 refine zk (fun hlt=>?_) (fun hge=>?_)
 ·have hlt : i<l.length:=by omega
  have hlt2 : i<ts.length:=by omega
  obtain ⟨bo,oo,co,rfl,hco,hoc,hocell⟩:=hl.get (by decide) hlt
  obtain ⟨bt,ot,ct,rfl,hct,htcell,htc⟩:=ht i hlt2
  obtain ⟨qt,ct2,rfl,htt⟩:=yU htc
  refine gg_ ?_
  refine zq (n:=4) hco (fun j v hj=>by rw [Int.toNat_natCast];exact S.at (hocell j v hj)) ?_
  refine j7 S.holds hx hst hf hoc fun t q cap w3 hte e3 ht3=>?_
  have S:=S.go e3
  refine gS_ ?_
  refine S.al fun b8 w4 S=>?_
  refine S.stB (b:=b8) fun w5 S=>?_
  refine gp_ ?_
  have S0:=S
  have S:=S.go (Ext.drew _)
  refine yP (c:=!zO yg (zr u.ss g.tys l[i]).1 ts[i]) (fun hok K2 hK2=>?_) fun w6 e6=>?_
  ·have hok : (zr u.ss g.tys l[i]).2=true:=by simpa using hok
   obtain rfl:=hte hok
   refine S.ldB (b:=b8) ?_ rfl
   refine gg_ ?_
   refine zq (n:=5) hct (fun j v hj=>by rw [Int.toNat_natCast];exact S.at (htcell j v hj)) ?_
   have hB:=abC hf hok
   have hB2:=hts _ (List.getElem_mem hlt2)
   refine QQ 48 hB hB2 S.holds ht3.up htt.up fun w7 e7=>?_
   refine gp_ ?_
   have ea : xR yg 48 (zr u.ss g.tys l[i]).1 ts[i]=zO yg (zr u.ss g.tys l[i]).1 ts[i]:=by rw [zO,hB,hB2];rfl
   rw [ea]
   exact hK2 _ e7
  have S:=S.go e6
  refine c_b (fun hbad=>?_) (fun hgood=>?_)
  ·have:=h _ S.ext
   rw [ai6 hlt hlt2 (by revert hbad;cases (zr u.ss g.tys l[i]).2<;>cases (zO yg (zr u.ss g.tys l[i]).1 ts[i])<;>simp)] at this
   exact this
  ·refine gg_ ?_
   rw [show ((i : Int)+1)=((i+1 : Nat) : Int) by omega]
   refine hK1 (i+1) _ ⟨hlt,?_,S.tl⟩ (by omega)
   rw [abD i hlt hlt2,hall,Bool.true_and]
   simpa using hgood
 ·have hie : i=l.length:=by omega
  have:=h _ S.ext
  rw [hie,List.take_length,heq,List.take_length] at hall
  rw [hall] at this
  exact this
end Go.Proofs
end
section
namespace Go.Sh
theorem ak1 {w : World} {b e n x y : Bool} {A1 : (List Value→World→Prop)→Prop} {A2 A3 A4 : (List Value→World→Prop)→World→Prop} {Z : Value→World→Prop}
  (h1 : ∀ K : List Value→World→Prop,(∀ w',Ext w w'→K [.bool e] w')→A1 K) (h2 : ∀ (K : List Value→World→Prop) w1,Ext w w1→(∀ w',Ext w w'→K [.bool n] w')→A2 K w1)
  (h3 : ∀ (K : List Value→World→Prop) w1,Ext w w1→(∀ w',Ext w w'→K [.bool x] w')→A3 K w1) (h4 : ∀ (K : List Value→World→Prop) w1,Ext w w1→(∀ w',Ext w w'→K [.bool y] w')→A4 K w1)
  (hZ : ∀ w',Ext w w'→Z (.bool (b||(((e||n)&&x)&&y))) w') :
  za (fun K=>gIf (.bool b) false (A1 K) (K [undef] w)) fun s92 _ w94=>
   za (fun K=>gIf (s92.getD 0 undef) false (A2 K w94) (K [undef] w94)) fun s96 _ w98=>
    za (fun K=>gIf (.bool b) false (zb (s92.getD 0 undef) (.bool true) (s96.getD 0 undef) fun t=>K [t] w98) (K [undef] w98)) fun s100 _ w102=>
     za (fun K=>gIf (s100.getD 0 undef) true (A3 K w102) (K [undef] w102)) fun s104 _ w106=>
      za (fun K=>gIf (.bool b) false (zb (s100.getD 0 undef) (s104.getD 0 undef) (.bool false) fun t=>K [t] w106) (K [undef] w106)) fun s109 _ w111=>
       za (fun K=>gIf (s109.getD 0 undef) true (A4 K w111) (K [undef] w111)) fun s113 _ w115=>
        za (fun K=>gIf (.bool b) false (zb (s109.getD 0 undef) (s113.getD 0 undef) (.bool false) fun t=>K [t] w115) (K [undef] w115)) fun s118 _ w120=>
         zb (.bool b) (.bool true) (s118.getD 0 undef) fun t=>Z t w120:=by
 cases b<;>cases e<;>cases n<;>cases x<;>cases y <;>
  (iterate 7 (intro K hK;first|refine hK _ _ fun _=>?_|(refine h1 _ fun w1 e1=>hK _ _ fun _=>?_)|(refine h2 _ _ (by first|assumption|exact Ext.refl _) fun w1 e1=>hK _ _ fun _=>?_)|(refine h3 _ _ (by first|assumption|exact Ext.refl _) fun w1 e1=>hK _ _ fun _=>?_)|(refine h4 _ _ (by first|assumption|exact Ext.refl _) fun w1 e1=>hK _ _ fun _=>?_)|refine ⟨_,rfl,hK _ _ fun _=>?_⟩)) <;>
  exact ⟨_,rfl,by simpa using hZ _ (by first|assumption|exact Ext.refl _)⟩
theorem akc {w : World} {b m x y o u v : Bool} {A1 : (List Value→World→Prop)→Prop} {A2 A3 A4 A5 A6 : (List Value→World→Prop)→World→Prop} {Z : Value→World→Prop}
  (h1 : ∀ K : List Value→World→Prop,(∀ w',Ext w w'→K [.bool m] w')→A1 K) (h2 : ∀ (K : List Value→World→Prop) w1,Ext w w1→(∀ w',Ext w w'→K [.bool x] w')→A2 K w1)
  (h3 : ∀ (K : List Value→World→Prop) w1,Ext w w1→(∀ w',Ext w w'→K [.bool y] w')→A3 K w1) (h4 : ∀ (K : List Value→World→Prop) w1,Ext w w1→(∀ w',Ext w w'→K [.bool o] w')→A4 K w1)
  (h5 : ∀ (K : List Value→World→Prop) w1,Ext w w1→(∀ w',Ext w w'→K [.bool u] w')→A5 K w1) (h6 : ∀ (K : List Value→World→Prop) w1,Ext w w1→(∀ w',Ext w w'→K [.bool v] w')→A6 K w1)
  (hZ : ∀ w',Ext w w'→Z (.bool (b&&(((m&&x)&&y)||((o&&u)&&v)))) w') :
  za (fun K=>gIf (.bool b) true (A1 K) (K [undef] w)) fun s141 _ w143=>
   za (fun K=>gIf (s141.getD 0 undef) true (A2 K w143) (K [undef] w143)) fun s145 _ w147=>
    za (fun K=>gIf (.bool b) true (zb (s141.getD 0 undef) (s145.getD 0 undef) (.bool false) fun t=>K [t] w147) (K [undef] w147)) fun s150 _ w152=>
     za (fun K=>gIf (s150.getD 0 undef) true (A3 K w152) (K [undef] w152)) fun s154 _ w156=>
      za (fun K=>gIf (.bool b) true (zb (s150.getD 0 undef) (s154.getD 0 undef) (.bool false) fun t=>K [t] w156) (K [undef] w156)) fun s159 _ w161=>
       za (fun K=>gIf (s159.getD 0 undef) false (A4 K w161) (K [undef] w161)) fun s163 _ w165=>
        za (fun K=>gIf (s163.getD 0 undef) true (A5 K w165) (K [undef] w165)) fun s167 _ w169=>
         za (fun K=>gIf (s159.getD 0 undef) false (zb (s163.getD 0 undef) (s167.getD 0 undef) (.bool false) fun t=>K [t] w169) (K [undef] w169)) fun s172 _ w174=>
          za (fun K=>gIf (s172.getD 0 undef) true (A6 K w174) (K [undef] w174)) fun s176 _ w178=>
           za (fun K=>gIf (s159.getD 0 undef) false (zb (s172.getD 0 undef) (s176.getD 0 undef) (.bool false) fun t=>K [t] w178) (K [undef] w178)) fun s181 _ w183=>
            za (fun K=>gIf (.bool b) true (zb (s159.getD 0 undef) (.bool true) (s181.getD 0 undef) fun t=>K [t] w183) (K [undef] w183)) fun s185 _ w187=>
             zb (.bool b) (s185.getD 0 undef) (.bool false) fun t=>Z t w187:=by
 cases b<;>cases m<;>cases x<;>cases y<;>cases o<;>cases u<;>cases v <;>
  (iterate 11 (intro K hK;first|refine hK _ _ fun _=>?_|(refine h1 _ fun w1 e1=>hK _ _ fun _=>?_)|(refine h2 _ _ (by first|assumption|exact Ext.refl _) fun w1 e1=>hK _ _ fun _=>?_)|(refine h3 _ _ (by first|assumption|exact Ext.refl _) fun w1 e1=>hK _ _ fun _=>?_)|(refine h4 _ _ (by first|assumption|exact Ext.refl _) fun w1 e1=>hK _ _ fun _=>?_)|(refine h5 _ _ (by first|assumption|exact Ext.refl _) fun w1 e1=>hK _ _ fun _=>?_)|(refine h6 _ _ (by first|assumption|exact Ext.refl _) fun w1 e1=>hK _ _ fun _=>?_)|refine ⟨_,rfl,hK _ _ fun _=>?_⟩)) <;>
  exact ⟨_,rfl,by simpa using hZ _ (by first|assumption|exact Ext.refl _)⟩
theorem akd {w : World} {b m x : Bool} {A1 : (List Value→World→Prop)→Prop} {A2 : (List Value→World→Prop)→World→Prop} {Z : Value→World→Prop}
  (h1 : ∀ K : List Value→World→Prop,K [.bool m] w→A1 K) (h2 : b=true→∀ K : List Value→World→Prop,(∀ w',Ext w w'→K [.bool x] w')→A2 K w) (hZ : ∀ w',Ext w w'→Z (.bool (b&&(m||x))) w') :
  za (fun K=>gIf (.bool b) true (A1 K) (K [undef] w)) fun s212 _ w214=>
   za (fun K=>gIf (s212.getD 0 undef) false (A2 K w214) (K [undef] w214)) fun s216 _ w218=>
    za (fun K=>gIf (.bool b) true (zb (s212.getD 0 undef) (.bool true) (s216.getD 0 undef) fun t=>K [t] w218) (K [undef] w218)) fun s221 _ w223=>
     zb (.bool b) (s221.getD 0 undef) (.bool false) fun t=>Z t w223:=by
 cases b<;>cases m<;>cases x <;>
  (iterate 3 (intro K hK;first|refine hK _ _ fun _=>?_|refine h1 _ (hK _ _ fun _=>?_)|(refine h2 rfl _ fun w1 e1=>hK _ _ fun _=>?_)|refine ⟨_,rfl,hK _ _ fun _=>?_⟩)) <;>
  exact ⟨_,rfl,by simpa using hZ _ (by first|assumption|exact Ext.refl _)⟩
end Go.Sh
namespace Go.Proofs
open Go.Sh
set_option maxRecDepth 100000
set_option linter.unusedSimpArgs false
set_option linter.unusedVariables false
theorem ae1 : ∀ (l : List Int) (m : Int),(m≤3)→(∀ x ∈ l,x≤3)→yC m l≤3
 |[],m,h,_=>h
 |k::l,m,h,hl=>ae1 l _ (by have:=hl k List.mem_cons_self;omega) fun x hx=>hl x (List.mem_cons_of_mem _ hx)
theorem ae2 {ss : List StD} : ∀ (l : List Int) (t : TyD) {x : TyD × List Int},zS ss l t=some x→∀ k ∈ x.2,k≤3
 |[],t,x,h=>by cases h;intro k hk;cases hk
 |k::l,t,x,h=>by
  rw [zS] at h
  cases hs : ye ss t k with
  |none=>rw [hs] at h;cases h
  |some s=>
   rw [hs] at h
   have h : (zS ss l s.1).map (fun x=>(x.1,s.2::x.2))=some x:=h
   cases hw : zS ss l s.1 with
   |none=>rw [hw] at h;cases h
   |some y=>
    rw [hw] at h
    cases h
    intro j hj
    rcases List.mem_cons.1 hj with rfl|hj
    ·unfold ye at hs
     split at hs
     ·cases ho : t.of.head? with
      |none=>rw [ho] at hs;cases hs
      |some u=>rw [ho] at hs;cases hs;show (1 : Int)≤3;decide
     split at hs
     ·cases ho : t.of.head? with
      |none=>rw [ho] at hs;cases hs
      |some u=>rw [ho] at hs;cases hs;show (if t.m then (2 : Int) else 3)≤3;split<;>decide
     split at hs
     ·cases ho : (ze ss t.st)[k.toNat]? with
      |none=>rw [ho] at hs;cases hs
      |some u=>rw [ho] at hs;cases hs;show (0 : Int)≤3;decide
     ·cases hs
    ·exact ae2 l s.1 hw j hj
theorem ah7 {ss : List StD} {tys : List TyD} {p : PlD} (hst : (zw ss).2=0) (hf : xq ss tys) (h : (zm ss tys p).2.2=true) : (zm ss tys p).2.1≤3:=by
 have h8:=abu h
 obtain ⟨h0,hl,x,h1,h2⟩:=(JI hst hf).1 h
 rw [JH hst (by rw [mayB,decide_eq_true hst,Bool.true_and];exact hf.all _ (List.getElem_mem hl)),if_pos h8] at h1
 rw [h2]
 exact ae1 _ _ (by decide) (ae2 _ _ h1)
theorem adM {u : UnD} {g : GrD} {p : PlD} {bx : Nat} {c : List Value} {w : World} {r : Gh} {K : Value→World→Prop} (hr : Holds r w) (hx : AsP r bx u g) (hst : (zw u.ss).2=0) (hf : xq u.ss g.tys) (hp : PlG r c p)
  (h : ∀ t how q cap vg s w',((zm u.ss g.tys p).2.2=true→zm u.ss g.tys p=(t,yC 0 how,true))→Ext w w'→New w s w'→TyG r (tyV t q cap) t→SlG 1 s zU vg how→how.length≤8→K (.tuple #[tyV t q cap,vg,.bool (zm u.ss g.tys p).2.2]) w') :
  zd Tryz.prog Tryz.yL #[.pointer (some ⟨bx,0,none⟩),.agg c.toArray] w K:=by
 refine YG hr hx hst hf hp (fun w' hno e=>?_) fun t how q cap vg s w' hsp e n htt hsl h8=>?_
 ·have:=h yc [] none 0 (.slice none 0 0) nothing w' (fun hh=>by rw [hno] at hh;cases hh) e New.nothing xe SlG.nil (Nat.zero_le _)
  rw [hno] at this
  exact this
 ·have:=h t how q cap vg s w' (fun _=>hsp) e n htt hsl h8
  rw [hsp] at this
  exact this
end Go.Proofs
end
section
namespace Go.Proofs
open Go.Sh
set_option maxRecDepth 100000
set_option linter.unusedSimpArgs false
set_option linter.unusedVariables false
theorem ai7 {p : PtD} {h : aaw} {L : List UInt8} (e : ([84,65,66,76,70,83,78,85,77,69] : List Int).map (kV L) = [h.to,h.a,h.b,h.args,h.fr,h.sign,h.fn,h.st,h.mu,h.el]) : qO p L 10=zB p h:=by
 simp only [List.map_cons,List.map_nil,List.cons.injEq,and_true] at e
 obtain ⟨e0,e1,e2,e3,e4,e5,e6,e7,e8,e9⟩:=e
 exact ai5 e0 e1 e2 e3 e4 e5 e6 e7 e8 e9
theorem y7 {p : PtD} {f : aaw} {has : List UInt8} {c : List Value} {w : World} {r : Gh} {K : Value→World→Prop} (e : ([84,65,66,76,70,83,78,85,77,69] : List Int).map (kV has) = [f.to,f.a,f.b,f.args,f.fr,f.sign,f.fn,f.st,f.mu,f.el]) (hh : has.length≤100) (hr : Holds r w) (hp : PtG r c p)
  (h : ∀ w',Ext w w'→K (.bool (zB p f)) w') : zd Tryz.prog Tryz.zN #[.agg c.toArray,.string (bs has)] w K:=by
 refine ae0 hr hp hh fun w' e'=>?_
 rw [ai7 e]
 exact h _ e'
theorem ak2 {s : ByteArray} {t1 t2 i x : Bool} : (yd s [[61,61],[33,61],[60],[60,61],[62],[62,61]]&&t2&&(i||((s.toList == [61,61]||s.toList == [33,61])&&x))) =
  (if yd s [[60],[60,61],[62],[62,61]]=true then t2&&i else if yd s [[61,61],[33,61]]=true then t2&&(i||x) else false):=by
 have hx : ∀ a b : List UInt8,a≠b→(s.toList == a)=true→(s.toList == b)=false:=fun a b hab h=>by
  rw [beq_iff_eq] at h
  rw [h]
  exact beq_eq_false_iff_ne.2 hab
 simp only [yd,List.any_cons,List.any_nil,Bool.or_false]
 by_cases h1 : (s.toList == [61,61])=true
 ·rw [hx _ [60] (by decide) h1,hx _ [60,61] (by decide) h1,hx _ [62] (by decide) h1,hx _ [62,61] (by decide) h1,h1]
  simp
 by_cases h2 : (s.toList == [33,61])=true
 ·rw [hx _ [60] (by decide) h2,hx _ [60,61] (by decide) h2,hx _ [62] (by decide) h2,hx _ [62,61] (by decide) h2,h2]
  simp
 rw [Bool.not_eq_true] at h1 h2
 rw [h1,h2]
 simp only [Bool.false_or,Bool.false_and,Bool.or_false,Bool.false_eq_true,if_false]
 by_cases h3 : ((s.toList == [60])||((s.toList == [60,61])||((s.toList == [62])||(s.toList == [62,61]))))=true
 ·rw [if_pos h3,h3,Bool.true_and]
 ·rw [if_neg h3]
  rw [Bool.not_eq_true] at h3
  rw [h3];rfl
theorem alD {s : ByteArray} {b t1 a1 t2 a2 : Bool} : (b&&(((s.toList == [45]&&t1)&&a1)||((s.toList == [33]&&t2)&&a2)))=(b&&(if yd s [[45]]=true then t1&&a1 else if yd s [[33]]=true then t2&&a2 else false)):=by
 congr 1
 simp only [yd,List.any_cons,List.any_nil,Bool.or_false]
 by_cases h1 : (s.toList == [45])=true
 ·have h2 : (s.toList == [33])=false:=by
   rw [beq_iff_eq] at h1;rw [h1];rfl
  rw [if_pos h1,h1,h2];simp
 ·rw [if_neg h1]
  rw [Bool.not_eq_true] at h1
  rw [h1]
  by_cases h2 : (s.toList == [33])=true
  ·rw [if_pos h2,h2];simp
  ·rw [if_neg h2];rw [Bool.not_eq_true] at h2;rw [h2];simp
set_option maxHeartbeats 8000000 in
theorem adN {u : UnD} {g : GrD} {p : PtD} {bx : Nat} {c : List Value} {w : World} {r : Gh} {K : Value→World→Prop} (hr : Holds r w) (hx : AsP r bx u g) (hst : (zw u.ss).2=0) (hf : xq u.ss g.tys)
  (hfs : ∀ f ∈ u.fs,0≤f.pn∧f.pn<f.tys.length∧xq u.ss f.tys) (hp : PtG r c p)
  (h : ∀ w',Ext w w'→K (.bool (zR u g p)) w') : zd Tryz.prog Tryz.kS #[.pointer (some ⟨bx,0,none⟩),.agg c.toArray] w K:=by
 refine Tryz.Qn ?_
 unfold Tryz.vE
 have hx0:=hx
 obtain ⟨p0,cap0,qf,capf,q1,c1,q2,c2,q3,c3,q4,c4,hB,hu,hg⟩:=hx
 obtain ⟨_,_,_,hE,_,_,hss,hsl,hfn⟩:=hu
 cases hE
 have hfl : u.fs.length≤9223372036854775807:=hfn.few
 obtain ⟨_,_,_,_,hE,_,_,_,hpts⟩:=hg
 cases hE
 have hpl : g.pts.length≤9223372036854775807:=hpts.few
 obtain ⟨z1,z2,z3,z4,z5,d1,d2,d3,d4,d5,rfl,hp0⟩:=xf hp
 obtain ⟨_,_,_,_,_,hE,k1,k2,k3,k4,k5⟩:=id hp0
 cases hE
 have hpto : PlG r [.int .i64 p.to.l,.slice z1 p.to.ps.length d1] p.to:=⟨_,rfl,k1⟩
 have hpfr : PlG r [.int .i64 p.fr.l,.slice z5 p.fr.ps.length d5] p.fr:=⟨_,rfl,k5⟩
 have hoa : OpG r [.int .u8 p.a.k,.int .i64 p.a.n,.int .i64 p.a.pl.l,.slice z2 p.a.pl.ps.length d2] p.a:=⟨_,rfl,k2⟩
 have hob : OpG r [.int .u8 p.b.k,.int .i64 p.b.n,.int .i64 p.b.pl.l,.slice z3 p.b.pl.ps.length d3] p.b:=⟨_,rfl,k3⟩
 have S:=St.start hr
 refine S.box fun b3 w1 S=>?_
 have S : StX noX w r w1 [.cell b3 (ptL p z1 z2 z3 z4 z5 d1 d2 d3 d4 d5) 64]:=S
 have ld : ∀ {q : Gh} {w9 : World} {L : List Asr} {i : Nat} {v : Value} [Le r q],StX noX w q w9 L→(asL u g p0 cap0 qf capf q1 c1 q2 c2 q3 c3 q4 c4)[i]? = some v→w9.cell? ⟨bx,i,none⟩=some v:=fun S hi=>by
  rw [(S.at hB).cell];exact hi
 refine gg_ ?_
 refine zg (ld (i:=9) S rfl) ?_
 refine gg_ ?_
 refine vT (g:=decide (p.op=14)) (c:=decide (p.nx≠0)) (fun _ K2 hK2=>by refine gg_ ?_;exact hK2) (fun _ K2 hK2=>by refine gg_ ?_;exact hK2) ?_
 refine acr (g:=decide (p.op≠14)) (m:=decide (p.nx<0)) (c:=decide ((g.pts.length : Int)≤p.nx)) (fun K2 hK2=>by refine gg_ ?_;exact hK2) (fun K2 hK2=>by refine gg_ ?_;exact hK2) (fun K2 hK2=>by refine gg_ ?_;exact hK2) ?_
 have hbad : ((decide (p.tx<0)||(decide (p.op=14)&&decide (p.nx≠0)))||(decide (p.op≠14)&&(decide (p.nx<0)||decide ((g.pts.length : Int)≤p.nx)))) =
   ((decide (p.tx<0)||(!decide (p.op=14) && !vR g p.nx))||(decide (p.op=14) && !decide (p.nx=0))):=by
  have e1 : (!vR g p.nx)=(decide (p.nx<0)||decide ((g.pts.length : Int)≤p.nx)):=by
   rw [vR,Bool.not_and,← decide_not,← decide_not]
   congr 1<;>exact decide_eq_decide.2 (by omega)
  rw [e1,← decide_not,← decide_not]
  show ((decide (p.tx<0)||(decide (p.op=14)&&decide (¬ p.nx=0)))||(decide (¬ p.op=14)&&(decide (p.nx<0)||decide ((g.pts.length : Int)≤p.nx))))=_
  ac_rfl
 rw [hbad]
 refine c_b (fun hc=>?_) (fun hc=>?_)
 ·have:=h _ S.ext
  rw [zR,hc] at this
  exact this
 rw [zR,hc] at h
 simp only [Bool.not_false,Bool.true_and] at h
 clear hbad hc
 refine gg_ ?_
 refine S.ldN (b:=b3) ?_
 refine ag8 (p:=p.to) S.holds hx0 hst hf hpto fun tt qt ct w2 htt e2 ht2=>?_
 have S:=S.go e2
 refine gS_ ?_
 refine S.al fun b6 w3 S=>?_
 refine S.stB (b:=b6) fun w4 S=>?_
 refine gg_ ?_
 refine S.ldN (b:=b3) ?_
 refine j7 (o:=p.a) S.holds hx0 hst hf hoa fun ta qa ca w5 hta e5 ht5=>?_
 have S:=S.go e5
 refine gS_ ?_
 refine S.al fun b8 w6 S=>?_
 refine S.stB (b:=b8) fun w7 S=>?_
 refine gg_ ?_
 refine S.ldN (b:=b3) ?_
 refine j7 (o:=p.b) S.holds hx0 hst hf hob fun tb qb cb w8 htb e8 ht8=>?_
 have S:=S.go e8
 refine gS_ ?_
 refine S.al fun b10 w9 S=>?_
 refine S.stB (b:=b10) fun w10 S=>?_
 refine gg_ ?_
 refine S.ldN (b:=b3) ?_
 refine adM (p:=p.fr) S.holds hx0 hst hf hpfr fun tf how qr cr vg s w11 htf e11 n11 ht11 hhow hh8=>?_
 obtain ⟨S,dd,ad⟩:=S.tell e11 n11
 obtain ⟨vgp,vgc,rfl,_,_⟩:=hhow.shape
 refine gS_ ?_
 refine S.al fun b12 w12 S=>?_
 refine S.stB (b:=b12) fun w13 S=>?_
 have S : StX noX w (r.or s) w13 [.cell b12 (tyL tf qr cr) 93,.cell b10 (tyL tb qb cb) 93,.cell b8 (tyL ta qa ca) 93,.cell b6 (tyL tt qt ct) 93,.cell b3 (ptL p z1 z2 z3 z4 z5 d1 d2 d3 d4 d5) 64]:=S
 have hpr : PtG (r.or s) (ptL p z1 z2 z3 z4 z5 d1 d2 d3 d4 d5) p:=hp0.up
 have ht2 : TyG (r.or s) (tyV tt qt ct) tt:=ht2.up
 have ht5 : TyG (r.or s) (tyV ta qa ca) ta:=ht5.up
 have ht8 : TyG (r.or s) (tyV tb qb cb) tb:=ht8.up
 have ht11 : TyG (r.or s) (tyV tf qr cr) tf:=ht11.up
 have hhow : SlG 1 (r.or s) zU (.slice vgp how.length vgc) how:=hhow.cells
 have hBto : (zm u.ss g.tys p.to).2.2=true→isB (zm u.ss g.tys p.to).1=true:=fun ho=>(qu hf ho).is hf.few
 have hBa : (zr u.ss g.tys p.a).2=true→isB (zr u.ss g.tys p.a).1=true:=abC hf
 have hBf : (zm u.ss g.tys p.fr).2.2=true→isB (zm u.ss g.tys p.fr).1=true:=fun ho=>(qu hf ho).is hf.few
 have ali : ∀ {a b : TyD} {va vb : Value} {w9 : World} {L : List Asr} {K9 : Value→World→Prop},isB a=true→isB b=true→StX noX w (r.or s) w9 L→TyG (r.or s) va a→TyG (r.or s) vb b→(∀ w',Ext w9 w'→K9 (.bool (zO yg a b)) w')→zd Tryz.prog Tryz.yG #[va,vb] w9 K9:=fun ha hb S hva hvb hk=>by
  refine QQ 48 ha hb S.holds hva hvb fun w' e'=>?_
  have:=hk w' e'
  rw [zO,ha,hb] at this
  exact this
 refine gg_ ?_
 refine zk (fun hop=>?_) (fun hop=>?_)
 ·rw [ptG] at h
  simp only [hop,Int.reduceEq,if_false,if_true] at h
  refine S.ldB (b:=b3) ?_ rfl
  refine y7 (f:={ to:=true,a:=true }) (by decide) (by decide) S.holds hpr fun w14 e14=>?_
  have S:=S.go e14
  refine zf (c:=(zm u.ss g.tys p.to).2.2&&decide ((zm u.ss g.tys p.to).2.1<3)) (fun _ K2 hK2=>hK2) ?_
  refine zf (c:=(zr u.ss g.tys p.a).2) (fun _ K2 hK2=>hK2) ?_
  refine zs (c:=zO yg (zr u.ss g.tys p.a).1 (zm u.ss g.tys p.to).1) (fun hb K2 hK2=>?_) fun w15 e15=>h _ (S.go e15).ext
  simp only [Bool.and_eq_true] at hb
  obtain rfl:=htt hb.1.2.1
  obtain rfl:=hta hb.2
  refine S.ldB (b:=b8) ?_ rfl
  refine S.ldB (b:=b6) ?_ rfl
  exact ali (hBa hb.2) (hBto hb.1.2.1) S ht5 ht2 fun w' e'=>hK2 _ e'
 refine gg_ ?_
 refine zk (fun hop=>?_) (fun hop=>?_)
 ·rw [ptG] at h
  simp only [hop,Int.reduceEq,if_false,if_true] at h
  refine S.ldB (b:=b3) ?_ rfl
  refine y7 (f:={ to:=true,a:=true,b:=true,sign:=true }) (by decide) (by decide) S.holds hpr fun w14 e14=>?_
  have S:=S.go e14
  refine gg_ ?_
  refine zj (c:=!((zm u.ss g.tys p.to).2.2&&decide ((zm u.ss g.tys p.to).2.1<3))) (fun _ K2 hK2=>by refine gg_ ?_;exact hK2) ?_
  refine zj (c:=!(zr u.ss g.tys p.a).2) (fun _ K2 hK2=>by refine gg_ ?_;exact hK2) ?_
  refine zj (c:=!(zr u.ss g.tys p.b).2) (fun _ K2 hK2=>by refine gg_ ?_;exact hK2) ?_
  refine c_b (fun hc=>?_) (fun hc=>?_)
  ·rw [bb4 hc,Bool.false_and] at h
   exact h _ S.ext
  rw [akU hc,Bool.true_and] at h
  simp only [Bool.or_eq_false_iff,Bool.not_eq_false',Bool.and_eq_true] at hc
  obtain ⟨⟨⟨_,hto,_⟩,ha2⟩,hb2⟩:=hc
  obtain rfl:=htt hto
  obtain rfl:=hta ha2
  obtain rfl:=htb hb2
  refine gg_ ?_
  refine aeZ ?_
  refine c_b (fun hs=>?_) (fun hs=>?_)
  ·rw [if_pos hs] at h
   refine S.ldB (b:=b6) ?_ rfl
   refine zV S.holds fun w15 e15=>?_
   have S:=S.go e15
   refine zs (c:=isK (zr u.ss g.tys p.a).1 1) (fun _ K2 hK2=>?_) fun w16 e16=>?_
   ·refine S.ldB (b:=b8) ?_ rfl
    exact zV S.holds fun w' e'=>hK2 _ e'
   have S:=S.go e16
   refine zs (c:=isK (zr u.ss g.tys p.b).1 1) (fun _ K2 hK2=>?_) fun w17 e17=>?_
   ·refine S.ldB (b:=b10) ?_ rfl
    exact zV S.holds fun w' e'=>hK2 _ e'
   have:=h _ (S.go e17).ext
   rw [← Bool.and_assoc] at this
   exact this
  rw [if_neg (by rw [hs];decide)] at h
  refine S.ldB (b:=b8) ?_ rfl
  refine zV S.holds fun w15 e15=>?_
  have S:=S.go e15
  refine zs (c:=isK (zr u.ss g.tys p.b).1 1) (fun _ K2 hK2=>?_) fun w16 e16=>?_
  ·refine S.ldB (b:=b10) ?_ rfl
   exact zV S.holds fun w' e'=>hK2 _ e'
  have S:=S.go e16
  refine ak1 (e:=p.sign.toList == [61,61]) (n:=p.sign.toList == [33,61]) (x:=isK (zr u.ss g.tys p.a).1 2) (y:=isK (zr u.ss g.tys p.b).1 2) (fun K2 hK2=>?_) (fun K2 w1 e1 hK2=>?_) (fun K2 w1 e1 hK2=>?_) (fun K2 w1 e1 hK2=>?_) fun w17 e17=>?_
  ·refine gg_ ?_
   exact hK2 _ (Ext.refl _)
  ·have S:=S.go e1
   refine gg_ ?_
   exact hK2 _ (by first|exact e1|exact Ext.refl _)
  ·have S:=S.go e1
   refine S.ldB (b:=b8) ?_ rfl
   exact zV S.holds fun w' e'=>hK2 _ (e1.trans e')
  ·have S:=S.go e1
   refine S.ldB (b:=b10) ?_ rfl
   exact zV S.holds fun w' e'=>hK2 _ (e1.trans e')
  have S:=S.go e17
  refine gg_ ?_
  refine acu ?_
  refine zs (c:=isK (zm u.ss g.tys p.to).1 2) (fun _ K2 hK2=>?_) fun w18 e18=>?_
  ·refine S.ldB (b:=b6) ?_ rfl
   exact zV S.holds fun w' e'=>hK2 _ e'
  have S:=S.go e18
  refine zf (c:=(isK (zr u.ss g.tys p.a).1 1&&isK (zr u.ss g.tys p.b).1 1)||(((p.sign.toList == [61,61]||p.sign.toList == [33,61])&&isK (zr u.ss g.tys p.a).1 2)&&isK (zr u.ss g.tys p.b).1 2)) (fun _ K2 hK2=>hK2) ?_
  have:=h _ S.ext
  rw [← ak2 (t1:=true),← Bool.and_assoc ((p.sign.toList == [61,61])||(p.sign.toList == [33,61]))] at this
  exact this
 refine gg_ ?_
 refine zk (fun hop=>?_) (fun hop=>?_)
 ·rw [ptG] at h
  simp only [hop,Int.reduceEq,if_false,if_true] at h
  refine S.ldB (b:=b3) ?_ rfl
  refine y7 (f:={ to:=true,a:=true,sign:=true }) (by decide) (by decide) S.holds hpr fun w14 e14=>?_
  have S:=S.go e14
  refine zf (c:=(zm u.ss g.tys p.to).2.2&&decide ((zm u.ss g.tys p.to).2.1<3)) (fun _ K2 hK2=>hK2) ?_
  refine zf (c:=(zr u.ss g.tys p.a).2) (fun _ K2 hK2=>hK2) ?_
  rw [← alD] at h
  cases hb : ((zB p { to:=true,a:=true,sign:=true } && ((zm u.ss g.tys p.to).2.2&&decide ((zm u.ss g.tys p.to).2.1<3)))&&(zr u.ss g.tys p.a).2) with
  |false=>
   rw [hb,Bool.false_and] at h
   (intro K9 hK9;refine gd_ ?_;refine hK9 _ _ fun _=>?_;clear hK9 K9)
   (intro K9 hK9;refine gd_ ?_;refine hK9 _ _ fun _=>?_;clear hK9 K9)
   (intro K9 hK9;refine gd_ ?_;refine hK9 _ _ fun _=>?_;clear hK9 K9)
   (intro K9 hK9;refine gd_ ?_;refine hK9 _ _ fun _=>?_;clear hK9 K9)
   (intro K9 hK9;refine gd_ ?_;refine hK9 _ _ fun _=>?_;clear hK9 K9)
   (intro K9 hK9;refine gd_ ?_;refine hK9 _ _ fun _=>?_;clear hK9 K9)
   (intro K9 hK9;refine gd_ ?_;refine hK9 _ _ fun _=>?_;clear hK9 K9)
   (intro K9 hK9;refine gd_ ?_;refine hK9 _ _ fun _=>?_;clear hK9 K9)
   (intro K9 hK9;refine gd_ ?_;refine hK9 _ _ fun _=>?_;clear hK9 K9)
   (intro K9 hK9;refine gd_ ?_;refine hK9 _ _ fun _=>?_;clear hK9 K9)
   (intro K9 hK9;refine gd_ ?_;refine hK9 _ _ fun _=>?_;clear hK9 K9)
   refine gd_ ?_
   exact h _ S.ext
  |true=>
   rw [hb] at h
   simp only [Bool.and_eq_true] at hb
   obtain rfl:=htt hb.1.2.1
   obtain rfl:=hta hb.2
   refine akc (m:=p.sign.toList == [45]) (x:=isK (zm u.ss g.tys p.to).1 1) (y:=isK (zr u.ss g.tys p.a).1 1) (o:=p.sign.toList == [33]) (u:=isK (zm u.ss g.tys p.to).1 2) (v:=isK (zr u.ss g.tys p.a).1 2) (fun K2 hK2=>?_) (fun K2 w1 e1 hK2=>?_) (fun K2 w1 e1 hK2=>?_) (fun K2 w1 e1 hK2=>?_) (fun K2 w1 e1 hK2=>?_) (fun K2 w1 e1 hK2=>?_) fun w17 e17=>h _ (S.go e17).ext
   ·refine gg_ ?_
    exact hK2 _ (Ext.refl _)
   ·have S:=S.go e1
    refine S.ldB (b:=b6) ?_ rfl
    exact zV S.holds fun w' e'=>hK2 _ (e1.trans e')
   ·have S:=S.go e1
    refine S.ldB (b:=b8) ?_ rfl
    exact zV S.holds fun w' e'=>hK2 _ (e1.trans e')
   ·have S:=S.go e1
    refine gg_ ?_
    exact hK2 _ (by first|exact e1|exact Ext.refl _)
   ·have S:=S.go e1
    refine S.ldB (b:=b6) ?_ rfl
    exact zV S.holds fun w' e'=>hK2 _ (e1.trans e')
   ·have S:=S.go e1
    refine S.ldB (b:=b8) ?_ rfl
    exact zV S.holds fun w' e'=>hK2 _ (e1.trans e')
 have h8 : ∀ k,(ze u.ss k).length≤8:=xL (xS hst).2.1
 have h32:=hf.few
 have inn : ∀ {t : TyD} {q : Option Addr} {cap : Nat},TyG (r.or s) (tyV t q cap) t→(∃ k,t.k=k∧(k=3∨k=4))→Fine u.ss t→∃ uu bo oo q2 cap2,t.of = [uu]∧q=some ⟨bo,oo,none⟩∧isB uu=true∧TyG (r.or s) (tyV uu q2 cap2) uu∧∀ j v,(tyL uu q2 cap2)[j]? = some v→Ob (r.or s) fun w=>w.cell? ⟨bo,oo+j,none⟩=some v:=fun ht hk hfi=>by
  obtain ⟨k,hk1,hk2⟩:=hk
  rcases hfi.cases with ⟨_,h1⟩|⟨uu,h1,h2,_⟩
  ·omega
  ·obtain ⟨bo,oo,q2,cap2,rfl,ht2,hcc⟩:=Zg ht h1
   exact ⟨uu,bo,oo,q2,cap2,h1,rfl,h2.is h32,ht2,hcc⟩
 refine gg_ ?_
 refine zk (fun hop=>?_) (fun hop=>?_)
 ·rw [ptG] at h
  simp only [hop,Int.reduceEq,if_false,if_true] at h
  have S:=S.go (Ext.drew _)
  refine S.ldB (b:=b3) ?_ rfl
  refine y7 (f:={ to:=true,fr:=true,mu:=true }) (by decide) (by decide) S.holds hpr fun w14 e14=>?_
  have S:=S.go e14
  refine zf (c:=(zm u.ss g.tys p.to).2.2&&decide ((zm u.ss g.tys p.to).2.1<3)) (fun _ K2 hK2=>hK2) ?_
  refine zf (c:=(zm u.ss g.tys p.fr).2.2) (fun _ K2 hK2=>hK2) ?_
  refine zs (c:=isK (zm u.ss g.tys p.to).1 4) (fun hb K2 hK2=>?_) fun w15 e15=>?_
  ·simp only [Bool.and_eq_true] at hb
   obtain rfl:=htt hb.1.2.1
   refine S.ldB (b:=b6) ?_ rfl
   exact zV S.holds fun w' e'=>hK2 _ e'
  have S:=S.go e15
  refine zf (c:=(zm u.ss g.tys p.to).1.m == p.mu) (fun hb K2 hK2=>?_) ?_
  ·simp only [Bool.and_eq_true] at hb
   obtain rfl:=htt hb.1.1.2.1
   refine gg_ ?_
   exact hK2
  refine zs (c:=zO yg ((zm u.ss g.tys p.to).1.of.headD yc) (zm u.ss g.tys p.fr).1) (fun hb K2 hK2=>?_) fun w16 e16=>?_
  ·simp only [Bool.and_eq_true] at hb
   have hto:=hb.1.1.1.2.1
   have hfr:=hb.1.1.2
   have hk4 : (zm u.ss g.tys p.to).1.k=4:=by have:=hb.1.2;simpa [isK] using this
   obtain rfl:=htt hto
   have hff:=htf hfr
   have htfe : (zm u.ss g.tys p.fr).1=tf:=by rw [hff]
   have hBf:=hBf hfr
   rw [htfe] at hBf hK2
   obtain ⟨uu,bo,oo,q2,cap2,hof,rfl,hBu,htu,hcc⟩:=inn ht2 ⟨_,hk4,.inr rfl⟩ (qu hf hto)
   rw [hof] at hK2
   have hl1 : (zm u.ss g.tys p.to).1.of.length=1:=by rw [hof];rfl
   refine gg_ ?_
   refine zq (n:=5) (c:=tyL uu q2 cap2) rfl (fun j v hj=>by simpa using S.at (hcc j v hj)) ?_
   refine S.ldB (b:=b12) ?_ rfl
   exact ali hBu hBf S htu ht11 fun w' e'=>hK2 _ e'
  have S:=S.go e16
  refine akd (m:=!p.mu) (x:=decide (yC 0 how<3)) (fun K2 hK2=>by refine gg_ ?_;exact hK2) (fun _ K2 hK2=>?_) fun w17 e17=>?_
  ·refine j6 S.holds hhow (by omega) fun w7 e7=>?_
   refine gp_ ?_
   exact hK2 _ e7
  have:=h _ (S.go e17).ext
  rw [Bool.beq_eq_decide_eq,Bool.and_assoc]
  cases hfr : (zm u.ss g.tys p.fr).2.2 with
  |false=>
   rw [hfr] at this
   simp only [Bool.and_false,Bool.false_and] at this ⊢
   exact this
  |true=>
   have hm3:=ah7 hst hf hfr
   have hff:=htf hfr
   have e1 : (zm u.ss g.tys p.fr).2.1=yC 0 how:=by rw [hff]
   rw [e1] at hm3
   rw [hfr,e1] at this
   have e2 : (!(p.mu&&decide (yC 0 how=3)))=(!p.mu||decide (yC 0 how<3)):=by
    rw [Bool.not_and,← decide_not]
    congr 1
    exact decide_eq_decide.2 (by omega)
   rw [e2] at this
   exact this
 refine gg_ ?_
 refine zk (fun hop=>?_) (fun hop=>?_)
 ·rw [ptG] at h
  simp only [hop,Int.reduceEq,if_false,if_true] at h
  have S:=S.go (Ext.drew _)
  refine S.ldB (b:=b3) ?_ rfl
  refine y7 (f:={ to:=true,a:=true }) (by decide) (by decide) S.holds hpr fun w14 e14=>?_
  have S:=S.go e14
  refine zf (c:=(zm u.ss g.tys p.to).2.2&&decide ((zm u.ss g.tys p.to).2.1<3)) (fun _ K2 hK2=>hK2) ?_
  refine zf (c:=(zr u.ss g.tys p.a).2) (fun _ K2 hK2=>hK2) ?_
  refine zs (c:=isK (zm u.ss g.tys p.to).1 3) (fun hb K2 hK2=>?_) fun w15 e15=>?_
  ·simp only [Bool.and_eq_true] at hb
   obtain rfl:=htt hb.1.2.1
   refine S.ldB (b:=b6) ?_ rfl
   exact zV S.holds fun w' e'=>hK2 _ e'
  have S:=S.go e15
  refine zs (c:=zO yg ((zm u.ss g.tys p.to).1.of.headD yc) (zr u.ss g.tys p.a).1) (fun hb K2 hK2=>?_) fun w16 e16=>h _ (S.go e16).ext
  simp only [Bool.and_eq_true] at hb
  have hto:=hb.1.1.2.1
  have ha2:=hb.1.2
  have hk3 : (zm u.ss g.tys p.to).1.k=3:=by have:=hb.2;simpa [isK] using this
  obtain rfl:=htt hto
  obtain rfl:=hta ha2
  obtain ⟨uu,bo,oo,q2,cap2,hof,rfl,hBu,htu,hcc⟩:=inn ht2 ⟨_,hk3,.inl rfl⟩ (qu hf hto)
  rw [hof] at hK2
  have hl1 : (zm u.ss g.tys p.to).1.of.length=1:=by rw [hof];rfl
  refine gg_ ?_
  refine zq (n:=5) (c:=tyL uu q2 cap2) rfl (fun j v hj=>by simpa using S.at (hcc j v hj)) ?_
  refine S.ldB (b:=b8) ?_ rfl
  exact ali hBu (hBa ha2) S htu ht5 fun w' e'=>hK2 _ e'
 refine gg_ ?_
 refine zk (fun hop=>?_) (fun hop=>?_)
 ·rw [ptG] at h
  simp only [hop,Int.reduceEq,if_false,if_true] at h
  refine S.ldB (b:=b3) ?_ rfl
  refine y7 (f:={ to:=true,args:=true,st:=true }) (by decide) (by decide) S.holds hpr fun w14 e14=>?_
  have S:=S.go e14
  refine gg_ ?_
  refine zj (c:=!((zm u.ss g.tys p.to).2.2&&decide ((zm u.ss g.tys p.to).2.1<3))) (fun _ K2 hK2=>by refine gg_ ?_;exact hK2) ?_
  refine yP (c:=!isK (zm u.ss g.tys p.to).1 5) (fun hb K2 hK2=>?_) fun w15 e15=>?_
  ·simp only [Bool.or_eq_false_iff,Bool.not_eq_false',Bool.and_eq_true] at hb
   obtain rfl:=htt hb.2.1
   refine S.ldB (b:=b6) ?_ rfl
   refine zV S.holds fun w' e'=>?_
   refine gp_ ?_
   exact hK2 _ e'
  have S:=S.go e15
  refine zj (c:=decide ((zm u.ss g.tys p.to).1.st≠p.st)) (fun hb K2 hK2=>?_) ?_
  ·simp only [Bool.or_eq_false_iff,Bool.not_eq_false',Bool.and_eq_true] at hb
   obtain rfl:=htt hb.1.2.1
   refine gg_ ?_
   exact hK2
  refine c_b (fun hc=>?_) (fun hc=>?_)
  ·rw [bb3 hc,Bool.false_and] at h
   exact h _ S.ext
  rw [akV hc,Bool.true_and] at h
  simp only [Bool.or_eq_false_iff,Bool.not_eq_false',Bool.and_eq_true,decide_eq_false_iff_not] at hc
  obtain ⟨⟨⟨_,hto,_⟩,hk5⟩,hste⟩:=hc
  obtain rfl:=htt hto
  have S:=S.go (Ext.drew _)
  refine gg_ ?_
  refine zg (ld (i:=0) S rfl) ?_
  refine S.ldB (b:=b6) ?_ rfl
  refine acj S.holds hss.up (by omega) (fun k=>by have:=h8 k;omega) ht2 fun qx cx sn w16 e16 n16 hts=>?_
  obtain ⟨S,_,_⟩:=S.tell e16 n16
  refine gS_ ?_
  refine gg_ ?_
  have hfb : ∀ t ∈ (yl u.ss (zm u.ss g.tys p.to).1).1,isB t=true:=fun t ht=>by
   rw [yl] at ht
   split at ht
   ·exact Fine.is (ss:=u.ss) (hf.good _ t ht) h32
   ·cases ht
  have hfl8 : (yl u.ss (zm u.ss g.tys p.to).1).1.length≤8:=by
   rw [yl]
   split
   ·exact h8 _
   ·simp
  refine JJ (l:=p.args) S.holds hx0.up hst hf (k4.sl.up' inferInstance fun c x hx=>OpG.up hx) k4.few (TysG.up hts) (by simp only [maxLen];omega) hfb fun w17 e17=>?_
  exact h _ (S.go e17).ext
 refine gg_ ?_
 refine zk (fun hop=>?_) (fun hop=>?_)
 ·rw [ptG] at h
  simp only [hop,Int.reduceEq,if_false,if_true] at h
  have S:=S.go (Ext.drew _)
  refine S.ldB (b:=b3) ?_ rfl
  refine y7 (f:={ to:=true,args:=true,fn:=true }) (by decide) (by decide) S.holds hpr fun w14 e14=>?_
  have S:=S.go e14
  refine gg_ ?_
  refine zj (c:=!((zm u.ss g.tys p.to).2.2&&decide ((zm u.ss g.tys p.to).2.1<3))) (fun _ K2 hK2=>by refine gg_ ?_;exact hK2) ?_
  refine zj (c:=decide (p.fn<0)) (fun _ K2 hK2=>by refine gg_ ?_;exact hK2) ?_
  refine zj (c:=decide ((u.fs.length : Int)≤p.fn)) (fun _ K2 hK2=>?_) ?_
  ·refine gg_ ?_
   refine zg (ld (i:=1) S rfl) ?_
   refine gg_ ?_
   exact hK2
  refine c_b (fun hc=>?_) (fun hc=>?_)
  ·rw [bb5 hc,Bool.false_and] at h
   exact h _ S.ext
  rw [akW hc,Bool.true_and] at h
  simp only [Bool.or_eq_false_iff,Bool.not_eq_false',Bool.and_eq_true,decide_eq_false_iff_not] at hc
  obtain ⟨⟨⟨_,hto,_⟩,hfn0⟩,hfn1⟩:=hc
  obtain rfl:=htt hto
  have hltf : p.fn.toNat<u.fs.length:=by omega
  rw [List.getElem?_eq_getElem hltf] at h
  dsimp only at h
  obtain ⟨hpn0,hpn1,hff⟩:=hfs _ (List.getElem_mem hltf)
  obtain ⟨bf,of,cf,rfl,hcf,hgc,hfo⟩:=hfn.sl.get (by decide) hltf
  generalize u.fs[p.fn.toNat]=f at h hpn0 hpn1 hff hgc
  obtain ⟨vo,vt,vn,vp,rfl,m1,m2,m3,m4⟩:=hgc
  obtain ⟨qo,capo,rfl,_,_⟩:=m1.sl.shape
  obtain ⟨qt2,capt2,rfl,_,hct2⟩:=m2.sl.shape
  obtain ⟨qn,capn,rfl,_,_⟩:=m3.sl.shape
  obtain ⟨qp,capp,rfl,_,_⟩:=m4.sl.shape
  have hml:=m2.few
  have hml' : f.tys.length≤9223372036854775807:=hml
  have S:=S.go (Ext.drew _)
  refine gg_ ?_
  refine zg (ld (i:=1) S rfl) ?_
  refine gg_ ?_
  refine zq (n:=7) hcf (fun j v hj=>S.at (hfo j v hj)) ?_
  refine S.alU fun b18 w15 S=>?_
  refine S.stB (b:=b18) fun w16 S=>?_
  have S:=S.go (Ext.drew _)
  refine gg_ ?_
  have hlen : (f.pn+1).toNat - (1 : Int).toNat=((f.tys.drop 1).take f.pn.toNat).length:=by rw [List.length_take,List.length_drop];omega
  rw [hlen]
  have hsub:=(X0 m2.sl).sub (a:=(1 : Int).toNat) (n:=f.pn.toNat) (cap:=capt2) hct2
  have hlst : (f.tys.drop (1 : Int).toNat).take f.pn.toNat=(f.tys.drop 1).take f.pn.toNat:=rfl
  rw [hlst] at hsub
  generalize (if capt2=(1 : Int).toNat then qt2 else qt2.map (·.add ((1 : Int).toNat*5)))=qs2 at hsub ⊢
  have hpb : ∀ t ∈ (f.tys.drop 1).take f.pn.toNat,isB t=true:=fun t ht=>(hff.all t (List.mem_of_mem_drop (List.mem_of_mem_take ht))).is h32
  refine JJ (l:=p.args) S.holds hx0.up hst hf (k4.sl.up' inferInstance fun c x hx=>OpG.up hx) k4.few (TysG.up hsub) (by rw [List.length_take,List.length_drop];omega) hpb fun w17 e17=>?_
  have S:=S.go e17
  have hpos : 0<f.tys.length:=by omega
  have hhd : f.tys.headD yc=f.tys[0]:=by rw [List.headD_eq_head?_getD,List.head?_eq_getElem?,List.getElem?_eq_getElem hpos,Option.getD_some]
  rw [hhd] at h
  refine zs (c:=zO yg (zm u.ss g.tys p.to).1 f.tys[0]) (fun _ K2 hK2=>?_) fun w18 e18=>?_
  ·obtain ⟨bt,ot,ct3,rfl,hct3,htc,hto3⟩:=X0 m2.sl 0 hpos
   obtain ⟨q9,cap9,rfl,ht9⟩:=yU hto3
   refine S.ldB (b:=b6) ?_ rfl
   refine gg_ ?_
   refine zq (n:=5) hct3 (fun j v hj=>by simpa using S.at (htc j v hj)) ?_
   exact ali (hBto hto) ((hff.all _ (List.getElem_mem hpos)).is h32) S ht2 ht9.up fun w' e'=>hK2 _ e'
  have:=h _ (S.go e18).ext
  rw [Bool.and_comm] at this
  exact this
 refine gg_ ?_
 refine zk (fun hop=>?_) (fun hop=>?_)
 ·rw [ptG] at h
  simp only [hop,Int.reduceEq,if_false,if_true] at h
  refine S.ldB (b:=b3) ?_ rfl
  refine y7 (f:={ to:=true }) (by decide) (by decide) S.holds hpr fun w14 e14=>?_
  have S:=S.go e14
  refine zf (c:=(zm u.ss g.tys p.to).2.2&&decide ((zm u.ss g.tys p.to).2.1<3)) (fun _ K2 hK2=>hK2) ?_
  refine zs (c:=isK (zm u.ss g.tys p.to).1 1) (fun hb K2 hK2=>?_) fun w15 e15=>h _ (S.go e15).ext
  simp only [Bool.and_eq_true] at hb
  obtain rfl:=htt hb.2.1
  refine S.ldB (b:=b6) ?_ rfl
  exact zV S.holds fun w' e'=>hK2 _ e'
 refine gg_ ?_
 refine zk (fun hop=>?_) (fun hop=>?_)
 ·rw [ptG] at h
  simp only [hop,Int.reduceEq,if_false,if_true] at h
  refine S.ldB (b:=b3) ?_ rfl
  refine y7 (f:={ a:=true }) (by decide) (by decide) S.holds hpr fun w14 e14=>?_
  have S:=S.go e14
  refine zf (c:=(zr u.ss g.tys p.a).2) (fun _ K2 hK2=>hK2) ?_
  refine zs (c:=isK (zr u.ss g.tys p.a).1 1) (fun hb K2 hK2=>?_) fun w15 e15=>h _ (S.go e15).ext
  simp only [Bool.and_eq_true] at hb
  obtain rfl:=hta hb.2
  refine S.ldB (b:=b8) ?_ rfl
  exact zV S.holds fun w' e'=>hK2 _ e'
 refine gg_ ?_
 refine zk (fun hop=>?_) (fun hop=>?_)
 ·rw [ptG] at h
  simp only [hop,Int.reduceEq,if_false,if_true] at h
  have S:=S.go (Ext.drew _)
  refine gg_ ?_
  refine zg (ld (i:=0) S rfl) ?_
  refine S.ldB (b:=b12) ?_ rfl
  refine ady S.holds hss.up (by omega) (fun k=>by have:=h8 k;omega) ht11 fun w14 e14=>?_
  have S:=S.go e14
  refine gS_ ?_
  refine S.ldB (b:=b3) ?_ rfl
  refine y7 (f:={ fr:=true }) (by decide) (by decide) S.holds hpr fun w15 e15=>?_
  have S:=S.go e15
  refine zf (c:=(zm u.ss g.tys p.fr).2.2) (fun _ K2 hK2=>hK2) ?_
  refine zf (c:=(kL u.ss tf).1) (fun _ K2 hK2=>hK2) ?_
  refine zs (c:=decide (yC 0 how<2)) (fun _ K2 hK2=>?_) fun w16 e16=>?_
  ·refine j6 S.holds hhow (by omega) fun w7 e7=>?_
   refine gp_ ?_
   exact hK2 _ e7
  have:=h _ (S.go e16).ext
  cases hfr : (zm u.ss g.tys p.fr).2.2 with
  |false=>
   rw [hfr] at this
   simp only [Bool.and_false,Bool.false_and] at this ⊢
   exact this
  |true=>
   rw [htf hfr] at this
   exact this
 refine gg_ ?_
 refine zk (fun hop=>?_) (fun hop=>?_)
 ·rw [ptG] at h
  simp only [hop,Int.reduceEq,if_false,if_true] at h
  refine S.ldB (b:=b3) ?_ rfl
  refine y7 (f:={ fr:=true }) (by decide) (by decide) S.holds hpr fun w14 e14=>?_
  have S:=S.go e14
  refine zf (c:=(zm u.ss g.tys p.fr).2.2) (fun _ K2 hK2=>hK2) ?_
  refine zf (c:=decide (0<p.fr.l)) (fun _ K2 hK2=>by refine gg_ ?_;exact hK2) ?_
  refine zf (c:=decide (p.fr.ps.length=0)) (fun _ K2 hK2=>?_) (h _ S.ext)
  refine gg_ ?_
  rw [decide_eq_decide.2 (kB p.fr.ps.length)]
  exact hK2
 refine gg_ ?_
 refine zk (fun hop=>?_) (fun hop=>?_)
 ·rw [ptG] at h
  simp only [hop,Int.reduceEq,if_false,if_true] at h
  refine S.ldB (b:=b3) ?_ rfl
  refine y7 (f:={ a:=true,el:=true }) (by decide) (by decide) S.holds hpr fun w14 e14=>?_
  have S:=S.go e14
  refine zf (c:=(zr u.ss g.tys p.a).2) (fun _ K2 hK2=>hK2) ?_
  refine zs (c:=isK (zr u.ss g.tys p.a).1 2) (fun hb K2 hK2=>?_) fun w15 e15=>?_
  ·simp only [Bool.and_eq_true] at hb
   obtain rfl:=hta hb.2
   refine S.ldB (b:=b8) ?_ rfl
   exact zV S.holds fun w' e'=>hK2 _ e'
  have S:=S.go e15
  refine zf (c:=decide (0≤p.el)) (fun _ K2 hK2=>by refine gg_ ?_;exact hK2) ?_
  refine zf (c:=decide (p.el<(g.pts.length : Int))) (fun _ K2 hK2=>by refine gg_ ?_;exact hK2) ?_
  have:=h _ S.ext
  rw [vR,← Bool.and_assoc] at this
  exact this
 intro K11 hK11
 refine gg_ ?_
 refine kA (c:=decide (p.op=14)) (hK11 _ _ fun _=>?_) fun _ hk=>?_
 rotate_left
 ·refine gg_ ?_;exact hk
 simp only [List.getD_cons_zero]
 rw [ptG] at h
 rw [if_neg (by omega),if_neg (by omega),if_neg (by omega),if_neg (by omega),if_neg (by omega),if_neg (by omega),if_neg (by omega),if_neg (by omega),if_neg (by omega),if_neg (by omega),if_neg (by omega),if_neg (by omega)] at h
 refine c_b (fun hh=>?_) (fun hh=>?_)
 ·have hh : p.op=13∨p.op=14:=by simpa using hh
  rw [if_pos hh] at h
  refine S.ldB (b:=b3) ?_ rfl
  refine y7 (f:={}) (by decide) (by decide) S.holds hpr fun w14 e14=>?_
  exact h _ (S.go e14).ext
 ·have hh : ¬ (p.op=13∨p.op=14):=by simpa using hh
  rw [if_neg hh] at h
  exact h _ S.ext
end Go.Proofs
end
section
namespace Go.Sh
theorem ai8 {w : World} {b x y z : Bool} {A1 : (List Value→World→Prop)→Prop} {A2 A3 : (List Value→World→Prop)→World→Prop} {Z : Value→World→Prop}
  (h1 : b=true→∀ K : List Value→World→Prop,K [.bool x] w→A1 K) (h2 : b=true→∀ K : List Value→World→Prop,K [.bool y] w→A2 K w) (h3 : b=true→∀ K : List Value→World→Prop,K [.bool z] w→A3 K w)
  (hZ : Z (.bool (b&&(x||(y&&z)))) w) :
  za (fun K=>gIf (.bool b) true (A1 K) (K [undef] w)) fun s80 _ w82=>
   za (fun K=>gIf (s80.getD 0 undef) false (A2 K w82) (K [undef] w82)) fun s84 _ w86=>
    za (fun K=>gIf (s84.getD 0 undef) true (A3 K w86) (K [undef] w86)) fun s88 _ w90=>
     za (fun K=>gIf (s80.getD 0 undef) false (zb (s84.getD 0 undef) (s88.getD 0 undef) (.bool false) fun t=>K [t] w90) (K [undef] w90)) fun s92 _ w94=>
      za (fun K=>gIf (.bool b) true (zb (s80.getD 0 undef) (.bool true) (s92.getD 0 undef) fun t=>K [t] w94) (K [undef] w94)) fun s96 _ w98=>
       zb (.bool b) (s96.getD 0 undef) (.bool false) fun t=>Z t w98:=by
 cases b<;>cases x<;>cases y<;>cases z <;>
  (iterate 5 (intro K hK;first|refine hK _ _ fun _=>?_|refine h1 rfl _ (hK _ _ fun _=>?_)|refine h2 rfl _ (hK _ _ fun _=>?_)|refine h3 rfl _ (hK _ _ fun _=>?_)|refine ⟨_,rfl,hK _ _ fun _=>?_⟩)) <;>
  exact ⟨_,rfl,by simpa using hZ⟩
theorem ak3 {w : World} {b c d e : Bool} {A1 : (List Value→World→Prop)→Prop} {A2 A3 : (List Value→World→Prop)→World→Prop} {Z : Value→World→Prop}
  (h1 : ∀ K : List Value→World→Prop,K [.bool c] w→A1 K) (h2 : ∀ K : List Value→World→Prop,K [.bool d] w→A2 K w) (h3 : ∀ K : List Value→World→Prop,K [.bool e] w→A3 K w)
  (hZ : Z (.bool (b||((c&&d)&&e))) w) :
  za (fun K=>gIf (.bool b) false (A1 K) (K [undef] w)) fun s153 _ w155=>
   za (fun K=>gIf (s153.getD 0 undef) true (A2 K w155) (K [undef] w155)) fun s157 _ w159=>
    za (fun K=>gIf (.bool b) false (zb (s153.getD 0 undef) (s157.getD 0 undef) (.bool false) fun t=>K [t] w159) (K [undef] w159)) fun s161 _ w163=>
     za (fun K=>gIf (s161.getD 0 undef) true (A3 K w163) (K [undef] w163)) fun s165 _ w167=>
      za (fun K=>gIf (.bool b) false (zb (s161.getD 0 undef) (s165.getD 0 undef) (.bool false) fun t=>K [t] w167) (K [undef] w167)) fun s169 _ w171=>
       zb (.bool b) (.bool true) (s169.getD 0 undef) fun t=>Z t w171:=by
 cases b<;>cases c<;>cases d<;>cases e <;>
  (iterate 5 (intro K hK;first|refine hK _ _ fun _=>?_|refine h1 _ (hK _ _ fun _=>?_)|refine h2 _ (hK _ _ fun _=>?_)|refine h3 _ (hK _ _ fun _=>?_)|refine ⟨_,rfl,hK _ _ fun _=>?_⟩)) <;>
  exact ⟨_,rfl,by simpa using hZ⟩
end Go.Sh
namespace Go.Proofs
open Go.Sh
set_option maxRecDepth 100000
set_option linter.unusedSimpArgs false
set_option linter.unusedVariables false
set_option maxHeartbeats 1000000 in
theorem ae3 {bt : Nat} {M : List Asr} {w0 : World} {r : Gh} {t : TyD} {v : Value} {f : Nat→Nat→Bool} {w : World} {K : Value→World→Prop} (hv : TyG r v t) (hx : ∀ x ∈ regsT t,0≤x∧x<8)
  (S : StX noX w0 r w (.cell bt (zJ f) 161::M))
  (h : ∀ w',StX noX w0 r w' (.cell bt (zJ (Qj f (regsT t))) 161::M)→K (.tuple #[]) w') : zd Tryz.prog Tryz.Yn #[v,.pointer (some ⟨bt,0,none⟩)] w K:=by
 refine Tryz.adG ?_
 unfold Tryz.JB
 have hv0:=hv
 obtain ⟨p1,cap1,rfl,_⟩:=hv
 refine S.box fun b2 w1 S=>?_
 have S : StX noX w0 r w1 (.cell b2 (tyL t p1 cap1) 93 :: .cell bt (zJ f) 161::M):=S
 refine S.ldB (b:=b2) ?_ rfl
 refine Xe S.holds hv0 fun v7 w7 e7 o7=>?_
 obtain ⟨s1,p7,cap7,n7,nb7,rfl,_,hc7,hs7⟩:=aey o7
 have S:=(S.new e7 n7).tl
 have hr48 : (regsT t).length≤1000:=by
  rw [regsT];split
  ·have:=Xf (by assumption);omega
  ·simp
 generalize regsT t=l at hx h hs7 hr48 ⊢
 refine zi (ι:=Nat × (Nat→Nat→Bool)) (fun i=>[.int .i64 (i.1 : Nat)]) (fun i w'=>i.1≤l.length∧(∀ x y : Nat,Qj i.2 (l.drop i.1) x y=Qj f l x y)∧StX noX w0 (r.or s1) w' (.cell bt (zJ i.2) 161::M)) (fun i=>l.length - i.1) (0,f) rfl ⟨Nat.zero_le _,fun x y=>rfl,S⟩ ?_
 clear S
 rintro ⟨i,g⟩ d w2 ⟨hi,hbit,S⟩ K3 hK3
 simp only at hi hbit S ⊢
 rw [List.getD_cons_zero]
 refine gg_ ?_
 refine zk (fun hlt=>?_) (fun hge=>?_)
 rotate_left
 ·have hie : i=l.length:=by omega
  refine h _ ?_
  have e : zJ g=zJ (Qj f l):=yA fun x y _ _=>by
   have:=hbit x y
   rw [hie,List.drop_length] at this
   rw [← this]
   show g x y=(g x y||kD x y [])
   rw [kD,Bool.or_false]
  rw [← e]
  exact S.to r
 have hlt : i<l.length:=by omega
 have hdrop : l.drop i=l[i]::l.drop (i+1):=List.drop_eq_getElem_cons hlt
 obtain ⟨ha0,ha8⟩:=hx _ (List.getElem_mem hlt)
 obtain ⟨bq,oq,rfl,hxi⟩:=ag4 hs7 (S.holds.le (h:=inferInstance)) hlt
 generalize hai : l[i]=a at hdrop ha0 ha8 hxi
 have hrl : (l.drop (i+1)).length=l.length - (i+1):=List.length_drop
 refine gg_ ?_
 refine zi (ι:=Nat) (fun j=>[.int .i64 ((i : Int)+1+(j : Nat))]) (fun j w'=>j≤(l.drop (i+1)).length∧StX noX w0 (r.or s1) w' (.cell bt (zJ (ZL g a ((l.drop (i+1)).take j))) 161::M)) (fun j=>(l.drop (i+1)).length - j) 0 (by simp) ⟨Nat.zero_le _,by
  rw [yA (f:=ZL g a ((l.drop (i+1)).take 0)) (g:=g) (fun x y _ _=>by simp [ZL])]
  exact S⟩ ?_
 clear S
 rintro j d w3 ⟨hj,S⟩ K7 hK7
 rw [List.getD_cons_zero]
 refine gg_ ?_
 refine zk (fun hlt2=>?_) (fun hge2=>?_)
 ·have hlt2 : j<(l.drop (i+1)).length:=by omega
  have hlt3 : i+1+j<l.length:=by omega
  have hel : (l.drop (i+1))[j]=l[i+1+j]:=List.getElem_drop
  obtain ⟨bk,ok,hbe,hxk⟩:=ag4 hs7 (S.holds.le (h:=inferInstance)) hlt3
  cases hbe
  obtain ⟨hi0,hi8⟩:=hx _ (List.getElem_mem hlt3)
  have S:=S.go (Ext.drew _)
  rw [show ((i : Int)+1+(j : Nat))=((i+1+j : Nat) : Int) by omega]
  refine gg_ ?_
  refine zg (by rw [Int.toNat_natCast];exact S.at hxk) ?_
  refine gg_ ?_
  refine zg (by simpa using S.at hxi) ?_
  refine gg_ ?_
  refine S.st (b:=bt) (fun w4 S=>?_) (by rw [jz];omega)
  refine gg_ ?_
  rw [show (((i+1+j : Nat) : Int)+1)=((i : Int)+1+((j+1 : Nat) : Int)) by omega]
  refine hK7 (j+1) _ ⟨hlt2,?_⟩ (by omega)
  rw [show 0+l[i+1+j].toNat*8+a.toNat*1=l[i+1+j].toNat*8+a.toNat by omega,Qh (by omega) (by omega)] at S
  rw [yA (f:=ZL g a ((l.drop (i+1)).take (j+1))) (g:=fun x y=>ZL g a ((l.drop (i+1)).take j) x y||(decide (x=l[i+1+j].toNat)&&decide (y=a.toNat))) (fun x y _ _=>by
   show (g x y||(decide (a=(y : Int))&&((l.drop (i+1)).take (j+1)).contains (x : Int)))=((g x y||(decide (a=(y : Int))&&((l.drop (i+1)).take j).contains (x : Int)))||(decide (x=l[i+1+j].toNat)&&decide (y=a.toNat)))
   rw [aeO hlt2,hel,show decide ((x : Int)=l[i+1+j])=decide (x=l[i+1+j].toNat) from decide_eq_decide.2 (by omega),show decide (a=(y : Int))=decide (y=a.toNat) from decide_eq_decide.2 (by omega)]
   cases g x y<;>cases decide (y=a.toNat)<;>cases ((l.drop (i+1)).take j).contains (x : Int)<;>cases decide (x=l[i+1+j].toNat)<;>rfl)]
  exact S
 ·have hje : j=(l.drop (i+1)).length:=by omega
  rw [hje,List.take_length] at S
  refine gg_ ?_
  rw [show ((i : Int)+1)=((i+1 : Nat) : Int) by omega]
  refine hK3 (i+1,ZL g a (l.drop (i+1))) _ ⟨hlt,fun x y=>?_,S⟩ (by simp only;omega)
  rw [← hbit x y,hdrop]
  show ((g x y||(decide (a=(y : Int))&&(l.drop (i+1)).contains (x : Int)))||kD x y (l.drop (i+1)))=(g x y||kD x y (a::l.drop (i+1)))
  rw [acY,Bool.or_assoc]
end Go.Proofs
end
section
namespace Go.Proofs
open Go.Sh
set_option maxRecDepth 100000
set_option linter.unusedSimpArgs false
set_option linter.unusedVariables false
set_option maxHeartbeats 8000000 in
theorem ae4 {u : UnD} {i : Nat} {v : Value} {w : World} {r : Gh} {K : Value→World→Prop} (hi : i<u.fs.length) (hok : (zw u.ss).2=0) (hr : Holds r w) (hu : UnG r v u)
  (h : ∀ w',Ext w w'→K (.bool (yT u i u.fs[i])) w') : zd Tryz.prog Tryz.Ym #[v,.int .i64 (i : Nat)] w K:=by
 obtain ⟨p0,cap0,vf,rfl,_,_,hst,hsl,hfn⟩:=hu
 obtain ⟨qf,capf,rfl,_,_⟩:=hfn.sl.shape
 obtain ⟨bf,of,cf,rfl,hcf,hgc,hfo⟩:=hfn.sl.get (by decide) hi
 have hfl : u.fs.length≤9223372036854775807:=hfn.few
 refine Tryz.adF ?_
 unfold Tryz.JA
 generalize hgi : u.fs[i]=g at h hgc
 obtain ⟨vo,vt,vn,vp,rfl,h1,h2,h3,h4⟩:=id hgc
 obtain ⟨qo,capo,rfl,_,_⟩:=h1.sl.shape
 obtain ⟨qt,capt,rfl,_,hct⟩:=h2.sl.shape
 obtain ⟨qn,capn,rfl,_,_⟩:=h3.sl.shape
 obtain ⟨qp,capp,rfl,_,_⟩:=h4.sl.shape
 have hptl : g.pts.length≤9223372036854775807:=h4.few
 have htl : g.tys.length≤9223372036854775807:=h2.few
 have hol : g.outs.length≤9223372036854775807:=h1.few
 have S:=St.start hr
 refine S.box fun b2 w1 S=>?_
 have S : StX noX w r w1 [.cell b2 [.slice p0 u.ss.length cap0,.slice (some ⟨bf,of,none⟩) u.fs.length capf,.int .i64 u.mn] 25]:=S
 refine gg_ ?_
 refine zq (n:=7) hcf (fun j v hj=>by rw [Int.toNat_natCast];exact S.at (hfo j v hj)) ?_
 refine S.al fun b5 w2 S=>?_
 refine S.stB (b:=b5) fun w3 S=>?_
 have S : StX noX w r w3 [.cell b5 [.string g.name,.int .i64 g.lv,.slice qo g.outs.length capo,.int .i64 g.pn,.slice qt g.tys.length capt,.slice qn g.nms.length capn,.slice qp g.pts.length capp] 43,
  .cell b2 [.slice p0 u.ss.length cap0,.slice (some ⟨bf,of,none⟩) u.fs.length capf,.int .i64 u.mn] 25]:=S
 refine gg_ ?_
 have no : (HeadU u i g→False)→yT u i g=false:=fun hh=>by
  cases e : yT u i g
  ·rfl
  ·exact (hh (abr e)).elim
 refine zj (c:=decide (8<g.lv)) (fun _ K2 hK2=>by refine gg_ ?_;exact hK2) ?_
 refine zj (c:=decide (g.pn<0)) (fun _ K2 hK2=>by refine gg_ ?_;exact hK2) ?_
 refine zj (c:=decide (8<g.pn)) (fun _ K2 hK2=>by refine gg_ ?_;exact hK2) ?_
 refine zj (c:=decide ((g.tys.length : Int)≤g.pn)) (fun _ K2 hK2=>by refine gg_ ?_;exact hK2) ?_
 refine zj (c:=decide (512<g.tys.length)) (fun _ K2 hK2=>?_) ?_
 ·refine gg_ ?_
  rw [show decide ((512 : Int)<(g.tys.length : Int))=decide (512<g.tys.length) from decide_eq_decide.2 (by omega)]
  exact hK2
 refine zj (c:=decide (g.nms.length≠g.tys.length)) (fun _ K2 hK2=>?_) ?_
 ·refine gg_ ?_
  rw [abs]
  exact hK2
 refine c_b (fun hbad=>?_) (fun hgood=>?_)
 ·rw [no fun H=>by
   have:=H.lv0;have:=H.lv8;have:=H.pn0;have:=H.pn8;have:=H.pn1;have:=H.ty512;have:=H.nms
   simp only [Bool.or_eq_true,decide_eq_true_eq] at hbad;omega] at h
  exact h _ S.ext
 have hnum : (0≤g.lv∧g.lv≤8∧0≤g.pn∧g.pn≤8)∧g.pn<g.tys.length∧g.tys.length≤512∧g.nms.length=g.tys.length:=by
  simp only [Bool.or_eq_false_iff,decide_eq_false_iff_not] at hgood;omega
 clear hgood
 obtain ⟨⟨hlv0,hlv8,hpn0,hpn8⟩,hpn1,hty,hnm⟩:=hnum
 refine zi (ι:=Nat) (fun i=>[.int .i64 (i : Nat)]) (fun j w'=>j≤g.tys.length∧qY u g j (g.tys.drop j)=qY u g 0 g.tys∧StX noX w r w' [.cell b5 [.string g.name,.int .i64 g.lv,.slice qo g.outs.length capo,.int .i64 g.pn,.slice qt g.tys.length capt,.slice qn g.nms.length capn,.slice qp g.pts.length capp] 43,
  .cell b2 [.slice p0 u.ss.length cap0,.slice (some ⟨bf,of,none⟩) u.fs.length capf,.int .i64 u.mn] 25]) (fun i=>g.tys.length - i) 0 rfl ⟨Nat.zero_le _,rfl,S⟩ ?_
 clear S
 rintro j d w5 ⟨hj,hd,S⟩ K6 hK6
 rw [List.getD_cons_zero]
 refine gg_ ?_
 refine zk (fun hlt=>?_) (fun hge=>?_)
 ·have hlt : j<g.tys.length:=by omega
  obtain ⟨bt,ot,ct,rfl,hct,htc,hcell⟩:=h2.sl.get (by decide) hlt
  obtain ⟨q2,cap2,rfl,ht2⟩:=yU htc
  rw [ac4 hlt] at hd
  have S:=S.go (Ext.drew _)
  refine gg_ ?_
  refine zq (n:=5) hct (fun j v hj=>by rw [Int.toNat_natCast];exact S.at (hcell j v hj)) ?_
  refine gg_ ?_
  refine j5 48 (by decide) S.holds ht2 fun w8 e8=>?_
  have S:=S.go e8
  rw [aeX]
  refine gp_ ?_
  have hmay : mayB u.ss g.tys[j]=zz u.ss.length 48 g.tys[j]:=by rw [mayB,decide_eq_true hok,Bool.true_and]
  rw [← hmay]
  refine c_b (fun hm=>?_) (fun hm=>?_)
  ·have hm : mayB u.ss g.tys[j]=false:=by simpa using hm
   rw [no fun H=>by
    have:=H.tys
    rw [← hd,tyG,hm,Bool.false_and,Bool.false_and] at this;cases this] at h
   exact h _ S.ext
  have hm : mayB u.ss g.tys[j]=true:=by simpa using hm
  refine gg_ ?_
  refine zq (n:=5) hct (fun j v hj=>by rw [Int.toNat_natCast];exact S.at (hcell j v hj)) ?_
  refine Xe S.holds ht2 fun v7 w12 e12 o12=>?_
  obtain ⟨s7,p7,cap7,n7,nb7,rfl,_,_,hs7⟩:=aey o12
  have S:=S.new e12 n7
  have hlow : ∀ x ∈ regsT g.tys[j],-1≤x:=fun x hx=>by
   rw [regsT] at hx
   split at hx
   ·exact aiU 48 (Yz hm).2 x hx
   ·cases hx
  have hr48 : (regsT g.tys[j]).length≤1000:=by
   rw [regsT];split
   ·have:=Xf (by assumption);omega
   ·simp
  have hty2 : tyG u g j g.tys[j] = !((regsT g.tys[j]).any fun x=>decide (g.lv≤x)||(decide ((j : Int)≤g.pn)&&decide (x<0))):=by
   rw [agk,hm,Bool.true_and]
   congr 1
   rw [Bool.eq_iff_iff,List.any_eq_true,List.any_eq_true]
   constructor<;>rintro ⟨x,hx,hc⟩<;>refine ⟨x,hx,?_⟩<;>have:=hlow x hx<;>simp only [Bool.or_eq_true,Bool.and_eq_true,decide_eq_true_eq] at hc ⊢
   ·rcases hc with hc|hc
    ·split at hc
     ·exact .inr ⟨by assumption,hc⟩
     ·omega
    ·exact .inl hc
   ·rcases hc with hc|⟨hc,hc2⟩
    ·exact .inr hc
    ·rw [if_pos hc];exact .inl hc2
  generalize regsT g.tys[j]=l at hs7 hr48 hty2 ⊢
  refine zi (ι:=Nat) (fun k=>[.int .i64 (k : Nat)]) (fun k w'=>k≤l.length∧((l.take k).any fun x=>decide (g.lv≤x)||(decide ((j : Int)≤g.pn)&&decide (x<0)))=false∧StX noX w (r.or s7) w' [.cell b5 [.string g.name,.int .i64 g.lv,.slice qo g.outs.length capo,.int .i64 g.pn,.slice (some ⟨bt,ot,none⟩) g.tys.length capt,.slice qn g.nms.length capn,.slice qp g.pts.length capp] 43,
   .cell b2 [.slice p0 u.ss.length cap0,.slice (some ⟨bf,of,none⟩) u.fs.length capf,.int .i64 u.mn] 25]) (fun k=>l.length - k) 0 rfl ⟨Nat.zero_le _,by simp,S⟩ ?_
  clear S
  rintro k d w13 ⟨hk,hany,S⟩ K7 hK7
  rw [List.getD_cons_zero]
  refine gg_ ?_
  refine zk (fun hlt2=>?_) (fun hge2=>?_)
  ·have hlt2 : k<l.length:=by omega
   obtain ⟨bk,ok,rfl,hxk⟩:=ag4 hs7 (S.holds.le (h:=inferInstance)) hlt2
   have S:=S.go (Ext.drew _)
   refine gg_ ?_
   refine zg (by simpa using S.at hxk) ?_
   refine gg_ ?_
   refine vT (g:=decide ((j : Int)≤g.pn)) (c:=decide (l[k]<0)) (fun _ K2 hK2=>by refine gg_ ?_;exact hK2) (fun _ K2 hK2=>?_) ?_
   ·refine gg_ ?_
    refine zg (by simpa using S.at hxk) ?_
    refine gg_ ?_
    exact hK2
   refine c_b (fun hbad=>?_) (fun hgood=>?_)
   ·have hA : (l.any fun x=>decide (g.lv≤x)||(decide ((j : Int)≤g.pn)&&decide (x<0)))=true:=List.any_eq_true.2 ⟨_,List.getElem_mem hlt2,hbad⟩
    rw [hty2,hA,Bool.not_true,Bool.false_and] at hd
    rw [no fun H=>by have:=H.tys;rw [← hd] at this;cases this] at h
    exact h _ S.ext
   ·refine gg_ ?_
    rw [show ((k : Int)+1)=((k+1 : Nat) : Int) by omega]
    refine hK7 (k+1) _ ⟨hlt2,?_,S⟩ (by omega)
    rw [List.take_succ_eq_append_getElem hlt2,List.any_append,hany]
    simp only [List.any_cons,List.any_nil,Bool.false_or,Bool.or_false]
    exact hgood
  ·have hke : k=l.length:=by omega
   rw [hke,List.take_length] at hany
   rw [hty2,hany,Bool.not_false,Bool.true_and] at hd
   refine gg_ ?_
   rw [show ((j : Int)+1)=((j+1 : Nat) : Int) by omega]
   exact hK6 (j+1) _ ⟨hlt,hd,S.to r⟩ (by omega)
 have hje : j=g.tys.length:=by omega
 rw [hje,List.drop_length] at hd
 have htys : qY u g 0 g.tys=true:=hd.symm
 clear hd hK6 K6 hge hj hje
 refine S.al fun b9 w20 S=>?_
 refine S.al fun b10 w21 S=>?_
 have S : StX noX w r w21 [.cell b9 (zJ fun _ _=>false) 161,.cell b10 (zJ fun _ _=>false) 161,.cell b5 [.string g.name,.int .i64 g.lv,.slice qo g.outs.length capo,.int .i64 g.pn,.slice qt g.tys.length capt,.slice qn g.nms.length capn,.slice qp g.pts.length capp] 43,
  .cell b2 [.slice p0 u.ss.length cap0,.slice (some ⟨bf,of,none⟩) u.fs.length capf,.int .i64 u.mn] 25]:=S.swap
 refine zi (ι:=Nat) (fun i=>[.int .i64 (i : Nat)]) (fun j w'=>j≤g.pn.toNat+1∧StX noX w r w' [.cell b9 (zJ (muF (g.tys.take j))) 161,.cell b10 (zJ fun _ _=>false) 161,.cell b5 [.string g.name,.int .i64 g.lv,.slice qo g.outs.length capo,.int .i64 g.pn,.slice qt g.tys.length capt,.slice qn g.nms.length capn,.slice qp g.pts.length capp] 43,
  .cell b2 [.slice p0 u.ss.length cap0,.slice (some ⟨bf,of,none⟩) u.fs.length capf,.int .i64 u.mn] 25]) (fun i=>g.pn.toNat+1 - i) 0 rfl ⟨Nat.zero_le _,by
   rw [yA (f:=muF (g.tys.take 0)) (g:=fun _ _=>false) (fun x y _ _=>by simp [muF,js])]
   exact S⟩ ?_
 clear S
 rintro j d w22 ⟨hj,S⟩ K6 hK6
 rw [List.getD_cons_zero]
 refine gg_ ?_
 refine zk (fun hlt=>?_) (fun hge=>?_)
 ·have hlt : j<g.tys.length:=by omega
  obtain ⟨bt,ot,ct,rfl,hct,htc,hcell⟩:=h2.sl.get (by decide) hlt
  obtain ⟨q2,cap2,rfl,ht2⟩:=yU htc
  refine gg_ ?_
  refine zq (n:=5) hct (fun j v hj=>by rw [Int.toNat_natCast];exact S.at (hcell j v hj)) ?_
  have hreg : ∀ x ∈ regsT g.tys[j],0≤x∧x<8:=fun x hx=>by
   have:=aay htys (j:=j) hlt (by omega) x hx
   omega
  refine ae3 ht2 hreg S fun w23 S=>?_
  refine gg_ ?_
  rw [show ((j : Int)+1)=((j+1 : Nat) : Int) by omega]
  refine hK6 (j+1) _ ⟨by omega,?_⟩ (by omega)
  rw [yA (f:=muF (g.tys.take (j+1))) (g:=Qj (muF (g.tys.take j)) (regsT g.tys[j])) (fun x y _ _=>acZ hlt)]
  exact S
 have hje : j=g.pn.toNat+1:=by omega
 rw [hje] at S
 clear hK6 K6 hge hj hje
 have hout : qN g=true↔kU g.lv none g.outs=true∧(List.range g.lv.toNat).all (clF g.lv.toNat (muF (g.tys.take (g.pn.toNat+1))) (syF g.outs))=true:=by
  rw [qN,← ac2,agj,Bool.and_eq_true]
 have nout : qN g=false→yT u i g=false:=fun e=>no fun H=>by have:=H.outs;rw [e] at this;cases this
 generalize hmu : muF (g.tys.take (g.pn.toNat+1))=mu at hout S
 refine zi (ι:=Nat) (fun i=>[.int .i64 (i : Nat)]) (fun i w'=>i≤g.outs.length∧kU g.lv (qe g.outs i) (g.outs.drop i)=kU g.lv none g.outs∧
  StX noX w r w' [.cell b9 (zJ mu) 161,.cell b10 (zJ (syF (g.outs.take i))) 161,.cell b5 [.string g.name,.int .i64 g.lv,.slice qo g.outs.length capo,.int .i64 g.pn,.slice qt g.tys.length capt,.slice qn g.nms.length capn,.slice qp g.pts.length capp] 43,
  .cell b2 [.slice p0 u.ss.length cap0,.slice (some ⟨bf,of,none⟩) u.fs.length capf,.int .i64 u.mn] 25]) (fun i=>g.outs.length - i) 0 rfl
  ⟨Nat.zero_le _,rfl,by
   rw [yA (f:=syF (g.outs.take 0)) (g:=fun _ _=>false) (fun x y _ _=>by simp [syF,qM])]
   exact S⟩ ?_
 clear S
 rintro k d w24 ⟨hk,hd,S⟩ K6 hK6
 rw [List.getD_cons_zero]
 refine gg_ ?_
 refine zk (fun hlt=>?_) (fun hge=>?_)
 ·have hlt : k<g.outs.length:=by omega
  obtain ⟨bo,oo,co,rfl,hco,hoo,hoc⟩:=h1.sl.get (by decide) hlt
  obtain rfl : co=_:=hoo
  rw [aeQ hlt] at hd
  have hgo:=fun (j : Nat) (hj : j<g.outs.length)=>h1.sl.get (by decide) hj
  obtain ⟨⟨o1,o2⟩,ho⟩ : ∃ o,g.outs[k]=o:=⟨_,rfl⟩
  rw [ho] at hd
  have hst : syF (g.outs.take (k+1))=fun x y=>syF (g.outs.take k) x y||(decide ((x : Int)=o1)&&decide ((y : Int)=o2)):=by
   funext x y
   show qM _ _ _=(qM _ _ _||_)
   rw [ac0 hlt,ho]
  have hno : kU g.lv none g.outs=false→∀ w',Ext w w'→K (.bool false) w':=fun e w' ew=>by
   have:=h w' ew
   rw [nout (by
    cases ho : qN g with
    |false=>rfl
    |true=>rw [(hout.1 ho).1] at e;cases e)] at this
   exact this
  refine gg_ ?_
  refine zq (n:=2) hco (fun j v hj=>by rw [Int.toNat_natCast];exact S.at (hoc j v hj)) ?_
  rw [ho]
  refine S.al fun b13 w25 S=>?_
  refine S.stB (b:=b13) fun w26 S=>?_
  refine gg_ ?_
  refine zj (c:=decide (g.lv≤o1)) (fun _ K2 hK2=>by refine gg_ ?_;exact hK2) ?_
  refine zj (c:=decide (o2<0)) (fun _ K2 hK2=>by refine gg_ ?_;exact hK2) ?_
  refine zj (c:=decide (g.lv≤o2)) (fun _ K2 hK2=>by refine gg_ ?_;exact hK2) ?_
  refine zj (c:=decide (o1=o2)) (fun _ K2 hK2=>by refine gg_ ?_;exact hK2) ?_
  have hio : kc g.lv (o1,o2) = !((((decide (o1<0)||decide (g.lv≤o1))||decide (o2<0))||decide (g.lv≤o2))||decide (o1=o2)):=by
   rw [kc]
   congr 1
   rw [Bool.eq_iff_iff]
   simp only [Bool.or_eq_true,decide_eq_true_eq]
   omega
  refine c_b (fun hbad=>?_) (fun hgood=>?_)
  ·rw [hio,hbad,Bool.not_true,Bool.false_and,Bool.false_and] at hd
   exact hno hd.symm _ S.ext
  rw [hio,hgood,Bool.not_false,Bool.true_and] at hd
  have hrg : (0≤o1∧o1<8)∧(0≤o2∧o2<8):=by
   simp only [Bool.or_eq_false_iff,decide_eq_false_iff_not] at hgood;omega
  clear hgood hio
  obtain ⟨⟨ho10,ho18⟩,ho20,ho28⟩:=hrg
  have S:=S.go (Ext.drew _)
  obtain ⟨⟨p1,p2⟩,hp⟩ : ∃ o,(g.outs[k - 1]?).getD (0,0)=o:=⟨_,rfl⟩
  have hpv : 0<k→∃ (hl : k - 1<g.outs.length),g.outs[k - 1]=(p1,p2):=fun hpos=>by
   have hl : k - 1<g.outs.length:=by omega
   rw [List.getElem?_eq_getElem hl] at hp
   exact ⟨hl,hp⟩
  have hprev : 0<k→∀ j v,[Value.int .i64 p1,.int .i64 p2][j]? = some v→Ob r fun w=>w.cell? ⟨bo,oo+(k - 1)*2+j,none⟩=some v:=fun hpos j v hj=>by
   obtain ⟨hl,he⟩:=hpv hpos
   obtain ⟨bo2,oo2,co2,hbe,hco2,hoo2,hoc2⟩:=h1.sl.get (by decide) hl
   obtain rfl : co2=_:=hoo2
   cases hbe
   rw [he] at hoc2
   exact hoc2 j v hj
  refine gg_ ?_
  refine ai8 (x:=decide (o1<p1)) (y:=decide (p1=o1)) (z:=decide (o2≤p2)) (fun hb K2 hK2=>?_) (fun hb K2 hK2=>?_) (fun hb K2 hK2=>?_) ?_
  ·have hpos : 0<k:=by simp only [decide_eq_true_eq] at hb;omega
   refine gg_ ?_
   refine zg (v:=.int .i64 p1) (by rw [show ((k : Int) - 1).toNat=k - 1 by omega];simpa using S.at (hprev hpos 0 _ rfl)) ?_
   refine gg_ ?_
   exact hK2
  ·have hpos : 0<k:=by simp only [decide_eq_true_eq] at hb;omega
   refine gg_ ?_
   refine zg (v:=.int .i64 p1) (by rw [show ((k : Int) - 1).toNat=k - 1 by omega];simpa using S.at (hprev hpos 0 _ rfl)) ?_
   refine gg_ ?_
   exact hK2
  ·have hpos : 0<k:=by simp only [decide_eq_true_eq] at hb;omega
   refine gg_ ?_
   refine zg (v:=.int .i64 p2) (by rw [show ((k : Int) - 1).toNat=k - 1 by omega];exact S.at (hprev hpos 1 _ rfl)) ?_
   refine gg_ ?_
   exact hK2
  rw [not_lt (o:=(o1,o2)) (w:=(p1,p2))]
  have haft : ag2 (qe g.outs k) (o1,o2) = !(decide ((k : Int) > 0) && !j2 (p1,p2) (o1,o2)):=by
   by_cases hpos : 0<k
   ·obtain ⟨hl,he⟩:=hpv hpos
    rw [qe,if_neg (by omega),List.getElem?_eq_getElem hl,he,decide_eq_true (show (k : Int) > 0 by omega),Bool.true_and,Bool.not_not];rfl
   ·rw [qe,if_pos (by omega),decide_eq_false (show ¬ (k : Int) > 0 by omega)];rfl
  refine c_b (fun hb=>?_) (fun hb=>?_)
  ·rw [haft,hb,Bool.not_true,Bool.false_and] at hd
   exact hno hd.symm _ S.ext
  rw [haft,hb,Bool.not_false,Bool.true_and] at hd
  have S:=S.go (Ext.drew _)
  refine gg_ ?_
  refine S.st (b:=b10) (fun w27 S=>?_) (by rw [jz];omega)
  refine gg_ ?_
  rw [show ((k : Int)+1)=((k+1 : Nat) : Int) by omega]
  refine hK6 (k+1) _ ⟨hlt,hd,?_⟩ (by omega)
  rw [show 0+o1.toNat*8+o2.toNat*1=o1.toNat*8+o2.toNat by omega,Qh (by omega) (by omega)] at S
  rw [hst,yA (f:=fun x y=>syF (g.outs.take k) x y||(decide ((x : Int)=o1)&&decide ((y : Int)=o2))) (g:=fun x y=>syF (g.outs.take k) x y||(decide (x=o1.toNat)&&decide (y=o2.toNat))) (fun x y _ _=>by
   show (syF (g.outs.take k) x y||(decide ((x : Int)=o1)&&decide ((y : Int)=o2)))=(syF (g.outs.take k) x y||(decide (x=o1.toNat)&&decide (y=o2.toNat)))
   rw [show decide ((x : Int)=o1)=decide (x=o1.toNat) from decide_eq_decide.2 (by omega),show decide ((y : Int)=o2)=decide (y=o2.toNat) from decide_eq_decide.2 (by omega)])]
  exact S.drop b13
 have hke : k=g.outs.length:=by omega
 rw [hke,List.take_length] at S
 rw [hke,List.drop_length] at hd
 have hoR : kU g.lv none g.outs=true:=by rw [← hd];rfl
 clear hd hK6 K6 hge hk hke
 generalize hsy : syF g.outs=sy at hout S
 obtain ⟨n,hn⟩ : ∃ n : Nat,g.lv.toNat=n:=⟨_,rfl⟩
 have hn8 : n≤8:=by omega
 have hlvn : g.lv=(n : Int):=by omega
 rw [hn] at hout
 have hno : (List.range n).all (clF n mu sy)=false→∀ w',Ext w w'→K (.bool false) w':=fun e w' ew=>by
  have:=h w' ew
  rw [nout (by
   cases ho : qN g with
   |false=>rfl
   |true=>rw [(hout.1 ho).2] at e;cases e)] at this
  exact this
 refine zi (ι:=Nat) (fun i=>[.int .i64 (i : Nat)]) (fun i w'=>i≤n∧((List.range n).drop i).all (clF n mu sy)=(List.range n).all (clF n mu sy)∧
  StX noX w r w' [.cell b9 (zJ mu) 161,.cell b10 (zJ sy) 161,.cell b5 [.string g.name,.int .i64 g.lv,.slice qo g.outs.length capo,.int .i64 g.pn,.slice qt g.tys.length capt,.slice qn g.nms.length capn,.slice qp g.pts.length capp] 43,
  .cell b2 [.slice p0 u.ss.length cap0,.slice (some ⟨bf,of,none⟩) u.fs.length capf,.int .i64 u.mn] 25]) (fun i=>n - i) 0 rfl ⟨Nat.zero_le _,rfl,S⟩ ?_
 clear S
 rintro a d2 w30 ⟨ha,hda,S⟩ K7 hK7
 rw [List.getD_cons_zero]
 refine gg_ ?_
 rw [hlvn]
 refine zk (fun hlta=>?_) (fun hgea=>?_)
 ·have hlta : a<n:=by omega
  rw [jM hlta] at hda
  refine zi (ι:=Nat) (fun i=>[.int .i64 (i : Nat)]) (fun i w'=>i≤n∧((List.range n).drop i).all (clG n mu sy a)=(List.range n).all (clG n mu sy a)∧
   StX noX w r w' [.cell b9 (zJ mu) 161,.cell b10 (zJ sy) 161,.cell b5 [.string g.name,.int .i64 g.lv,.slice qo g.outs.length capo,.int .i64 g.pn,.slice qt g.tys.length capt,.slice qn g.nms.length capn,.slice qp g.pts.length capp] 43,
   .cell b2 [.slice p0 u.ss.length cap0,.slice (some ⟨bf,of,none⟩) u.fs.length capf,.int .i64 u.mn] 25]) (fun i=>n - i) 0 rfl ⟨Nat.zero_le _,rfl,S⟩ ?_
  clear S
  rintro b d3 w31 ⟨hb,hdb,S⟩ K8 hK8
  rw [List.getD_cons_zero]
  refine gg_ ?_
  rw [hlvn]
  refine zk (fun hltb=>?_) (fun hgeb=>?_)
  rotate_left
  ·have hbe : b=n:=by omega
   rw [hbe,jN] at hdb
   have hF : clF n mu sy a=true:=hdb.symm
   rw [hF,Bool.true_and] at hda
   refine gg_ ?_
   rw [show ((a : Int)+1)=((a+1 : Nat) : Int) by omega]
   exact hK7 (a+1) _ ⟨hlta,hda,S⟩ (by omega)
  have hltb : b<n:=by omega
  rw [jM hltb] at hdb
  have hfalse : clG n mu sy a b=false→(List.range n).all (clF n mu sy)=false:=fun e=>by
   rw [e,Bool.false_and] at hdb
   have hF : clF n mu sy a=false:=hdb.symm
   rw [hF,Bool.false_and] at hda
   exact hda.symm
  refine gg_ ?_
  refine zf (c:=mu a b) (fun _ K2 hK2=>?_) ?_
  ·refine gg_ ?_
   refine S.ld (b:=b9) ?_ (jf (f:=mu) (by omega) (by omega))
   exact hK2
  refine zf (c:=!sy a b) (fun _ K2 hK2=>?_) ?_
  ·refine gg_ ?_
   refine S.ld (b:=b10) ?_ (jf (f:=sy) (by omega) (by omega))
   refine gg_ ?_
   exact hK2
  have hG : clG n mu sy a b=((List.range n).all (clH sy a b) && !((decide ((a : Int)≠(b : Int))&&mu a b) && !sy a b)):=by
   rw [clG,Bool.and_assoc,show decide ((a : Int)≠(b : Int)) = !decide (a=b) from by rw [← decide_not];exact decide_eq_decide.2 (by omega)]
  refine c_b (fun hbad=>?_) (fun hgood=>?_)
  ·exact hno (hfalse (by rw [hG,hbad,Bool.not_true,Bool.and_false])) _ S.ext
  rw [hgood,Bool.not_false,Bool.and_true] at hG
  refine zi (ι:=Nat) (fun i=>[.int .i64 (i : Nat)]) (fun i w'=>i≤n∧((List.range n).drop i).all (clH sy a b)=(List.range n).all (clH sy a b)∧
   StX noX w r w' [.cell b9 (zJ mu) 161,.cell b10 (zJ sy) 161,.cell b5 [.string g.name,.int .i64 g.lv,.slice qo g.outs.length capo,.int .i64 g.pn,.slice qt g.tys.length capt,.slice qn g.nms.length capn,.slice qp g.pts.length capp] 43,
   .cell b2 [.slice p0 u.ss.length cap0,.slice (some ⟨bf,of,none⟩) u.fs.length capf,.int .i64 u.mn] 25]) (fun i=>n - i) 0 rfl ⟨Nat.zero_le _,rfl,S⟩ ?_
  clear S
  rintro cc d4 w32 ⟨hc,hdc,S⟩ K9 hK9
  rw [List.getD_cons_zero]
  refine gg_ ?_
  rw [hlvn]
  refine zk (fun hltc=>?_) (fun hgec=>?_)
  ·have hltc : cc<n:=by omega
   rw [jM hltc] at hdc
   refine gg_ ?_
   refine zf (c:=sy a b) (fun _ K2 hK2=>?_) ?_
   ·refine gg_ ?_
    refine S.ld (b:=b10) ?_ (jf (f:=sy) (by omega) (by omega))
    exact hK2
   refine zf (c:=sy b cc) (fun _ K2 hK2=>?_) ?_
   ·refine gg_ ?_
    refine S.ld (b:=b10) ?_ (jf (f:=sy) (by omega) (by omega))
    exact hK2
   refine zf (c:=!sy a cc) (fun _ K2 hK2=>?_) ?_
   ·refine gg_ ?_
    refine S.ld (b:=b10) ?_ (jf (f:=sy) (by omega) (by omega))
    refine gg_ ?_
    exact hK2
   have hH : clH sy a b cc = !(((decide ((a : Int)≠(cc : Int))&&sy a b)&&sy b cc) && !sy a cc):=by
    rw [clH,show decide ((a : Int)≠(cc : Int)) = !decide (a=cc) from by rw [← decide_not];exact decide_eq_decide.2 (by omega)]
    congr 1
    ac_rfl
   refine c_b (fun hbad=>?_) (fun hgood2=>?_)
   ·rw [hH,hbad,Bool.not_true,Bool.false_and] at hdc
    exact hno (hfalse (by rw [hG,← hdc])) _ S.ext
   ·rw [hH,hgood2,Bool.not_false,Bool.true_and] at hdc
    refine gg_ ?_
    rw [show ((cc : Int)+1)=((cc+1 : Nat) : Int) by omega]
    exact hK9 (cc+1) _ ⟨hltc,hdc,S⟩ (by omega)
  have hce : cc=n:=by omega
  rw [hce,jN] at hdc
  rw [hG,← hdc,Bool.true_and] at hdb
  refine gg_ ?_
  rw [show ((b : Int)+1)=((b+1 : Nat) : Int) by omega]
  exact hK8 (b+1) _ ⟨hltb,hdb,S⟩ (by omega)
 have hae : a=n:=by omega
 rw [hae,jN] at hda
 have hog : qN g=true:=hout.2 ⟨hoR,hda.symm⟩
 clear hda hK7 K7 hgea hae ha hno nout
 refine zi (ι:=Nat) (fun i=>[.int .i64 (yo (g.pts.take i) : Nat),.int .i64 (i : Nat)]) (fun i w'=>i≤g.pts.length∧i≤1025∧StX noX w r w' [.cell b9 (zJ mu) 161,.cell b10 (zJ sy) 161,.cell b5 [.string g.name,.int .i64 g.lv,.slice qo g.outs.length capo,.int .i64 g.pn,.slice qt g.tys.length capt,.slice qn g.nms.length capn,.slice qp g.pts.length capp] 43,
  .cell b2 [.slice p0 u.ss.length cap0,.slice (some ⟨bf,of,none⟩) u.fs.length capf,.int .i64 u.mn] 25]) (fun i=>g.pts.length - i) 0 rfl ⟨Nat.zero_le _,Nat.zero_le _,S⟩ ?_
 clear S
 rintro k d5 w33 ⟨hk,hk2,S⟩ K5 hK5
 simp only [List.getD_cons_zero,List.getD_cons_succ]
 have hlk : yo (g.pts.take k)≤k:=by
  have:=List.countP_le_length (p:=fun p : PtD=>decide (p.op=4)) (l:=g.pts.take k)
  rw [List.length_take] at this
  show List.countP _ _≤k
  omega
 refine gg_ ?_
 refine zf (c:=decide (k≤1024)) (fun _ K2 hK2=>?_) ?_
 ·refine gg_ ?_
  rw [show decide ((k : Int)≤1024)=decide (k≤1024) from decide_eq_decide.2 (by omega)]
  exact hK2
 refine c_b (fun hgo=>?_) (fun hstop=>?_)
 ·simp only [Bool.and_eq_true,decide_eq_true_eq] at hgo
  have hlt : k<g.pts.length:=by omega
  have hlt':=Qi hlt
  obtain ⟨bp,op,cp,rfl,hcp,hpc,hpo⟩:=h4.sl.get (by decide) hlt
  obtain ⟨x1,x2,x3,x4,x5,y1,y2,y3,y4,y5,rfl,_⟩:=xf hpc
  have lop : Ob r fun w=>w.cell? ⟨bp,op+k*21,none⟩=some (.int .u8 g.pts[k].op):=by simpa using hpo 0 _ rfl
  refine zp (fun s w'=>s = [.int .i64 (yo (g.pts.take (k+1)) : Nat)]∧w'=w33) (fun K9 hK9=>?_) ?_
  rotate_left
  ·rintro _ _ ⟨rfl,rfl⟩ d6
   rw [List.getD_cons_zero]
   refine gg_ ?_
   rw [show ((k : Int)+1)=((k+1 : Nat) : Int) by omega]
   exact hK5 (k+1) _ ⟨hlt,by omega,S⟩ (by omega)
  refine gg_ ?_
  refine zg (by simpa using S.at lop) ?_
  refine gg_ ?_
  refine zk (fun h4'=>?_) (fun h4'=>?_)
  ·refine gg_ ?_
   refine hK9 _ _ ⟨?_,rfl⟩
   rw [hlt',if_pos h4'];rfl
  ·refine hK9 _ _ ⟨?_,rfl⟩
   rw [hlt',if_neg h4',Nat.add_zero]
 refine gg_ ?_
 refine zj (c:=decide (1024<g.pts.length)) (fun _ K2 hK2=>?_) ?_
 ·refine gg_ ?_
  rw [show decide ((1024 : Int)<(g.pts.length : Int))=decide (1024<g.pts.length) from decide_eq_decide.2 (by omega)]
  exact hK2
 refine zj (c:=decide (256<yo (g.pts.take k))) (fun _ K2 hK2=>?_) ?_
 ·refine gg_ ?_
  rw [show decide ((256 : Int)<(yo (g.pts.take k) : Int))=decide (256<yo (g.pts.take k)) from decide_eq_decide.2 (by omega)]
  exact hK2
 have hend : g.pts.length≤1024→g.pts.take k=g.pts:=fun hle=>by
  refine List.take_of_length_le ?_
  rw [Bool.and_eq_false_iff,decide_eq_false_iff_not,decide_eq_false_iff_not] at hstop
  omega
 refine c_b (fun hbad=>?_) (fun hgood=>?_)
 ·rw [no fun H=>by
   have h1:=H.pt1
   have h2:=H.pt1024
   have h3:=H.loans
   rw [hend h2] at hbad
   simp only [Bool.or_eq_true,decide_eq_true_eq] at hbad
   omega] at h
  exact h _ S.ext
 simp only [Bool.or_eq_false_iff,decide_eq_false_iff_not] at hgood
 rw [hend (by omega)] at hgood
 have hpos : 0<g.tys.length:=by omega
 have hhd : g.tys.headD yc=g.tys[0]:=by rw [List.headD_eq_head?_getD,List.head?_eq_getElem?,List.getElem?_eq_getElem hpos,Option.getD_some]
 obtain ⟨bt,ot,ct,rfl,hct2,htc,hcell⟩:=h2.sl.get (by decide) hpos
 obtain ⟨q2,cap2,rfl,ht2⟩:=yU htc
 have lk : Ob r fun w=>w.cell? ⟨bt,ot,none⟩=some (.int .u8 g.tys[0].k):=by simpa using hcell 0 _ rfl
 refine gg_ ?_
 refine ak3 (c:=decide (g.lv=0)) (d:=decide (g.pn=0)) (e:=isK g.tys[0] 1) (fun K2 hK2=>by refine gg_ ?_;exact hK2) (fun K2 hK2=>by refine gg_ ?_;exact hK2) (fun K2 hK2=>?_) ?_
 ·refine gg_ ?_
  refine zg (by simpa using S.at lk) ?_
  refine gg_ ?_
  exact hK2
 have hE : yT u i g=(decide ((i : Int)≠u.mn)||((decide (g.lv=0)&&decide (g.pn=0))&&isK g.tys[0] 1)):=by
  rw [yT,decide_eq_true hlv0,decide_eq_true hlv8,decide_eq_true hpn0,decide_eq_true hpn8,decide_eq_true hpn1,decide_eq_true hty,decide_eq_true hnm,htys,hog,decide_eq_true (show 1≤g.pts.length by omega),decide_eq_true (show g.pts.length≤1024 by omega),decide_eq_true (show yo g.pts≤256 by omega),hhd,decide_not]
  simp
 rw [hE] at h
 exact h _ S.ext
end Go.Proofs
end
section
namespace Go.Proofs
open Go.Sh
set_option maxRecDepth 100000
set_option linter.unusedSimpArgs false
set_option linter.unusedVariables false
set_option maxHeartbeats 2000000 in
theorem adO {u : UnD} {v : Value} {w : World} {r : Gh} {K : Value→World→Prop} (hr : Holds r w) (hu : UnG r v u)
  (h : ∀ (a b e : Int) w',Ext w w'→(e=0↔MayU u)→K (.tuple #[.int .i64 a,.int .i64 b,.int .i64 e]) w') : zd Tryz.prog Tryz.ZD #[v] w K:=by
 refine Tryz.acp ?_
 unfold Tryz.QO
 have hu0:=hu
 obtain ⟨p0,cap0,vf,rfl,_,_,hst,hsl,hfn⟩:=hu
 obtain ⟨qf,capf,rfl,_,_⟩:=hfn.sl.shape
 have hfl : u.fs.length≤9223372036854775807:=hfn.few
 have S:=St.start hr
 refine S.box fun b1 w1 S=>?_
 have S : StX noX w r w1 [.cell b1 [.slice p0 u.ss.length cap0,.slice qf u.fs.length capf,.int .i64 u.mn] 25]:=S
 have bad : ∀ {a b : Int} {w' : World},¬ MayU u→Ext w w'→K (.tuple #[.int .i64 a,.int .i64 b,.int .i64 100]) w':=fun hn e=>h _ _ _ _ e ⟨fun h=>absurd h (by decide),fun hM=>absurd hM hn⟩
 refine gg_ ?_
 refine Xm S.holds hst fun w2 e2=>?_
 have S:=S.go e2
 refine gg_ ?_
 refine zj (c:=decide (u.fs.length<1)) (fun _ K2 hK2=>?_) ?_
 ·refine gg_ ?_
  rw [show decide ((u.fs.length : Int)<1)=decide (u.fs.length<1) from decide_eq_decide.2 (by omega)]
  exact hK2
 refine zj (c:=decide (32<u.fs.length)) (fun _ K2 hK2=>?_) ?_
 ·refine gg_ ?_
  rw [show decide ((32 : Int)<(u.fs.length : Int))=decide (32<u.fs.length) from decide_eq_decide.2 (by omega)]
  exact hK2
 refine zj (c:=decide (u.mn<0)) (fun _ K2 hK2=>by refine gg_ ?_;exact hK2) ?_
 refine zj (c:=decide ((u.fs.length : Int)≤u.mn)) (fun _ K2 hK2=>by refine gg_ ?_;exact hK2) ?_
 refine c_b (fun hbad=>?_) (fun hgood=>?_)
 ·refine bad (fun hM=>?_) S.ext
  have h1:=hM.ok;have h2:=hM.fs1;have h3:=hM.fs32;have h4:=hM.mn0;have h5:=hM.mn1
  rw [decide_eq_true h1] at hbad
  simp only [Bool.or_eq_true,decide_eq_true_eq,Bool.not_true,Bool.false_eq_true,false_or] at hbad
  omega
 simp only [Bool.or_eq_false_iff,decide_eq_false_iff_not,Bool.not_eq_false',decide_eq_true_eq] at hgood
 obtain ⟨⟨⟨⟨hok,hf1⟩,hf32⟩,hm0⟩,hm1⟩:=hgood
 refine zi (ι:=Nat) (fun i=>[.int .i64 (i : Nat)]) (fun i w'=>i≤u.fs.length∧(∀ (j : Nat) (hj : j<u.fs.length),j<i→yT u j u.fs[j]=true)∧StX noX w r w' [.cell b1 [.slice p0 u.ss.length cap0,.slice qf u.fs.length capf,.int .i64 u.mn] 25]) (fun i=>u.fs.length - i) 0 rfl ⟨Nat.zero_le _,fun j _ hj=>absurd hj (Nat.not_lt_zero _),S⟩ ?_
 clear S
 rintro i d w3 ⟨hi,hall,S⟩ K1 hK1
 rw [List.getD_cons_zero]
 refine gg_ ?_
 refine zk (fun hlt=>?_) (fun hge=>?_)
 ·have hlt : i<u.fs.length:=by omega
  refine S.ldB (b:=b1) ?_ rfl
  refine ae4 hlt hok S.holds hu0 fun w4 e4=>?_
  have S:=S.go e4
  refine gp_ ?_
  refine c_b (fun hb=>?_) (fun hb=>?_)
  ·refine bad (fun hM=>?_) S.ext
   rw [hM.head i hlt] at hb;cases hb
  ·refine gg_ ?_
   rw [show ((i : Int)+1)=((i+1 : Nat) : Int) by omega]
   refine hK1 (i+1) _ ⟨hlt,fun j hj hji=>?_,S⟩ (by omega)
   by_cases e : j=i
   ·subst e;simpa using hb
   ·exact hall j hj (by omega)
 have hheads : ∀ (j : Nat) (hj : j<u.fs.length),yT u j u.fs[j]=true:=fun j hj=>hall j hj (by omega)
 clear hall hK1 K1 hge hi
 have hfine : ∀ f ∈ u.fs,xq u.ss f.tys∧(0≤f.pn∧f.pn<f.tys.length∧xq u.ss f.tys):=fun f hf=>by
  obtain ⟨j,hj,rfl⟩:=List.getElem_of_mem hf
  have H:=abr (hheads j hj)
  exact ⟨H.fine hok,H.pn0,H.pn1,H.fine hok⟩
 refine zi (ι:=Nat) (fun i=>[.int .i64 (i : Nat)]) (fun i w'=>i≤u.fs.length∧(∀ (j : Nat) (hj : j<u.fs.length),j<i→∀ p ∈ u.fs[j].pts,zR u u.fs[j] p=true)∧StX noX w r w' [.cell b1 [.slice p0 u.ss.length cap0,.slice qf u.fs.length capf,.int .i64 u.mn] 25]) (fun i=>u.fs.length - i) 0 rfl ⟨Nat.zero_le _,fun j _ hj=>absurd hj (Nat.not_lt_zero _),S⟩ ?_
 clear S
 rintro i d w5 ⟨hi,hall,S⟩ K2 hK2
 rw [List.getD_cons_zero]
 refine gg_ ?_
 refine zk (fun hlt=>?_) (fun hge=>?_)
 rotate_left
 ·exact h 0 0 0 _ S.ext ⟨fun _=>⟨hok,by omega,by omega,by omega,by omega,hheads,fun g hg p hp=>by
   obtain ⟨j,hj,rfl⟩:=List.getElem_of_mem hg
   exact hall j hj (by omega) p hp⟩,fun _=>rfl⟩
 have hlt : i<u.fs.length:=by omega
 obtain ⟨bf,of,cf,rfl,hcf,hgc,hfo⟩:=hfn.sl.get (by decide) hlt
 have hgm:=List.getElem_mem hlt
 generalize hgi : u.fs[i]=g at hgc hgm
 obtain ⟨vo,vt,vn,vp,rfl,h1,h2,h3,h4⟩:=id hgc
 obtain ⟨qo,capo,rfl,_,_⟩:=h1.sl.shape
 obtain ⟨qt,capt,rfl,_,hct⟩:=h2.sl.shape
 obtain ⟨qn,capn,rfl,_,_⟩:=h3.sl.shape
 obtain ⟨qp,capp,rfl,_,_⟩:=h4.sl.shape
 have hptl : g.pts.length≤9223372036854775807:=h4.few
 have lpts : Ob r fun w=>w.cell? ⟨bf,of+i*7+6,none⟩=some (.slice qp g.pts.length capp):=hfo 6 _ rfl
 have S:=S.go (Ext.drew _)
 refine S.ldB (b:=b1) ?_ rfl
 refine gg_ ?_
 refine zq (n:=7) hcf (fun j v hj=>by rw [Int.toNat_natCast];exact S.at (hfo j v hj)) ?_
 refine zy (cs:=#[.slice p0 u.ss.length cap0,.slice (some ⟨bf,of,none⟩) u.fs.length capf,.int .i64 u.mn,.string g.name,.int .i64 g.lv,.slice qo g.outs.length capo,.int .i64 g.pn,.slice qt g.tys.length capt,.slice qn g.nms.length capn,.slice qp g.pts.length capp]) (by kernel_rfl) ?_
 refine S.box fun bx w6 S=>?_
 have S : StX noX w r w6 [.cell bx (asL u g p0 cap0 (some ⟨bf,of,none⟩) capf qo capo qt capt qn capn qp capp) 142,.cell b1 [.slice p0 u.ss.length cap0,.slice (some ⟨bf,of,none⟩) u.fs.length capf,.int .i64 u.mn] 25]:=S
 have S:=S.frz
 have hx : AsP (r.or (Go.Sh.one bx (asL u g p0 cap0 (some ⟨bf,of,none⟩) capf qo capo qt capt qn capn qp capp) 142)) bx u g:=⟨p0,cap0,some ⟨bf,of,none⟩,capf,qo,capo,qt,capt,qn,capn,qp,capp,(zG (b:=bx)).up,hu0.up,GrG.up hgc⟩
 refine zi (ι:=Nat) (fun i=>[.int .i64 (i : Nat)]) (fun q w'=>q≤g.pts.length∧(∀ (j : Nat) (hj : j<g.pts.length),j<q→zR u g g.pts[j]=true)∧StX noX w (r.or (Go.Sh.one bx (asL u g p0 cap0 (some ⟨bf,of,none⟩) capf qo capo qt capt qn capn qp capp) 142)) w' [.cell b1 [.slice p0 u.ss.length cap0,.slice (some ⟨bf,of,none⟩) u.fs.length capf,.int .i64 u.mn] 25]) (fun i=>g.pts.length - i) 0 rfl ⟨Nat.zero_le _,fun j _ hj=>absurd hj (Nat.not_lt_zero _),S⟩ ?_
 clear S
 rintro q d w7 ⟨hq,hpts,S⟩ K9 hK9
 rw [List.getD_cons_zero]
 refine gg_ ?_
 refine zg (by rw [Int.toNat_natCast];exact S.at lpts) ?_
 refine gg_ ?_
 refine zk (fun hlt2=>?_) (fun hge2=>?_)
 ·have hlt2 : q<g.pts.length:=by omega
  obtain ⟨bp,op,cp,rfl,hcp,hpc,hpo⟩:=h4.sl.get (by decide) hlt2
  refine gg_ ?_
  refine zg (by rw [Int.toNat_natCast];exact S.at lpts) ?_
  refine gg_ ?_
  refine zq (n:=21) hcp (fun j v hj=>by rw [Int.toNat_natCast];exact S.at (hpo j v hj)) ?_
  refine adN S.holds hx hok (hfine g hgm).1 (fun f hf=>(hfine f hf).2) hpc.up fun w8 e8=>?_
  have S:=S.go e8
  refine gp_ ?_
  refine c_b (fun hb=>?_) (fun hb=>?_)
  ·refine bad (fun hM=>?_) S.ext
   rw [hM.pts g hgm _ (List.getElem_mem hlt2)] at hb;cases hb
  ·refine gg_ ?_
   rw [show ((q : Int)+1)=((q+1 : Nat) : Int) by omega]
   refine hK9 (q+1) _ ⟨hlt2,fun j hj hjq=>?_,S⟩ (by omega)
   by_cases e : j=q
   ·subst e;simpa using hb
   ·exact hpts j hj (by omega)
 ·refine gg_ ?_
  rw [show ((i : Int)+1)=((i+1 : Nat) : Int) by omega]
  refine hK2 (i+1) _ ⟨hlt,fun j hj hji p hp=>?_,S.to r⟩ (by omega)
  by_cases e : j=i
  ·subst e
   rw [hgi] at hp ⊢
   obtain ⟨k,hk,rfl⟩:=List.getElem_of_mem hp
   exact hpts k hk (by omega)
  ·exact hall j hj (by omega) p hp
theorem afW {u : UnD} {v : Value} {w : World} {r : Gh} {K : Value→World→Prop} (hr : Holds r w) (hu : UnG r v u)
  (h : ∀ w',Ext w w'→K (.bool (vS u)) w') : zd Tryz.prog Tryz.Xv #[v] w K:=by
 refine Tryz.aeW ?_
 unfold Tryz.V1
 have hu0:=hu
 obtain ⟨p0,cap0,vf,rfl,_,_,hst,hsl,hfn⟩:=hu
 have S:=St.start hr
 refine S.box fun b1 w1 S=>?_
 have S : StX noX w r w1 [.cell b1 [.slice p0 u.ss.length cap0,vf,.int .i64 u.mn] 25]:=S
 refine S.ldB (b:=b1) ?_ rfl
 refine adO S.holds hu0 fun a b e w2 e2 he=>?_
 have S:=S.go e2
 refine gg_ ?_
 have hm : decide (e=0)=vS u:=by
  rw [Bool.eq_iff_iff,decide_eq_true_eq,he]
  exact aaC.symm
 rw [hm]
 exact h _ S.ext
theorem abE {u : UnD} {fn q : Int} {v : Value} {w : World} {r : Gh} {K : Value→World→Prop} (hr : Holds r w) (hu : UnG r v u)
  (h : ∀ w',Ext w w'→K (.bool (isU u fn q)) w') : zd Tryz.prog Tryz.Qb #[v,.int .i64 fn,.int .i64 q] w K:=by
 refine Tryz.afU ?_
 unfold Tryz.abw
 have hu0:=hu
 obtain ⟨p0,cap0,vf,rfl,_,_,hst,hsl,hfn⟩:=hu
 obtain ⟨qf,capf,rfl,_,_⟩:=hfn.sl.shape
 have hfl : u.fs.length≤9223372036854775807:=hfn.few
 have S:=St.start hr
 refine S.box fun b1 w1 S=>?_
 have S : StX noX w r w1 [.cell b1 [.slice p0 u.ss.length cap0,.slice qf u.fs.length capf,.int .i64 u.mn] 25]:=S
 refine S.ldB (b:=b1) ?_ rfl
 refine afW S.holds hu0 fun w2 e2=>?_
 have S:=S.go e2
 refine zf (c:=decide (0≤fn)) (fun _ K2 hK2=>by refine gg_ ?_;exact hK2) ?_
 refine zf (c:=decide (fn<(u.fs.length : Int))) (fun _ K2 hK2=>by refine gg_ ?_;exact hK2) ?_
 refine zf (c:=decide (q<((u.fs[fn.toNat]?.map fun g=>(g.pts.length : Int)).getD 0))) (fun hb K2 hK2=>?_) ?_
 ·simp only [Bool.and_eq_true,decide_eq_true_eq] at hb
  have hlt : fn.toNat<u.fs.length:=by omega
  obtain ⟨bf,of,cf,rfl,hcf,hgc,hfo⟩:=hfn.sl.get (by decide) hlt
  obtain ⟨vo,vt,vn,vp,rfl,h1,h2,h3,h4⟩:=id hgc
  obtain ⟨qp,capp,rfl,_,_⟩:=h4.sl.shape
  have hptl : u.fs[fn.toNat].pts.length≤9223372036854775807:=h4.few
  have lpts : Ob r fun w=>w.cell? ⟨bf,of+fn.toNat*7+6,none⟩=some (.slice qp u.fs[fn.toNat].pts.length capp):=hfo 6 _ rfl
  refine gg_ ?_
  refine zg (S.at lpts) ?_
  refine gg_ ?_
  rw [List.getElem?_eq_getElem hlt] at hK2
  exact hK2
 have:=h _ S.ext
 rw [isU] at this
 have e : ((((vS u&&decide (0≤fn))&&decide (fn<(u.fs.length : Int)))&&decide (q<((u.fs[fn.toNat]?.map fun g=>(g.pts.length : Int)).getD 0))))=((decide (0≤fn)&&decide (fn<(u.fs.length : Int)))&&(vS u&&decide (q<((u.fs[fn.toNat]?.map fun g=>(g.pts.length : Int)).getD 0)))):=by ac_rfl
 rw [e]
 exact this
end Go.Proofs
end
section
namespace Go.Proofs
open Go.Sh
set_option maxRecDepth 100000
set_option linter.unusedSimpArgs false
set_option linter.unusedVariables false
end Go.Proofs
end
section
namespace Go.Proofs
open Go.Shelf
set_option maxRecDepth 100000
def Tryz.afX : Go.Shelf.Ren:=⟨fun|189=>26|125=>53|257=>52|128=>75|129=>76|294=>66|295=>67|296=>68|297=>69|298=>70|299=>71|216=>72|300=>73|301=>74|328=>86|329=>87|330=>88|331=>89|332=>90|215=>82|343=>133|n=>n,fun|28=>32|3=>3|46=>113|0=>0|51=>136|53=>53|4=>4|183=>130|182=>129|131=>83|5=>5|9=>9|218=>148|222=>152|228=>202|229=>203|n=>n,fun|n=>n⟩
theorem Tryz.ago : Go.Proofs.Lays.n189 Tryz.prog Tryz.afX:={
 mixed:=by kernel_rfl
 f125:=Tryz.func53.trans (congrArg some (by kernel_rfl))
 f128:=Tryz.func75.trans (congrArg some (by kernel_rfl))
 f129:=Tryz.func76.trans (congrArg some (by kernel_rfl))
 f189:=Tryz.func26.trans (congrArg some (by kernel_rfl))
 f215:=Tryz.func82.trans (congrArg some (by kernel_rfl))
 f216:=Tryz.func72.trans (congrArg some (by kernel_rfl))
 f257:=Tryz.func52.trans (congrArg some (by kernel_rfl))
 f294:=Tryz.func66.trans (congrArg some (by kernel_rfl))
 f295:=Tryz.func67.trans (congrArg some (by kernel_rfl))
 f296:=Tryz.func68.trans (congrArg some (by kernel_rfl))
 f297:=Tryz.func69.trans (congrArg some (by kernel_rfl))
 f298:=Tryz.func70.trans (congrArg some (by kernel_rfl))
 f299:=Tryz.func71.trans (congrArg some (by kernel_rfl))
 f300:=Tryz.func73.trans (congrArg some (by kernel_rfl))
 f301:=Tryz.func74.trans (congrArg some (by kernel_rfl))
 f328:=Tryz.func86.trans (congrArg some (by kernel_rfl))
 f329:=Tryz.func87.trans (congrArg some (by kernel_rfl))
 f330:=Tryz.func88.trans (congrArg some (by kernel_rfl))
 f331:=Tryz.func89.trans (congrArg some (by kernel_rfl))
 f332:=Tryz.func90.trans (congrArg some (by kernel_rfl))
 f343:=Tryz.func133.trans (congrArg some (by kernel_rfl))
 t0:=Tryz.underlying0
 a0:=Tryz.isAgg0
 z0:=Tryz.sizeOf0
 v0:=Tryz.zeroValue0
 t3:=Tryz.underlying3
 a3:=Tryz.isAgg3
 z3:=Tryz.sizeOf3
 v3:=Tryz.zeroValue3
 t4:=Tryz.underlying4
 a4:=Tryz.isAgg4
 z4:=Tryz.sizeOf4
 v4:=Tryz.zeroValue4
 t5:=Tryz.underlying5
 a5:=Tryz.isAgg5
 z5:=Tryz.sizeOf5
 v5:=Tryz.zeroValue5
 t9:=Tryz.underlying9
 a9:=Tryz.isAgg9
 z9:=Tryz.sizeOf9
 v9:=Tryz.zeroValue9
 t28:=Tryz.underlying32
 a28:=Tryz.isAgg32
 z28:=Tryz.sizeOf32
 v28:=Tryz.zeroValue32
 t46:=Tryz.underlying113
 a46:=Tryz.isAgg113
 z46:=Tryz.sizeOf113
 v46:=Tryz.zeroValue113
 t51:=Tryz.underlying136
 a51:=Tryz.isAgg136
 z51:=Tryz.sizeOf136
 v51:=Tryz.zeroValue136
 t53:=Tryz.underlying53
 a53:=Tryz.isAgg53
 z53:=Tryz.sizeOf53
 v53:=Tryz.zeroValue53
 t131:=Tryz.underlying83
 a131:=Tryz.isAgg83
 z131:=Tryz.sizeOf83
 v131:=Tryz.zeroValue83
 t182:=Tryz.underlying129
 a182:=Tryz.isAgg129
 z182:=Tryz.sizeOf129
 v182:=Tryz.zeroValue129
 t183:=Tryz.underlying130
 a183:=Tryz.isAgg130
 z183:=Tryz.sizeOf130
 v183:=Tryz.zeroValue130
 t218:=Tryz.underlying148
 a218:=Tryz.isAgg148
 z218:=Tryz.sizeOf148
 v218:=Tryz.zeroValue148
 t222:=Tryz.underlying152
 a222:=Tryz.isAgg152
 z222:=Tryz.sizeOf152
 v222:=Tryz.zeroValue152
 t228:=Tryz.underlying202
 a228:=Tryz.isAgg202
 z228:=Tryz.sizeOf202
 v228:=Tryz.zeroValue202
 t229:=Tryz.underlying203
 a229:=Tryz.isAgg203
 z229:=Tryz.sizeOf203
 v229:=Tryz.zeroValue203 }
def Tryz.adP : Go.Shelf.Ren:=⟨fun|20=>27|n=>n,fun|22=>32|3=>3|4=>4|0=>0|n=>n,fun|n=>n⟩
theorem Tryz.ac7 : Go.Proofs.Lays2.n20 Tryz.prog Tryz.adP:={
 mixed:=by kernel_rfl
 f20:=Tryz.func27.trans (congrArg some (by kernel_rfl))
 t0:=Tryz.underlying0
 a0:=Tryz.isAgg0
 z0:=Tryz.sizeOf0
 v0:=Tryz.zeroValue0
 t3:=Tryz.underlying3
 a3:=Tryz.isAgg3
 z3:=Tryz.sizeOf3
 v3:=Tryz.zeroValue3
 t4:=Tryz.underlying4
 a4:=Tryz.isAgg4
 z4:=Tryz.sizeOf4
 v4:=Tryz.zeroValue4
 t22:=Tryz.underlying32
 a22:=Tryz.isAgg32
 z22:=Tryz.sizeOf32
 v22:=Tryz.zeroValue32
 i3:=by kernel_rfl }
def Tryz.adQ : Go.Shelf.Ren:=⟨fun|15=>60|n=>n,fun|22=>32|3=>3|4=>4|n=>n,fun|n=>n⟩
theorem Tryz.JK : Go.Proofs.Lays2.n15 Tryz.prog Tryz.adQ:={
 mixed:=by kernel_rfl
 f15:=Tryz.func60.trans (congrArg some (by kernel_rfl))
 t3:=Tryz.underlying3
 a3:=Tryz.isAgg3
 z3:=Tryz.sizeOf3
 v3:=Tryz.zeroValue3
 t4:=Tryz.underlying4
 a4:=Tryz.isAgg4
 z4:=Tryz.sizeOf4
 v4:=Tryz.zeroValue4
 t22:=Tryz.underlying32
 a22:=Tryz.isAgg32
 z22:=Tryz.sizeOf32
 v22:=Tryz.zeroValue32
 i3:=by kernel_rfl }
end Go.Proofs
end
section
namespace Go.Sh
open Go.RowKit
theorem ac8 {w w' : World} {g q : Nat} {c : List Value} {e : TypeId} {d : Array Int} {os : Array Obj} (B : Blk w g c e) (hd : d.size≤c.length)
  (hw : w'=Sort.grow (Sort.putRow (Value.int .i64) (Sort.ahead w q) g 0 d) os) : ExtBut (· = g) w w'∧Blk w' g (d.toList.map (Value.int .i64)++c.drop d.size) e:=by
 subst hw
 have hg : g<w.heap.size:=(Array.getElem?_eq_some_iff.1 B).1
 have hput : ∀ k,(Sort.putRow (Value.int .i64) (Sort.ahead w q) g 0 d).heap[k]? = if g=k then (w.heap[k]?).map (Sort.onCells (Sort.putCells (Value.int .i64) 0 d)) else w.heap[k]?:=fun k=>by
  simp only [Sort.putRow,Sort.mapBlock,Array.getElem?_modify]
  split<;>rfl
 have hsz : (Sort.putRow (Value.int .i64) (Sort.ahead w q) g 0 d).heap.size=w.heap.size:=by simp [Sort.ahead]
 refine ⟨⟨rfl,rfl,rfl,by simp only [Sort.grow,Array.size_append,hsz];omega,fun k hk hne=>?_⟩,?_⟩
 ·show ((Sort.putRow (Value.int .i64) (Sort.ahead w q) g 0 d).heap++os)[k]? = _
  rw [Array.getElem?_append_left (by rw [hsz];exact hk),hput,if_neg (fun h=>hne h.symm)]
 ·show ((Sort.putRow (Value.int .i64) (Sort.ahead w q) g 0 d).heap++os)[g]? = _
  rw [Array.getElem?_append_left (by rw [hsz];exact hg),hput,if_pos rfl,B,Option.map_some]
  simp only [Sort.onCells]
  congr 2
  apply Array.ext_getElem?
  intro i
  simp only [Sort.putCells,Array.getElem?_mapIdx,List.getElem?_toArray,List.getElem?_append,List.length_map,Array.length_toList,List.getElem?_map,List.getElem?_drop,Nat.zero_le,true_and,Nat.zero_add,Nat.sub_zero]
  by_cases hi : i<d.size
  ·rw [if_pos hi,List.getElem?_eq_getElem (by omega),Option.map_some,if_pos hi,Array.getElem?_toList,Array.getElem?_eq_getElem hi,getElem!_pos d i hi];rfl
  ·rw [if_neg hi,show d.size+(i - d.size)=i by omega]
   cases h : c[i]? with
   |none=>rfl
   |some x=>rw [Option.map_some,if_neg hi]
end Go.Sh
namespace Go.Proofs
open Go.Sh Go.RowKit
set_option maxRecDepth 100000
set_option linter.unusedSimpArgs false
set_option linter.unusedVariables false
def sortI (l : List Int) : List Int:=l.mergeSort fun x y=>decide (x≤y)
theorem jP {l : List Int} : (sortI l).length=l.length:=List.length_mergeSort l
variable {w0 w : World} {r : Gh} {L : List Asr} {X : Nat→Prop}
theorem QR {v : Value} {l : List Int} {K : Value→World→Prop} (S : StX X w0 r w (.row v 3 1 l.length (ints l)::L)) (hl : l.length<4611686018427387904)
  (h : ∀ w',StX X w0 r w' (.row v 3 1 l.length (ints (sortI l))::L)→K (.tuple #[]) w') : zd Tryz.prog Tryz.ke #[v] w K:=by
 have hr : w.ownsRow 0 3 1 v l.length (ints l):=S.has _ (List.mem_cons_self ..)
 rcases qD hr with ⟨rfl,h1,h2⟩|⟨g,cap,c,rfl,hg,B,hn,hm,hcl,ht⟩
 ·have hl0 : l = []:=List.eq_nil_of_length_eq_zero h1
  subst hl0
  refine Calls.mono (Any.slices_Sort_int_none Tryz.ago none 0 w) ?_
  rintro e w' ⟨rfl,rfl⟩
  exact ⟨_,rfl,h _ (by rw [show sortI [] = [] by simp [sortI]];exact S)⟩
 ·rw [Nat.mul_one] at hcl ht
  have hcell : ∀ j,j<l.length→w.cell? ⟨g,j,none⟩=some (.int .i64 l[j]!):=fun j hj=>by
   have : (c.take l.length)[j]? = some (.int .i64 l[j]!):=by
    rw [ht,ints,List.getElem?_map,List.getElem?_eq_getElem hj,getElem!_pos l j hj];rfl
   rw [List.getElem?_take,if_pos hj] at this
   rw [B.cell];exact this
  have hfz : ∀ j,w.frozen? ⟨g,j,none⟩=false:=fun j=>B.unfrozen j
  refine Calls.mono (Any.slices_Sort_int Tryz.ago g 0 cap l w (fun j hj=>⟨?_,hfz _⟩) (Array.getElem?_eq_some_iff.1 B).1 hl) ?_
  ·have hj : j<l.length:=by simpa using hj
   rw [Nat.zero_add,hcell j hj]
   simp [getElem!_pos,hj]
  rintro e w' ⟨rfl,q,os,hw⟩
  obtain ⟨hE,hB⟩:=ac8 (d:=(sortI l).toArray) B (by simp [jP];omega) hw
  refine ⟨_,rfl,h w' ?_⟩
  refine S.turn (p:=[]) (x:=.row (.slice (some ⟨g,0,none⟩) l.length cap) 3 1 l.length (ints l)) (y:=.row (.slice (some ⟨g,0,none⟩) l.length cap) 3 1 l.length (ints (sortI l))) ?_ ?_ fun k hk=>.inl hk
  ·exact hE.mono fun k _ hk=>by subst hk;rfl
  ·have:=Z6 (base:=0) (e:=3) (size:=1) (n:=l.length) (cap:=cap) (Nat.zero_le _) hB hn hm (by simp [jP];omega)
   have e : ((sortI l).toArray.toList.map (Value.int .i64)++c.drop (sortI l).toArray.size).take (l.length*1)=ints (sortI l):=by
    rw [Nat.mul_one,List.take_append_of_le_length (by simp [jP])]
    exact List.take_of_length_le (by simp [jP])
   rwa [e] at this
theorem abF : ∀ {l m : List Int},l.Pairwise (· < ·)→m.Pairwise (· < ·)→(∀ x,x ∈ l↔x ∈ m)→l=m
 |[],[],_,_,_=>rfl
 |[],y::m,_,_,h=>absurd ((h y).2 (List.mem_cons_self ..)) (by simp)
 |x::l,[],_,_,h=>absurd ((h x).1 (List.mem_cons_self ..)) (by simp)
 |x::l,y::m,hl,hm,h=>by
  have hl':=List.pairwise_cons.1 hl
  have hm':=List.pairwise_cons.1 hm
  have hxy : x=y:=by
   have h1:=(h x).1 (List.mem_cons_self ..)
   have h2:=(h y).2 (List.mem_cons_self ..)
   rcases List.mem_cons.1 h1 with e|h1
   ·exact e
   rcases List.mem_cons.1 h2 with e|h2
   ·exact e.symm
   have:=hl'.1 y h2;have:=hm'.1 x h1;omega
  subst hxy
  rw [abF hl'.2 hm'.2 fun z=>?_]
  constructor
  ·intro hz
   rcases List.mem_cons.1 ((h z).1 (List.mem_cons_of_mem _ hz)) with e|hz'
   ·have:=hl'.1 z hz;omega
   ·exact hz'
  ·intro hz
   rcases List.mem_cons.1 ((h z).2 (List.mem_cons_of_mem _ hz)) with e|hz'
   ·have:=hm'.1 z hz;omega
   ·exact hz'
theorem ag9 {l : List Int} : (Lib.compact l).length≤l.length:=by
 unfold Lib.compact Lib.compactUpTo
 rw [List.length_map]
 exact Nat.le_trans (List.length_filter_le _ _) (by simp)
theorem JL {d : Array Int} (hs : ∀ i j,i≤j→j<d.size→d[i]!≤d[j]!) : ∀ m,m≤d.size→(Lib.compactUpTo d m).Pairwise (· < ·)∧∀ x,x ∈ Lib.compactUpTo d m↔∃ j,j<m∧d[j]! = x
 |0,_=>⟨by simp [Lib.compactUpTo],fun x=>⟨fun h=>by simp [Lib.compactUpTo] at h,fun ⟨j,h,_⟩=>absurd h (Nat.not_lt_zero _)⟩⟩
 |m+1,hm=>by
  obtain ⟨h1,h2⟩:=JL hs m (by omega)
  rw [Lib.compactUpTo_succ]
  by_cases hk : Lib.keeps d m=true
  ·rw [if_pos hk]
   have hk' : m=0∨d[m]!≠d[m - 1]!:=by simpa [Lib.keeps] using hk
   refine ⟨List.pairwise_append.2 ⟨h1,by simp,fun a ha b hb=>?_⟩,fun x=>?_⟩
   ·rw [List.mem_singleton.1 hb]
    obtain ⟨j,hj,rfl⟩:=(h2 a).1 ha
    have h3:=hs j (m - 1) (by omega) (by omega)
    have h4:=hs (m - 1) m (by omega) (by omega)
    rcases hk' with h0|hne
    ·omega
    ·omega
   ·rw [List.mem_append,List.mem_singleton,h2]
    constructor
    ·rintro (⟨j,hj,e⟩|e)
     ·exact ⟨j,by omega,e⟩
     ·exact ⟨m,by omega,e.symm⟩
    ·rintro ⟨j,hj,e⟩
     by_cases hjm : j=m
     ·subst hjm;exact .inr e.symm
     ·exact .inl ⟨j,by omega,e⟩
  ·rw [if_neg hk,List.append_nil]
   have hk' : ¬ m=0∧d[m]! = d[m - 1]!:=by simpa [Lib.keeps,not_or] using hk
   refine ⟨h1,fun x=>?_⟩
   rw [h2]
   constructor
   ·rintro ⟨j,hj,e⟩;exact ⟨j,by omega,e⟩
   ·rintro ⟨j,hj,e⟩
    by_cases hjm : j=m
    ·subst hjm;exact ⟨j - 1,by omega,by rw [← e,hk'.2]⟩
    ·exact ⟨j,by omega,e⟩
theorem JM {l : List Int} : (Lib.compact (sortI l)).Pairwise (· < ·)∧∀ x,x ∈ Lib.compact (sortI l)↔x ∈ l:=by
 have hp : (sortI l).Pairwise (fun a b=>decide (a≤b)=true):=List.pairwise_mergeSort (fun a b c h1 h2=>by simp only [decide_eq_true_eq] at *;omega) (fun a b=>by simp only [Bool.or_eq_true,decide_eq_true_eq];omega) l
 have hg : ∀ (i : Nat) (hi : i<(sortI l).length),(sortI l).toArray[i]! = (sortI l)[i]:=fun i hi=>by
  rw [getElem!_pos _ i (by simpa using hi)];simp
 have hs : ∀ i j,i≤j→j<(sortI l).toArray.size→(sortI l).toArray[i]!≤(sortI l).toArray[j]!:=fun i j hij hj=>by
  have hj : j<(sortI l).length:=by simpa using hj
  rw [hg i (by omega),hg j hj]
  by_cases e : i=j
  ·subst e;exact Int.le_refl _
  ·simpa using List.pairwise_iff_getElem.1 hp i j (by omega) hj (by omega)
 obtain ⟨h1,h2⟩:=JL hs (sortI l).length (by simp)
 refine ⟨h1,fun x=>?_⟩
 show x ∈ Lib.compactUpTo (sortI l).toArray (sortI l).length↔_
 rw [h2,← List.mem_mergeSort (le:=fun x y=>decide (x≤y)) (l:=l)]
 constructor
 ·rintro ⟨j,hj,rfl⟩
  rw [hg j hj];exact List.getElem_mem hj
 ·intro hx
  obtain ⟨j,hj,rfl⟩:=List.getElem_of_mem hx
  exact ⟨j,hj,hg j hj⟩
theorem aaH {v : Value} {l : List Int} {K : Value→World→Prop} (S : StX X w0 r w (.row v 3 1 l.length (ints l)::L))
  (h : ∀ v' w',StX X w0 r w' (.row v' 3 1 (Lib.compact l).length (ints (Lib.compact l))::L)→K v' w') : zd Tryz.prog Tryz.qh #[v] w K:=by
 have hr : w.ownsRow 0 3 1 v l.length (ints l):=S.has _ (List.mem_cons_self ..)
 rcases qD hr with ⟨rfl,h1,h2⟩|⟨g,cap,c,rfl,hg,B,hn,hm,hcl,ht⟩
 ·have hl0 : l = []:=List.eq_nil_of_length_eq_zero h1
  subst hl0
  refine Calls.mono (Any.slices_Compact_int_empty Tryz.ac7 none 0 w) ?_
  rintro e w' ⟨rfl,rfl⟩
  exact ⟨_,rfl,h _ _ S⟩
 ·rw [Nat.mul_one] at hcl ht
  have hcell : ∀ j,j<l.length→w.cell? ⟨g,j,none⟩=some (.int .i64 l[j]!):=fun j hj=>by
   have : (c.take l.length)[j]? = some (.int .i64 l[j]!):=by
    rw [ht,ints,List.getElem?_map,List.getElem?_eq_getElem hj,getElem!_pos l j hj];rfl
   rw [List.getElem?_take,if_pos hj] at this
   rw [B.cell];exact this
  have hfz : ∀ j,w.frozen? ⟨g,j,none⟩=false:=fun j=>B.unfrozen j
  refine Calls.mono (Any.slices_Compact_int Tryz.ac7 g 0 cap l w (fun j hj=>⟨?_,hfz _⟩) (by have : cap≤9223372036854775807:=hm;omega) hn) ?_
  ·have hj : j<l.length:=by simpa using hj
   rw [Nat.zero_add,hcell j hj]
   simp [getElem!_pos,hj]
  rintro e w' ⟨rfl,q,hw⟩
  have hcm : (Lib.compact l).length≤l.length:=ag9
  obtain ⟨hE,hB⟩:=ac8 (w':=w') (q:=q) (os:=#[]) (d:=(Lib.compact l++List.replicate (l.length - (Lib.compact l).length) 0).toArray) B (by simp;omega) (by rw [hw,Sort.grow_empty])
  refine ⟨_,rfl,h _ w' ?_⟩
  refine S.turn (p:=[]) (x:=.row (.slice (some ⟨g,0,none⟩) l.length cap) 3 1 l.length (ints l)) (y:=.row (.slice (some ⟨g,0,none⟩) (Lib.compact l).length cap) 3 1 (Lib.compact l).length (ints (Lib.compact l))) ?_ ?_ fun k hk=>.inl hk
  ·exact hE.mono fun k _ hk=>by subst hk;rfl
  ·have:=Z6 (base:=0) (e:=3) (size:=1) (n:=(Lib.compact l).length) (cap:=cap) (Nat.zero_le _) hB (by omega) hm (by simp;omega)
   have e : (((Lib.compact l++List.replicate (l.length - (Lib.compact l).length) 0).toArray.toList.map (Value.int .i64))++c.drop (Lib.compact l++List.replicate (l.length - (Lib.compact l).length) 0).toArray.size).take ((Lib.compact l).length*1)=ints (Lib.compact l):=by
    rw [Nat.mul_one,List.take_append_of_le_length (by simp)]
    simp only [List.map_append]
    rw [List.take_append_of_le_length (by simp)]
    exact List.take_of_length_le (by simp)
   rwa [e] at this
end Go.Proofs
end
section
namespace Go.Proofs
open Go.Sh
set_option maxRecDepth 100000
set_option linter.unusedSimpArgs false
set_option linter.unusedVariables false
end Go.Proofs
end
section
namespace Go.Proofs
open Go.Sh
set_option maxRecDepth 100000
set_option linter.unusedSimpArgs false
set_option linter.unusedVariables false
theorem RowOf.app {α : Type} {sz : Nat} {R : List Value→α→Prop} {xs ys : List Value} {l m : List α} (h : RowOf sz R xs l) (k : RowOf sz R ys m) : RowOf sz R (xs++ys) (l++m):=by
 obtain ⟨h1,h2⟩:=h
 obtain ⟨k1,k2⟩:=k
 refine ⟨by rw [List.length_append,List.length_append,h1,k1,Nat.add_mul],fun i hi=>?_⟩
 by_cases hl : i<l.length
 ·have:=Nat.mul_le_mul_right sz (Nat.succ_le_of_lt hl)
  rw [Nat.succ_mul] at this
  rw [List.getElem_append_left hl,List.drop_append_of_le_length (by rw [h1];omega),List.take_append_of_le_length (by rw [List.length_drop,h1];omega)]
  exact h2 i hl
 ·rw [List.getElem_append_right (by omega)]
  have e : (xs++ys).drop (i*sz)=ys.drop ((i - l.length)*sz):=by
   rw [List.drop_append,List.drop_eq_nil_of_le (by rw [h1];exact Nat.mul_le_mul_right _ (by omega)),List.nil_append,h1,← Nat.sub_mul]
  rw [e]
  exact k2 _ _
def refOps (p : PtD) : List OpD:=(if p.a.k≠0 then [p.a] else [])++(if p.b.k≠0 then [p.b] else [])++p.args
set_option maxHeartbeats 1000000 in
theorem aaI {p : PtD} {c : List Value} {w : World} {r : Gh} {K : Value→World→Prop} (hr : Holds r w) (hp : PtG r c p) (hb : p.args.length≤1000)
  (h : ∀ v' s w',Ext w w'→New w s w'→SlG 4 s (OpG r) v' (refOps p)→K v' w') : zd Tryz.prog Tryz.jw #[.agg c.toArray] w K:=by
 refine Tryz.VA ?_
 unfold Tryz.YA
 obtain ⟨z1,z2,z3,z4,z5,t1,t2,t3,t4,t5,rfl,hp0⟩:=xf hp
 obtain ⟨kto,ka,kb,kl,kf⟩:=Ql hp0
 have S:=St.start hr
 refine S.box fun b1 w1 S=>?_
 have S : StX noX w r w1 [.cell b1 (ptL p z1 z2 z3 z4 z5 t1 t2 t3 t4 t5) 64]:=S
 refine zp (fun x w'=>∃ vq xs,x = [vq]∧RowOf 4 (OpG r) xs (if p.a.k≠0 then [p.a] else [])∧StX noX w r w' [.row vq 61 4 (if p.a.k≠0 then [p.a] else []).length xs,.cell b1 (ptL p z1 z2 z3 z4 z5 t1 t2 t3 t4 t5) 64]) (fun K2 hK2=>?_) ?_
 ·refine gg_ ?_
  have S:=S.ownNil 61 4
  refine zk (fun hne=>?_) (fun heq=>?_)
  ·rw [if_pos hne] at hK2
   refine gg_ ?_
   refine S.ldN (b:=b1) (vs:=[.int .u8 p.a.k,.int .i64 p.a.n,.int .i64 p.a.pl.l,.slice z2 p.a.pl.ps.length t2]) ?_
   refine S.lit (e:=61) (cs:=[.int .u8 p.a.k,.int .i64 p.a.n,.int .i64 p.a.pl.l,.slice z2 p.a.pl.ps.length t2]) (by kernel_rfl) fun b5 w5 S=>?_
   refine S.ap (v:=.slice none 0 0) (m':=1) (Sl.blk (S.blk b5)) (fun v6 w6 S=>?_) (by omega)
   have S:=S.drop b5
   exact hK2 _ _ ⟨v6,_,rfl,yq rfl ka,S⟩
  ·rw [if_neg heq] at hK2
   exact hK2 _ _ ⟨.slice none 0 0,[],rfl,RowOf.nil,S⟩
 clear S
 rintro _ w5 ⟨v3,xs3,rfl,hrow3,S⟩ d5
 have hl3 : (if p.a.k≠0 then [p.a] else []).length≤1:=by split<;>simp
 have hR : refOps p=(if p.a.k≠0 then [p.a] else [])++(if p.b.k≠0 then [p.b] else [])++p.args:=rfl
 rw [hR] at h
 generalize (if p.a.k≠0 then [p.a] else ([] : List OpD))=A at hrow3 S hl3 h
 rw [List.getD_cons_zero]
 refine zp (fun x w'=>∃ vq xs,x = [vq]∧RowOf 4 (OpG r) xs (A++(if p.b.k≠0 then [p.b] else []))∧StX noX w r w' [.row vq 61 4 (A++(if p.b.k≠0 then [p.b] else [])).length xs,.cell b1 (ptL p z1 z2 z3 z4 z5 t1 t2 t3 t4 t5) 64]) (fun K8 hK8=>?_) ?_
 ·refine gg_ ?_
  refine zk (fun hne=>?_) (fun heq=>?_)
  ·rw [if_pos hne] at hK8
   refine gg_ ?_
   refine S.ldN (b:=b1) (vs:=[.int .u8 p.b.k,.int .i64 p.b.n,.int .i64 p.b.pl.l,.slice z3 p.b.pl.ps.length t3]) ?_
   refine S.lit (e:=61) (cs:=[.int .u8 p.b.k,.int .i64 p.b.n,.int .i64 p.b.pl.l,.slice z3 p.b.pl.ps.length t3]) (by kernel_rfl) fun b5 w6 S=>?_
   refine S.ap (v:=v3) (m':=1) (Sl.blk (S.blk b5)) (fun v6 w7 S=>?_) (by omega)
   have S:=S.drop b5
   refine hK8 _ _ ⟨v6,_,rfl,hrow3.snoc rfl kb,?_⟩
   rw [List.length_append]
   exact S
  ·rw [if_neg heq,List.append_nil] at hK8
   exact hK8 _ _ ⟨v3,xs3,rfl,hrow3,S⟩
 clear S
 rintro _ w11 ⟨v9,xs9,rfl,hrow9,S⟩ d11
 have hl9 : (A++(if p.b.k≠0 then [p.b] else [])).length≤2:=by
  rw [List.length_append]
  have : (if p.b.k≠0 then [p.b] else []).length≤1:=by split<;>simp
  omega
 generalize A++(if p.b.k≠0 then [p.b] else [])=B at hrow9 S hl9 h
 rw [List.getD_cons_zero]
 refine gg_ ?_
 obtain ⟨xs,hxr,hxs⟩:=agl (by decide) kl.sl
 obtain ⟨_,_,hE,hq4,_⟩:=kl.sl.shape
 cases hE
 refine S.ap (v:=v9) (S.at hxs) (fun v25 w14 S=>?_) (by omega) hxr.1 hq4 (abv hxr (by decide) fun c x hx=>agm hx)
 obtain ⟨s,T,hs,_,hab⟩:=S.doneRow (RowOf.app hrow9 hxr) (by decide) (by rw [List.length_append])
 exact h _ s _ T.ext (StX.newOf (q:=s) T fun b o ho=>(hab b o ho).resolve_right id) hs
theorem Xn {p : PtD} {c : List Value} {w : World} {r : Gh} {K : Value→World→Prop} (hr : Holds r w) (hp : PtG r c p)
  (h : ∀ w',Ext w w'→K (.bool (decide (1≤p.op)&&decide (p.op≤8))) w') : zd Tryz.prog Tryz.qc #[.agg c.toArray] w K:=by
 refine Tryz.aav ?_
 unfold Tryz.Xh
 obtain ⟨z1,z2,z3,z4,z5,t1,t2,t3,t4,t5,rfl,hp0⟩:=xf hp
 have S:=St.start hr
 refine S.box fun b1 w1 S=>?_
 have S : StX noX w r w1 [.cell b1 (ptL p z1 z2 z3 z4 z5 t1 t2 t3 t4 t5) 64]:=S
 refine gg_ ?_
 refine zf (c:=decide (p.op≤8)) (fun _ K2 hK2=>by refine gg_ ?_;exact hK2) ?_
 exact h _ S.ext
theorem ae5 {g : GrD} {p : PtD} {q : Int} {c : List Value} {w : World} {r : Gh} {K : Value→World→Prop} (hr : Holds r w) (hg : GrG r c g) (hq : 0≤q) (hlt : q.toNat<g.pts.length) (hpe : g.pts[q.toNat]=p)
  (h : ∀ v' s w',Ext w w'→New w s w'→SlG 1 s zU v' (xg p)→K v' w') : zd Tryz.prog Tryz.Yp #[.agg c.toArray,.int .i64 q] w K:=by
 refine Tryz.adz ?_
 unfold Tryz.Jq
 obtain ⟨x1,x2,x3,x4,y1,y2,y3,y4,rfl,hg0⟩:=Ye hg
 obtain ⟨_,_,_,_,hE,m1,m2,m3,m4⟩:=hg0
 cases hE
 have hll : g.pts.length≤9223372036854775807:=m4.few
 obtain ⟨bp,op,cp,hE,hcp,hpc,hpo⟩:=m4.sl.get (by decide) hlt
 cases hE
 rw [hpe] at hpc
 obtain ⟨z1,z2,z3,z4,z5,t1,t2,t3,t4,t5,rfl,hp0⟩:=xf hpc
 have S:=St.start hr
 refine S.box fun b2 w1 S=>?_
 have S : StX noX w r w1 [.cell b2 (grL g x1 x2 x3 (some ⟨bp,op,none⟩) y1 y2 y3 y4) 43]:=S
 refine gg_ ?_
 refine zq (n:=21) hcp (fun j v hj=>S.at (hpo j v hj)) ?_
 refine S.al fun b5 w2 S=>?_
 refine S.stB (b:=b5) fun w3 S=>?_
 have S : StX noX w r w3 [.cell b5 (ptL p z1 z2 z3 z4 z5 t1 t2 t3 t4 t5) 64,.cell b2 (grL g x1 x2 x3 (some ⟨bp,op,none⟩) y1 y2 y3 y4) 43]:=S
 refine gg_ ?_
 rw [xg] at h
 refine zk (fun h14=>?_) (fun h14=>?_)
 ·rw [if_pos h14] at h
  exact h _ nothing _ S.ext New.nothing SlG.nil
 rw [if_neg h14] at h
 refine gg_ ?_
 refine zf (c:=decide (p.el≠p.nx)) (fun _ K2 hK2=>by refine gg_ ?_;exact hK2) ?_
 refine c_b (fun hc=>?_) (fun hc=>?_)
 ·simp only [Bool.and_eq_true,decide_eq_true_eq] at hc
  rw [if_pos ⟨hc.1,fun e=>hc.2 e.symm⟩] at h
  refine gg_ ?_
  refine S.lit (e:=3) (cs:=[.int .i64 p.nx,.int .i64 p.el]) (by kernel_rfl) fun b9 w9 S=>?_
  obtain ⟨S,hs,ha⟩:=S.litNew b9 (sz:=1) (R:=zU) (l:=[p.nx,p.el]) (yH (c:=[.int .i64 p.nx]) rfl rfl (yq rfl rfl)) (by decide)
  exact h _ _ _ S.ext (S.newOf ha) hs
 ·simp only [Bool.and_eq_false_iff,decide_eq_false_iff_not] at hc
  rw [if_neg (by rintro ⟨h1,h2⟩;rcases hc with hc|hc;· exact hc h1
                 ·exact hc fun e=>h2 e.symm)] at h
  refine gg_ ?_
  refine S.lit (e:=3) (cs:=[.int .i64 p.nx]) (by kernel_rfl) fun b9 w9 S=>?_
  obtain ⟨S,hs,ha⟩:=S.litNew b9 (sz:=1) (R:=zU) (l:=[p.nx]) (yq rfl rfl) (by decide)
  exact h _ _ _ S.ext (S.newOf ha) hs
end Go.Proofs
end
section
namespace Go.Proofs
set_option linter.unusedVariables false
abbrev zK:=List (List Int)
def nxt (n : zK) (q : Int) : List Int:=n.getD q.toNat []
def isN (n : zK) (q : Int) : Prop:=0≤q∧q<n.length
instance (n : zK) (q : Int) : Decidable (isN n q):=inferInstanceAs (Decidable (_∧_))
def qP (n : zK) : Prop:=∀ l ∈ n,∀ x ∈ l,isN n x
theorem ae6 {n : zK} {q : Int} (h : isN n q) : nxt n q=n[q.toNat]'(by have:=h.1;have:=h.2;omega):=by
 have:=h.1;have:=h.2
 rw [nxt,List.getD_eq_getElem?_getD,List.getElem?_eq_getElem (by omega)];rfl
theorem X5 {n : zK} (h : qP n) {q x : Int} (hx : x ∈ nxt n q) : isN n x:=by
 by_cases hq : q.toNat<n.length
 ·rw [nxt,List.getD_eq_getElem?_getD,List.getElem?_eq_getElem hq] at hx
  exact h _ (List.getElem_mem hq) x hx
 ·rw [nxt,List.getD_eq_getElem?_getD,List.getElem?_eq_none (by omega)] at hx
  cases hx
def mk' (m : List Bool) (q : Int) : Bool:=m.getD q.toNat false
def xH (m : List Bool) (q : Int) : List Bool:=m.set q.toNat true
theorem ae7 {m : List Bool} {q : Int} : (xH m q).length=m.length:=List.length_set
theorem ah8 {m : List Bool} {q x : Int} (hq : 0≤q) (hq2 : q<m.length) (hx : 0≤x) : mk' (xH m q) x=(decide (x=q)||mk' m x):=by
 rw [mk',xH,List.getD_eq_getElem?_getD,List.getElem?_set]
 by_cases h : x=q
 ·subst h
  rw [if_pos rfl,if_pos (by omega)];simp
 ·rw [if_neg (by omega)]
  simp [h,mk',List.getD_eq_getElem?_getD]
def off (m : List Bool) : Nat:=m.countP fun b=>!b
theorem agp {m : List Bool} {q : Int} (hq2 : q.toNat<m.length) (h : mk' m q=false) : off (xH m q)+1=off m:=by
 rw [mk',List.getD_eq_getElem?_getD,List.getElem?_eq_getElem hq2,Option.getD_some] at h
 rw [off,off,xH]
 generalize q.toNat=k at *
 induction m generalizing k with
 |nil=>simp at hq2
 |cons b l ih=>
  cases k with
  |zero=>
   simp only [List.getElem_cons_zero] at h
   subst h
   simp
  |succ k=>
   simp only [List.getElem_cons_succ,List.length_cons] at h hq2
   have:=ih k (by omega) h
   simp only [List.set_cons_succ,List.countP_cons]
   omega
def mkd (m : List Bool) : List Int:=((List.range m.length).filter fun i=>m.getD i false).map Int.ofNat
theorem acv {m : List Bool} {x : Int} : x ∈ mkd m↔0≤x∧mk' m x=true:=by
 rw [mkd,List.mem_map]
 constructor
 ·rintro ⟨i,hi,rfl⟩
  rw [List.mem_filter] at hi
  exact ⟨Int.natCast_nonneg i,by rw [mk',show (Int.ofNat i).toNat=i from rfl];exact hi.2⟩
 ·rintro ⟨h0,h⟩
  refine ⟨x.toNat,?_,Int.toNat_of_nonneg h0⟩
  rw [List.mem_filter,List.mem_range]
  refine ⟨?_,h⟩
  refine Nat.lt_of_not_le fun hl=>?_
  rw [mk',List.getD_eq_getElem?_getD,List.getElem?_eq_none hl] at h
  cases h
theorem aha {m : List Bool} : (mkd m).Pairwise (· < ·):=by
 rw [mkd,List.pairwise_map]
 exact (List.pairwise_lt_range.filter _).imp fun h=>Int.ofNat_lt.2 h
theorem ac9 {m m' : List Bool} (hl : m.length=m'.length) (h : ∀ x : Int,0≤x→x<m.length→mk' m x=mk' m' x) : m=m':=by
 refine List.ext_getElem hl fun i h1 h2=>?_
 have:=h i (Int.natCast_nonneg i) (by omega)
 simpa [mk',List.getD_eq_getElem?_getD,h1,h2] using this
theorem alE {m : List Bool} {x : Int} (h : mk' m x=true) : x.toNat<m.length:=by
 refine Nat.lt_of_not_le fun hl=>?_
 rw [mk',List.getD_eq_getElem?_getD,List.getElem?_eq_none hl] at h
 cases h
theorem ake {k : Nat} : off (List.replicate k false)=k:=by
 rw [off,List.countP_replicate];simp
end Go.Proofs
end
section
namespace Go.Proofs
open Go.Sh
set_option maxRecDepth 100000
set_option linter.unusedSimpArgs false
set_option linter.unusedVariables false
theorem StX.join {X : Nat→Prop} {w0 w w' : World} {r s : Gh} {L M : List Asr} (S : StX X w0 r w L) (T : StX noX w s w' M) (n : Above w s) : StX X w0 (r.or s) w' (M++L):=by
 have S':=S.go T.x.ext
 refine ⟨S'.x,S'.holds.or T.holds,fun x hx=>?_,fun x hx k hk=>?_,?_⟩
 ·rcases List.mem_append.1 hx with hx|hx
  ·exact T.has x hx
  ·exact S'.has x hx
 ·rcases List.mem_append.1 hx with hx|hx
  ·obtain ⟨h1,h2⟩:=T.mine x hx k hk
   have h1:=h1.resolve_right id
   refine ⟨.inl (Nat.le_trans S.x.size h1),fun o ho=>ho.elim (fun h=>?_) (h2 o)⟩
   have:=S.holds.lt h;omega
  ·refine ⟨(S.mine x hx k hk).1,fun o ho=>ho.elim ((S.mine x hx k hk).2 o) fun h=>?_⟩
   have:=n k o h
   have:=Asr.lt (S.has x hx) hk;omega
 ·refine List.pairwise_append.2 ⟨T.apart,S.apart,fun x hx y hy k hk hk'=>?_⟩
  have h1:=(T.mine x hx k hk).1.resolve_right id
  have:=Asr.lt (S.has y hy) hk';omega
end Go.Proofs
end
section
namespace Go.Proofs
open Go.Sh
set_option maxRecDepth 100000
set_option linter.unusedSimpArgs false
set_option linter.unusedVariables false
end Go.Proofs
end
section
namespace Go.Proofs
open Go.Sh
set_option maxRecDepth 100000
set_option linter.unusedSimpArgs false
set_option linter.unusedVariables false
end Go.Proofs
end
section
namespace Go.Proofs
open Go.Sh
set_option maxRecDepth 100000
set_option linter.unusedSimpArgs false
set_option linter.unusedVariables false
theorem ae8 {u : UnD} {g : GrD} {p : PtD} (h : zR u g p=true) : 0≤p.tx∧(p.op≠14→vR g p.nx=true)∧(p.op=14→p.nx=0)∧ptG u g p=true:=by
 simp only [zR,Bool.and_eq_true,Bool.not_eq_true',Bool.or_eq_false_iff,decide_eq_false_iff_not,Bool.and_eq_false_iff,Bool.not_eq_false',decide_eq_true_eq] at h
 obtain ⟨⟨⟨a,b⟩,c⟩,d⟩:=h
 exact ⟨by omega,fun h=>b.resolve_left h,fun h=>c.resolve_left (fun h'=>h' h),d⟩
end Go.Proofs
end
section
namespace Go.Proofs
open Go.Sh
set_option maxRecDepth 100000
set_option linter.unusedSimpArgs false
set_option linter.unusedVariables false
def zh (g : GrD) : zK:=g.pts.map xg
theorem z6 {g : GrD} : (zh g).length=g.pts.length:=List.length_map _
theorem ae9 {g : GrD} {q : Int} : vR g q=true↔isN (zh g) q:=by
 rw [vR,Bool.and_eq_true,decide_eq_true_eq,decide_eq_true_eq,isN,z6]
theorem afY {p : PtD} : (xg p).Nodup:=by
 rw [xg]
 split
 ·exact .nil
 split
 ·rename_i h;simpa using h.2
 ·simp
theorem ahb {g : GrD} {q : Int} : (nxt (zh g) q).Nodup:=by
 rw [nxt,List.getD_eq_getElem?_getD]
 cases h : (zh g)[q.toNat]? with
 |none=>exact .nil
 |some l=>
  rw [zh,List.getElem?_map] at h
  cases h2 : g.pts[q.toNat]? with
  |none=>rw [h2] at h;cases h
  |some p=>rw [h2] at h;cases h;exact afY
theorem agq {g : GrD} {q : Int} (h : isN (zh g) q) : nxt (zh g) q=xg (g.pts[q.toNat]'(by have:=h.1;have:=h.2;rw [z6] at this;omega)):=by
 rw [ae6 h];simp [zh]
theorem ahc {u : UnD} {g : GrD} {p : PtD} (h : zR u g p=true) : ∀ x ∈ xg p,isN (zh g) x:=fun x hx=>by
 obtain ⟨_,h1,_,h3⟩:=ae8 h
 rw [xg] at hx
 split at hx
 ·cases hx
 rename_i h14
 have hnx:=ae9.1 (h1 h14)
 split at hx
 ·rename_i h12
  simp only [List.mem_cons,List.not_mem_nil,or_false] at hx
  rcases hx with rfl|rfl
  ·exact hnx
  ·rw [ptG] at h3
   simp only [h12.1,Int.reduceEq,if_false,if_true,Bool.and_eq_true] at h3
   exact ae9.1 h3.2
 ·rw [List.mem_singleton.1 hx];exact hnx
theorem akf {u : UnD} {g : GrD} (hM : MayU u) (hg : g ∈ u.fs) : qP (zh g):=fun l hl x hx=>by
 obtain ⟨p,hp,rfl⟩:=List.mem_map.1 hl
 exact ahc (hM.pts g hg p hp) x hx
theorem ai9 {u : UnD} {n : Nat} (hM : MayU u) (hn : n<u.fs.length) : 0<(zh u.fs[n]).length∧(zh u.fs[n]).length≤1024:=by
 have:=hM.hd hn
 rw [z6]
 exact ⟨this.pt1,this.pt1024⟩
theorem ah9 {p : PtD} : (xg p).length≤2:=by
 rw [xg]
 split
 ·simp
 split<;>simp
def RowC (r : Gh) (c : List Value) (l : List Int) : Prop:=∃ v,c = [v]∧SlB 1 r zU v l
def NetG (r : Gh) (v : Value) (n : zK) : Prop:=SlB 1 r (RowC r) v n
theorem RowC.up {r s : Gh} {c : List Value} {l : List Int} (h : RowC r c l) [le : Le r s] : RowC s c l:=by
 obtain ⟨v,h1,h2⟩:=h;exact ⟨v,h1,h2.cells⟩
theorem NetG.up {r s : Gh} {v : Value} {n : zK} (h : NetG r v n) [le : Le r s] : NetG s v n:=h.up' le fun _ _ h=>RowC.up h
end Go.Proofs
end
section
namespace Go.Proofs
set_option linter.unusedVariables false
set_option linter.unusedSimpArgs false
def ahd (n : zK) (q : Int) : List Int:=((List.range n.length).filter fun p=>(n.getD p []).contains q).map Int.ofNat
theorem acw {n : zK} {q p : Int} : p ∈ ahd n q↔isN n p∧q ∈ nxt n p:=by
 rw [ahd,List.mem_map]
 constructor
 ·rintro ⟨i,hi,rfl⟩
  rw [List.mem_filter,List.mem_range,List.contains_iff_mem] at hi
  exact ⟨⟨Int.natCast_nonneg i,by rw [Int.ofNat_eq_natCast];omega⟩,hi.2⟩
 ·rintro ⟨⟨h0,h1⟩,h⟩
  refine ⟨p.toNat,?_,Int.toNat_of_nonneg h0⟩
  rw [List.mem_filter,List.mem_range,List.contains_iff_mem]
  exact ⟨by omega,h⟩
end Go.Proofs
end
section
namespace Go.Proofs
set_option linter.unusedVariables false
set_option linter.unusedSimpArgs false
end Go.Proofs
end
section
namespace Go.Proofs
set_option linter.unusedVariables false
set_option linter.unusedSimpArgs false
end Go.Proofs
end
