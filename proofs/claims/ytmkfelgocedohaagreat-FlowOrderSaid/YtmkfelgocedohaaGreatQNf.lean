/-
  loanwordlaw12.FlowWhole: whatever the program, the function: the law returns true.
  loanwordlaw12.FlowWhole: whatever the input, the law returns true and the input reads as it did.
  Contract of loanwordref12: Way.
  Plain: what the statements of Flow ask of ways, of what lies above, of the order.
  loanwordlaw12.FlowWays: whatever the program, the function, the points, the list: the law returns true.
  loanwordlaw12.FlowWays: whatever the input, the law returns true and the input reads as it did.
  loanwordlaw12.FlowAbove: whatever the program, the function, the point: the law returns true.
  loanwordlaw12.FlowAbove: whatever the input, the law returns true and the input reads as it did.
  loanwordlaw12.FlowReach: whatever the program, the function, the point: the law returns true.
  loanwordlaw12.FlowReach: whatever the input, the law returns true and the input reads as it did.
  loanwordlaw12.FlowOrder: whatever the program, the function: the law returns true.
  loanwordlaw12.FlowOrder: whatever the input, the law returns true and the input reads as it did.
  The six statements of Flow together.
-/
import Derived.Test.YtmkfelgocedohaaGreatQNe
section
namespace Go.Proofs
open Go.Sh
set_option maxRecDepth 100000
set_option linter.unusedSimpArgs false
set_option linter.unusedVariables false
instance : afU Tryz.prog 52:=⟨by kernel_rfl⟩
theorem afi {r : Gh} {p : Option Addr} {m cap : Nat} {l : List (Int × Int)} (h : SlG 2 r YH (.slice p m cap) l) {i : Nat} (hi : i<l.length) :
  ∃ b off,p=some ⟨b,off,none⟩∧m=l.length∧∀ j v,[Value.int .i64 l[i].1,.int .i64 l[i].2][j]? = some v→Ob r fun w=>w.cell? ⟨b,off+i*2+j,none⟩=some v:=by
 obtain ⟨b,off,c,hp,hc,hcc,hcell⟩:=h.get (by decide) hi
 obtain rfl : c=_:=hcc
 exact ⟨b,off,hp,h.len,hcell⟩
theorem ZP {n : zd} (h : Qi n) (q : Int) : (nxt n q).length≤2:=by
 rw [nxt,List.getD_eq_getElem?_getD]
 cases hq : n[q.toNat]? with
 |none=>exact Nat.zero_le _
 |some l=>exact h l (List.mem_of_getElem? hq)
theorem JH {n : zd} (h : Qi n) : ∀ {o : List Int},(Zw n o).length≤2*o.length
 |[]=>Nat.le_refl _
 |q::o=>by
  rw [Zw,List.flatMap_cons,List.length_append,List.length_map,List.length_cons]
  have h1:=ZP h q
  have h2 : (o.flatMap fun q=>(nxt n q).map fun p=>(q,p)).length≤2*o.length:=JH h (o:=o)
  omega
theorem aei {n : zd} (hF : aeb n) {o : List Int} {b : List (Int × Int)} (h : jk n o b) : b.length≤2048:=by
 have h1:=Q0 hF.nd h
 have h2:=List.length_filter_le (fun e=>decide (e ∈ b)) (Zw n o)
 have h3:=JH hF.nar (o:=o)
 have h4:=Qn h.nodup fun x hx=>((h.mem x).1 hx).1
 have:=hF.few
 omega
end Go.Proofs
end
section
namespace Go.Proofs.YtmkfelgocedohaaGreat.flowWhole
open Go.Sh Go.ChangeShapes Go.WideShapes Go.ChangeAt Go.RowKit openG
set_option maxRecDepth 100000
set_option linter.unusedVariables false
end Go.Proofs.YtmkfelgocedohaaGreat.flowWhole
end
section
namespace Go.Proofs
open Go.Sh Go.RowKit
set_option maxRecDepth 100000
set_option linter.unusedSimpArgs false
set_option linter.unusedVariables false
end Go.Proofs
end
section
namespace Go.Proofs
set_option linter.unusedVariables false
set_option linter.unusedSimpArgs false
theorem Fw.runs {n : zd} (hn : zM n) {so : List Int→List Int} (hso : Zj so) {W : List Int} {s : Int} : ∀ (m : Nat) {k : Nat} {M : zH} {L : List Int},Fw n W s k M L→k+1≤M.length→n.length - M.length≤m→∃ k M,Fw n W s k M []∧∀ p w,(p,w) ∈ M→w.length≤n.length
 |m,k,M,L,h,hk,hm=>by
  obtain ⟨h2,hl⟩:=h.next hn hso
  have f2:=h2.few
  generalize (rndW n so W s M L (M,[])).1=M' at *
  generalize (rndW n so W s M L (M,[])).2=L' at *
  by_cases e : L' = []
  ·subst e
   refine ⟨_,_,h2,fun p w hp=>?_⟩
   have h3:=(h2.min p w hp).2.2
   have h4 : w.length≠k+1+1:=fun e=>by
    have:=(h2.lev p).2 ⟨w,hp,e⟩
    cases this
   rw [List.length_nil] at hl
   omega
  ·have : 0<L'.length:=List.length_pos_iff.2 e
   cases m with
   |zero=>omega
   |succ m=>exact Fw.runs hn hso m h2 (by omega) (by omega)
theorem ZQ {n : zd} (hn : zM n) {so : List Int→List Int} (hso : Zj so) {W : List Int} {s t : Int} (hs : isN n s) : (xb n s t W).isSome=true↔Rchd n (· ∈ W) s t:=by
 rw [← afH]
 constructor
 ·intro h
  obtain ⟨w,hw⟩:=Option.isSome_iff_exists.1 h
  exact ⟨w,(xt.1 hw).1⟩
 ·rintro ⟨w,hw⟩
  obtain ⟨k,M,hF,_⟩:=Fw.runs hn hso n.length (Fw.start (W:=W) hs) (Nat.le_refl _) (by omega)
  rw [← hF.found (.inl rfl)]
  exact hF.end hw
theorem abp {n : zd} (hn : zM n) {so : List Int→List Int} (hso : Zj so) {W : List Int} {s t : Int} (hs : isN n s) : ((xb n s t W).getD []).length≤n.length:=by
 cases hw : xb n s t W with
 |none=>exact Nat.zero_le _
 |some w=>
  obtain ⟨k,M,hF,hf⟩:=Fw.runs hn hso n.length (Fw.start (W:=W) hs) (Nat.le_refl _) (by omega)
  rw [← hF.found (.inl rfl)] at hw
  exact hf t w ((kW hF.nod).2 hw)
theorem Xt {n : zd} {s t : Int} : Rchd n (· ∈ ([] : List Int)) s t↔Rchd n zr s t:=
 ⟨fun h=>h.mono fun y hy=>hy.elim,fun h=>h.mono fun y hy=>by cases hy⟩
theorem afj {n : zd} {s t p : Int} : Rchd n (· ∈ [p]) s t↔Rchd n (· = p) s t:=
 ⟨fun h=>h.mono fun y hy=>by simpa using hy,fun h=>h.mono fun y hy=>by simpa using hy⟩
theorem Pth.edges {n : zd} {W : List Int} {s : Int} (hn : zM n) : ∀ {r : List Int} {x t : Int},isN n x→Pth n W s x r t→(∀ y ∈ x::r,isN n y)∧(∀ i,i<r.length→r.getD i 0 ∈ nxt n ((x::r).getD i 0))∧(x::r).getLast (by simp)=t
 |[],x,t,hx,h=>by
  obtain rfl : x=t:=h
  exact ⟨fun y hy=>by rw [List.mem_singleton.1 hy];exact hx,fun i hi=>absurd hi (Nat.not_lt_zero _),rfl⟩
 |y::r,x,t,hx,h=>by
  have hy:=zR hn h.1.2
  obtain ⟨h1,h2,h3⟩:=Pth.edges hn hy h.2
  refine ⟨fun z hz=>?_,fun i hi=>?_,?_⟩
  ·rcases List.mem_cons.1 hz with rfl|hz
   ·exact hx
   ·exact h1 z hz
  ·cases i with
   |zero=>exact h.1.2
   |succ i=>exact h2 i (by simpa using hi)
  ·rw [List.getLast_cons (by simp)];exact h3
theorem afV {n : zd} (hn : zM n) {so : List Int→List Int} (hso : Zj so) {q p : Int} (h0 : 0<n.length) (hq : Rchd n zr 0 q) (hp : isN n p) :
  decide (p ∈ abvL n q)=((!(xb n 0 q [p]).isSome||decide (p=q))||decide (p=0)):=by
 rw [Bool.eq_iff_iff,decide_eq_true_eq,zx,Bool.or_eq_true,Bool.or_eq_true,decide_eq_true_eq,decide_eq_true_eq,Bool.not_eq_true',← Bool.not_eq_true,ZQ hn hso ⟨Int.le_refl _,by omega⟩,afj]
 constructor
 ·rintro ⟨_,_,h|h|h⟩
  ·exact .inl (.inr h)
  ·exact .inr h
  ·exact .inl (.inl h)
 ·rintro ((h|h)|h)
  ·exact ⟨hq,hp,.inr (.inr h)⟩
  ·exact ⟨hq,hp,.inl h⟩
  ·exact ⟨hq,hp,.inr (.inl h)⟩
theorem JI {n : zd} {q : Int} (hqN : isN n q) : 0<(abvL n q).length↔Rchd n zr 0 q:=by
 constructor
 ·intro h
  obtain ⟨x,hx⟩:=List.exists_mem_of_length_pos h
  exact (zx.1 hx).1
 ·intro h
  exact List.length_pos_of_mem (zx.2 ⟨h,hqN,kg⟩ : q ∈ abvL n q)
def Chn (n : zd) (q p : Int) (k : Nat) : Prop:=(p ∈ abvL n q∧k+(abvL n p).length=(abvL n q).length)∨(p = -1∧k=(abvL n q).length)
theorem Chn.start {n : zd} {q : Int} (hqN : isN n q) (hq : Rchd n zr 0 q) : Chn n q q 0:=.inl ⟨zx.2 ⟨hq,hqN,kg⟩,by omega⟩
theorem Chn.go {n : zd} {q p : Int} {k : Nat} (h0 : 0<n.length) (h : Chn n q p k) (hp : 0≤p) : p ∈ abvL n q∧isN n p∧k<(abvL n q).length∧Chn n q (yg n p) (k+1):=by
 rcases h with ⟨h1,h2⟩|⟨h1,_⟩
 ·obtain ⟨hq,hpN,hd⟩:=zx.1 h1
  have hpr:=Xp hq hd
  have hpos:=(JI hpN).2 hpr
  refine ⟨h1,hpN,by omega,?_⟩
  rcases ad9 h0 hpN hpr with ⟨_,h3,h4⟩|⟨_,h3,h4⟩
  ·exact .inr ⟨h3,by omega⟩
  ·obtain ⟨_,hrN,hrd⟩:=zx.1 h3
   exact .inl ⟨zx.2 ⟨hq,hrN,YY hrd hd⟩,by omega⟩
 ·omega
theorem Chn.end {n : zd} {q p : Int} {k : Nat} (h : Chn n q p k) (hp : ¬ 0≤p) : k=(abvL n q).length:=by
 rcases h with ⟨h1,h2⟩|⟨_,h⟩
 ·exact absurd (zx.1 h1).2.1.1 hp
 ·exact h
noncomputable def lenE (n : zd) (q x : Int) : Nat:=((xb n q x []).getD []).length
noncomputable def xp (n : zd) (q : Int) (i : Nat) : List Int:=(List.range n.length).map fun (x : Nat)=>if x<i∨(x : Int)=q then (lenE n q x : Int) else 0
theorem kX {n : zd} {q : Int} {i : Nat} : (xp n q i).length=n.length:=by simp [xp]
theorem adm {n : zd} {q : Int} (hq : isN n q) : (List.replicate n.length (0 : Int)).set q.toNat 1=xp n q 0:=by
 have q0:=hq.1;have q1:=hq.2
 refine List.ext_getElem (by rw [List.length_set,List.length_replicate,kX]) fun x h1 h2=>?_
 rw [List.getElem_set,List.getElem_replicate]
 simp only [xp,List.getElem_map,List.getElem_range]
 by_cases e : q.toNat=x
 ·have e' : (x : Int)=q:=by omega
  rw [if_pos e,if_pos (.inr e'),e',lenE,ac4];rfl
 ·rw [if_neg e,if_neg (by omega)]
theorem J9 {n : zd} {q : Int} {i : Nat} (hi : i<n.length) : xp n q (i+1)=(xp n q i).set i (lenE n q i : Int):=by
 refine List.ext_getElem (by rw [List.length_set,kX,kX]) fun x h1 h2=>?_
 rw [List.getElem_set]
 simp only [xp,List.getElem_map,List.getElem_range]
 by_cases e : i=x
 ·subst e
  rw [if_pos rfl,if_pos (.inl (Nat.lt_succ_self _))]
 ·rw [if_neg e]
  by_cases h : x<i+1∨(x : Int)=q
  ·rw [if_pos h,if_pos (by omega)]
  ·rw [if_neg h,if_neg (by omega)]
theorem adn {n : zd} {q : Int} {i : Nat} (hi : i<n.length) (h : lenE n q i=0) : xp n q (i+1)=xp n q i:=by
 rw [J9 hi,h]
 refine List.ext_getElem (by rw [List.length_set]) fun x h1 h2=>?_
 rw [List.getElem_set]
 split
 ·rename_i e
  subst e
  simp only [xp,List.getElem_map,List.getElem_range]
  split
  ·rw [h]
  ·rfl
 ·rfl
theorem abq {n : zd} {q : Int} {x : Int} (hx : isN n x) : (xp n q n.length).getD x.toNat 0=(lenE n q x : Int):=by
 have x0:=hx.1;have x1:=hx.2
 have hl : x.toNat<(xp n q n.length).length:=by rw [kX];omega
 rw [List.getD_eq_getElem?_getD,List.getElem?_eq_getElem hl,Option.getD_some]
 simp only [xp,List.getElem_map,List.getElem_range]
 rw [if_pos (.inl (by omega)),show ((x.toNat : Nat) : Int)=x by omega]
theorem aej {n : zd} (hn : zM n) {so : List Int→List Int} (hso : Zj so) {q x y : Int} (hq : isN n q) (hx : Rchd n zr q x) (hy : y ∈ nxt n x) : lenE n q y≤lenE n q x+1:=by
 obtain ⟨w,hw⟩:=Option.isSome_iff_exists.1 ((ZQ hn hso (W:=[]) hq).2 (Xt.2 hx))
 obtain ⟨u,hu⟩:=Option.isSome_iff_exists.1 ((ZQ hn hso (W:=[]) hq).2 (Xt.2 (.step hx (.inr id) hy)))
 have h1:=(xt.1 hw).1.snoc (p:=y) ⟨.inr (by simp),hy⟩
 have h2:=((xt.1 hu).2 _ h1).1
 rw [lenE,lenE,hw,hu]
 simpa using h2
theorem aek {n : zd} {o : List Int} {b : List (Int × Int)} (h : jk n o b) : o.length=(mkd (y7 n zr 0)).length:=by
 have hm : ∀ x,x ∈ o↔x ∈ mkd (y7 n zr 0):=fun x=>by
  rw [h.mem,Zx]
  constructor
  ·rintro ⟨h1,h2⟩;exact ⟨h1.1,(kY h1).2 h2⟩
  ·rintro ⟨h1,h2⟩
   have hx : isN n x:=⟨h1,by have:=abu h2;rw [qO] at this;omega⟩
   exact ⟨hx,(kY hx).1 h2⟩
 exact Nat.le_antisymm (kv h.nodup fun x hx=>(hm x).1 hx) (kv (Qr.imp fun h e=>by omega) fun x hx=>(hm x).2 hx)
theorem ado {n : zd} (h0 : 0<n.length) {o : List Int} {b : List (Int × Int)} (h : jk n o b) : ∃ hp : 0<o.length,o[0]=0:=by
 have hz : (0 : Int) ∈ o:=(h.mem 0).2 ⟨⟨Int.le_refl _,by omega⟩,.base⟩
 obtain ⟨j,hj,ej⟩:=List.getElem_of_mem hz
 have hp : 0<o.length:=by omega
 refine ⟨hp,?_⟩
 have hd:=h.dom o[0] (List.getElem_mem hp) 0 (.inr (.inl rfl))
 rw [← ej,Xq h.nodup hp hj] at hd
 have : j=0:=by omega
 subst this;exact ej
noncomputable def atO (n : zd) (o : List Int) (i : Nat) : List Int:=(List.range n.length).map fun (x : Nat)=>if (x : Int) ∈ o.take i then ((o.idxOf (x : Int) : Nat) : Int)+1 else 0
theorem ja {n : zd} {o : List Int} {i : Nat} : (atO n o i).length=n.length:=by simp [atO]
theorem ael {n : zd} {o : List Int} : atO n o 0=List.replicate n.length 0:=by
 refine List.ext_getElem (by rw [ja,List.length_replicate]) fun x h1 h2=>?_
 simp [atO]
theorem adp {n : zd} {o : List Int} {i : Nat} {x : Int} (hx : isN n x) : (atO n o i).getD x.toNat 0=if x ∈ o.take i then ((o.idxOf x : Nat) : Int)+1 else 0:=by
 have x0:=hx.1;have x1:=hx.2
 have hl : x.toNat<(atO n o i).length:=by rw [ja];omega
 rw [List.getD_eq_getElem?_getD,List.getElem?_eq_getElem hl,Option.getD_some]
 simp only [atO,List.getElem_map,List.getElem_range]
 rw [show ((x.toNat : Nat) : Int)=x by omega]
theorem aem {o : List Int} (hn : o.Nodup) {i : Nat} (hi : i<o.length) : o[i] ∉ o.take i:=fun hm=>by
 obtain ⟨k,hk,ek⟩:=List.getElem_of_mem hm
 rw [List.length_take] at hk
 rw [List.getElem_take] at ek
 exact List.pairwise_iff_getElem.1 hn k i (by omega) hi (by omega) ek
theorem adq {o : List Int} (hn : o.Nodup) {i : Nat} (hi : i<o.length) : o.idxOf o[i]=i:=by
 have hj:=List.idxOf_lt_length_of_mem (List.getElem_mem hi)
 refine Classical.byContradiction fun hne=>?_
 have e : o[o.idxOf o[i]]=o[i]:=List.getElem_idxOf hj
 rcases Nat.lt_or_gt_of_ne hne with h|h
 ·exact List.pairwise_iff_getElem.1 hn _ _ hj hi h e
 ·exact List.pairwise_iff_getElem.1 hn _ _ hi hj h e.symm
theorem aen {n : zd} {o : List Int} (hn : o.Nodup) {i : Nat} (hi : i<o.length) (hN : isN n o[i]) : atO n o (i+1)=(atO n o i).set o[i].toNat ((i : Int)+1):=by
 have x0:=hN.1;have x1:=hN.2
 refine List.ext_getElem (by rw [List.length_set,ja,ja]) fun x h1 h2=>?_
 rw [List.getElem_set]
 simp only [atO,List.getElem_map,List.getElem_range]
 have htk : o.take (i+1)=o.take i ++ [o[i]]:=List.take_succ_eq_append_getElem hi
 by_cases e : o[i].toNat=x
 ·have e' : (x : Int)=o[i]:=by omega
  rw [if_pos e,e',if_pos (by rw [htk];exact List.mem_append_right _ (List.mem_singleton.2 rfl)),adq hn hi]
 ·have e' : (x : Int)≠o[i]:=by omega
  rw [if_neg e,htk]
  simp only [List.mem_append,List.mem_singleton,e',or_false]
theorem abr {n : zd} {o : List Int} (hn : o.Nodup) {j : Nat} (hj : j<o.length) (hN : isN n o[j]) : (atO n o o.length).getD o[j].toNat 0=(j : Int)+1:=by
 rw [adp hN,List.take_length,if_pos (List.getElem_mem hj),adq hn hj]
theorem ab5 {n : zd} {o : List Int} {b : List (Int × Int)} (h : jk n o b) {i : Nat} (hi : i<o.length) {a : Int} (ha : a ∈ abvL n o[i]) : 1≤(atO n o o.length).getD a.toNat 0∧(atO n o o.length).getD a.toNat 0≤(i : Int)+1:=by
 obtain ⟨hq,haN,hd⟩:=zx.1 ha
 have hao : a ∈ o:=(h.mem a).2 ⟨haN,Xp hq hd⟩
 obtain ⟨j,hj,rfl⟩:=List.getElem_of_mem hao
 have:=h.dom _ (List.getElem_mem hi) _ hd
 rw [Xq h.nodup hi hj] at this
 rw [abr h.nodup hj haN]
 omega
theorem adr {n : zd} (hn : zM n) {o : List Int} {b : List (Int × Int)} (h : jk n o b) {i : Nat} (hi : i<o.length) {p : Int} (hp : p ∈ nxt n o[i]) : decide ((o[i],p) ∈ b)=decide ((atO n o o.length).getD p.toNat 0≤(i : Int)+1):=by
 obtain ⟨hiN,hir⟩:=(h.mem _).1 (List.getElem_mem hi)
 have hpN:=zR hn hp
 have hpo : p ∈ o:=(h.mem p).2 ⟨hpN,.step hir (.inr id) hp⟩
 rw [decide_eq_decide,h.back _ (List.getElem_mem hi) p hp]
 obtain ⟨j,hj,rfl⟩:=List.getElem_of_mem hpo
 rw [Xq h.nodup hi hj,abr h.nodup hj hpN]
 omega
def xB (n : zd) (o : List Int) (b : List (Int × Int)) (i k : Nat) : Nat:=
 ((Zw n (o.take i)).filter fun e=>decide (e ∈ b)).length+(((nxt n (o.getD i 0)).take k).filter fun p=>decide ((o.getD i 0,p) ∈ b)).length
theorem ads {n : zd} {o : List Int} {b : List (Int × Int)} {i k : Nat} (hk : k<(nxt n (o.getD i 0)).length) :
  xB n o b i (k+1)=xB n o b i k+(if (o.getD i 0,(nxt n (o.getD i 0))[k]) ∈ b then 1 else 0):=by
 rw [xB,xB,List.take_succ_eq_append_getElem hk,List.filter_append,List.length_append,Nat.add_assoc]
 congr 2
 by_cases h : (o.getD i 0,(nxt n (o.getD i 0))[k]) ∈ b
 ·rw [if_pos h,List.filter_cons_of_pos (by simpa using h)];rfl
 ·rw [if_neg h,List.filter_cons_of_neg (by simpa using h)];rfl
theorem aeo {n : zd} {o : List Int} {b : List (Int × Int)} {i : Nat} (hi : i<o.length) : xB n o b i (nxt n (o.getD i 0)).length=xB n o b (i+1) 0:=by
 rw [xB,xB,List.take_length,List.take_succ_eq_append_getElem hi,List.take_zero,List.filter_nil,List.length_nil,Nat.add_zero]
 have e : o.getD i 0=o[i]:=by rw [List.getD_eq_getElem?_getD,List.getElem?_eq_getElem hi];rfl
 rw [e,Zw,Zw,List.flatMap_append,List.filter_append,List.length_append]
 congr 1
 rw [List.flatMap_cons,List.flatMap_nil,List.append_nil,List.filter_map,List.length_map]
 rfl
theorem aep {n : zd} (hnd : ∀ q,(nxt n q).Nodup) {o : List Int} {b : List (Int × Int)} (h : jk n o b) : xB n o b o.length 0=b.length:=by
 rw [xB,List.take_length,Q0 hnd h];rfl
end Go.Proofs
end
section
namespace Go.Proofs
open Go.Sh Go.RowKit
set_option maxRecDepth 100000
set_option linter.unusedSimpArgs false
set_option linter.unusedVariables false
theorem aaD {u : UnD} {n a b : Int} {W : List Int} (h0 : fnE u n=0) : okW u n a b W=decide ((isN (netU u n) a∧isN (netU u n) b)∧∀ x ∈ W,isN (netU u n) x):=by
 rw [okW,h0,show decide ((0 : Int)≠0)=false from rfl,Bool.false_or]
 by_cases h1 : isN (netU u n) a∧isN (netU u n) b
 ·by_cases h2 : ∀ x ∈ W,isN (netU u n) x
  ·rw [decide_eq_true h2,decide_eq_true (show ∀ x ∈ [a,b],isN (netU u n) x by simpa using h1),decide_eq_true ⟨h1,h2⟩];rfl
  ·rw [decide_eq_false h2,decide_eq_false (show ¬ ((isN (netU u n) a∧isN (netU u n) b)∧∀ x ∈ W,isN (netU u n) x) from fun h=>h2 h.2)];simp
 ·rw [decide_eq_false (show ¬ ∀ x ∈ [a,b],isN (netU u n) x by simpa using h1),decide_eq_false (show ¬ ((isN (netU u n) a∧isN (netU u n) b)∧∀ x ∈ W,isN (netU u n) x) from fun h=>h1 h.1)];simp
end Go.Proofs
end
section
namespace Go.Proofs.YtmkfelgocedohaaGreat.flowWays
open Go.Sh Go.ChangeShapes Go.WideShapes Go.ChangeAt Go.RowKit openG
set_option maxRecDepth 100000
set_option linter.unusedVariables false
end Go.Proofs.YtmkfelgocedohaaGreat.flowWays
end
section
namespace Go.Proofs
open Go.Sh Go.RowKit
set_option maxRecDepth 100000
set_option linter.unusedSimpArgs false
set_option linter.unusedVariables false
set_option maxHeartbeats 4000000 in
theorem XC {u : UnD} {n q : Int} {v : Value} {w : World} {r : Gh} {K : Value→World→Prop} (hr : Holds r w) (hu : UnG r v u)
  (h : ∀ w',Ext w w'→K (.bool true) w') : ze Tryz.prog Tryz.jJ #[v,.int .i64 n,.int .i64 q] w K:=by
 refine Tryz.Y4 ?_
 unfold Tryz.jR
 have hu0:=hu
 obtain ⟨p0,cap0,vf,rfl,_,_,hst,hsl,hfn⟩:=hu
 obtain ⟨qf,capf,rfl,_,_⟩:=hfn.sl.shape
 have hfl : u.fs.length≤9223372036854775807:=hfn.few
 have S:=St.start hr
 refine S.box fun b4 w1 S=>?_
 have S : StX noX w r w1 [.cell b4 [.slice p0 u.ss.length cap0,.slice qf u.fs.length capf,.int .i64 u.mn] 25]:=S
 refine S.ldB (b:=b4) ?_ rfl
 refine vJ S.holds hu0 fun x w2 e2=>?_
 have S:=S.go e2
 refine gp_ ?_
 refine c_b (fun _=>z8 fun w3 e3=>h _ (S.go e3).ext) (fun _=>?_)
 refine S.ldB (b:=b4) ?_ rfl
 refine vH S.holds hu0 fun v7 s7 w7 e7 n7 h7=>?_
 obtain ⟨S,_,_⟩:=S.tell e7 n7
 cases hok : okQ u n q with
 |false=>
  rw [hok,if_neg (by decide)] at h7
  rw [if_neg (by decide)]
  obtain ⟨q7,c7,rfl,_,_⟩:=h7.shape
  refine gS_ ?_
  simp only [List.length_nil]
  refine gg_ ?_
  refine zF (c:=true) (fun _ K2 hK2=>z8 fun w8 e8=>hK2 _ e8) fun w8 e8=>?_
  have:=h _ (S.go e8).ext
  simpa using this
 |true=>
 rw [hok,if_pos rfl] at h7
 rw [if_pos rfl]
 obtain ⟨hE0,hqN⟩:=adj hok
 obtain ⟨bf,of,g,x1,x2,x3,x4,y1,y2,y3,y4,rfl,hgi,hnu,hF,hn0,hn1,hg,hfo⟩:=Qm hfn hE0
 have hfew:=hF.few
 have hgl:=yH (g:=g)
 have hpos:=hF.pos
 have i0 : isN (zg g) 0:=⟨Int.le_refl _,by omega⟩
 rw [hnu] at h7 hqN
 have hW : okW u n 0 q []=true:=by
  rw [aaD hE0,hnu,decide_eq_true ⟨⟨i0,hqN⟩,fun x hx=>by cases hx⟩]
 obtain ⟨q7,c7,rfl,_,_⟩:=h7.shape
 have haf:=abo (n:=zg g) (q:=q)
 refine gS_ ?_
 refine c_f (by simp) ?_
 refine S.ldB (b:=b4) ?_ rfl
 refine j4 S.holds hu0.up SlG.nil (by decide) fun v8 s8 w8 e8 n8 h8=>?_
 have S:=S.go e8
 rw [hW,if_pos rfl,hnu]
 refine gS_ ?_
 have hre : (true&&(xb (zg g) 0 q []).isSome)=decide (0<(abvL (zg g) q).length):=by
  rw [Bool.true_and,Bool.eq_iff_iff,decide_eq_true_eq,JI hqN,ZQ hF.ok Ya i0,Xt]
 rw [hre]
 refine zk (c:=false) (fun _ K2 hK2=>?_) ?_
 ·refine gg_ ?_
  have:=hK2
  simpa using this
 refine c_f (by simp) ?_
 refine gg_ ?_
 refine c_b (fun hb=>z8 fun w9 e9=>h _ (S.go e9).ext) (fun hb=>?_)
 have hrq : Rchd (zg g) zr 0 q:=(JI hqN).1 (by simpa using hb)
 refine zh (ι:=Nat) (fun i=>[.int .i64 (i : Nat)]) (fun i w'=>i≤g.pts.length∧StX noX w (r.or s7) w' _) (fun i=>g.pts.length - i) 0 rfl ⟨Nat.zero_le _,S⟩ ?_
 repeat clear S
 rintro i d w10 ⟨hi,S⟩ K10 hK10
 rw [List.getD_cons_zero]
 refine gg_ ?_
 refine zj (S.at (hfo 6 _ rfl)) ?_
 refine gg_ ?_
 refine zm (fun hlt=>?_) (fun hge=>?_)
 ·have hlt : i<g.pts.length:=by omega
  have hiN : isN (zg g) (i : Nat):=⟨by omega,by omega⟩
  have hW1 : okW u n 0 q [(i : Int)]=true:=by
   rw [aaD hE0,hnu,decide_eq_true ⟨⟨i0,hqN⟩,fun x hx=>by rw [List.mem_singleton.1 hx];exact hiN⟩]
  refine S.ldB (b:=b4) ?_ rfl
  refine S.lit (e:=3) (cs:=[.int .i64 (i : Nat)]) (by kernel_rfl) fun b11 w11 S=>?_
  obtain ⟨S,h11,_⟩:=S.litNew b11 (sz:=1) (R:=zu) (l:=[(i : Int)]) (zG rfl rfl) (by decide)
  refine j4 S.holds hu0.up h11.cells (by simp) fun v12 s12 w12 e12 n12 h12=>?_
  have S:=S.go e12
  rw [hW1,if_pos rfl,hnu,Bool.true_and]
  refine gS_ ?_
  have hin:=afV hF.ok Ya (q:=q) hpos hrq hiN
  generalize (xb (zg g) 0 q [(i : Int)]).isSome=ok at hin
  have S:=S.to (r.or s7)
  refine zs (fun s w'=>s = [.bool (decide ((i : Int) ∈ abvL (zg g) q)),.bool (!ok)]∧w'=w12) (fun K2 hK2=>?_) ?_
  ·refine g_FF ?_
   refine kx S.holds h7.cells (by omega) ?_
   refine gp_ ?_
   exact hK2 _ _ ⟨rfl,rfl⟩
  rintro _ w13 ⟨rfl,rfl⟩ d2
  simp only [List.getD_cons_zero,List.getD_cons_succ]
  rw [hin]
  have fin : ∀ {c : Bool},c=false→zc (.bool c) (K (.bool false) w13) (Tryz.bt .add 3 (.int .i64 (i : Nat)) (.int .i64 1) fun t67=>K10 [t67] w13):=fun e=>by
   refine c_f e ?_
   refine gg_ ?_
   exact hK10 (i+1) _ ⟨hlt,S⟩ (by omega)
  cases ok with
  |false=>
   rw [show decide ((0 : Int)≠0)=false from rfl,Bool.not_false]
   (intro K9 hK9;refine gd_ ?_;refine hK9 _ _ fun _=>?_;clear hK9 K9)
   (intro K9 hK9;refine gd_ ?_;refine hK9 _ _ fun _=>?_;clear hK9 K9)
   (intro K9 hK9;refine gd_ ?_;refine hK9 _ _ fun _=>?_;clear hK9 K9)
   (intro K9 hK9;refine gd_ ?_;refine hK9 _ _ fun _=>?_;clear hK9 K9)
   refine gd_ ?_
   exact fin (by simp)
  |true=>
   rw [show decide ((0 : Int)≠0)=false from rfl,Bool.not_true]
   by_cases hpq : (i : Int)=q
   ·rw [decide_eq_true hpq]
    (intro K9 hK9;refine gd_ ?_;refine hK9 _ _ fun _=>?_;clear hK9 K9)
    rw [decide_eq_true hpq]
    (intro K9 hK9;refine gd_ ?_;refine hK9 _ _ fun _=>?_;clear hK9 K9)
    (intro K9 hK9;refine gd_ ?_;refine hK9 _ _ fun _=>?_;clear hK9 K9)
    (intro K9 hK9;refine gd_ ?_;refine hK9 _ _ fun _=>?_;clear hK9 K9)
    refine gd_ ?_
    exact fin (by simp)
   ·rw [decide_eq_false hpq]
    (intro K9 hK9;refine gd_ ?_;refine hK9 _ _ fun _=>?_;clear hK9 K9)
    rw [decide_eq_false hpq]
    (intro K9 hK9;refine gd_ ?_;refine hK9 _ _ fun _=>?_;clear hK9 K9)
    (intro K9 hK9;refine gd_ ?_;refine hK9 _ _ fun _=>?_;clear hK9 K9)
    (intro K9 hK9;refine gd_ ?_;refine hK9 _ _ fun _=>?_;clear hK9 K9)
    refine gd_ ?_
    exact fin (by simp)
 have hie : i=g.pts.length:=by omega
 clear hK10 K10 d hge
 refine S.ldB (b:=b4) ?_ rfl
 refine Y3 S.holds hu0.up fun v14 s14 w14 e14 n14 h14=>?_
 rw [if_pos hE0,hnu] at h14
 rw [hE0]
 obtain ⟨S,_,_⟩:=S.tell e14 n14
 have hrl : ((List.range (zg g).length).map fun i=>yg (zg g) (i : Nat)).length=(zg g).length:=by simp
 have hrg : ∀ p,isN (zg g) p→∀ hp : p.toNat<((List.range (zg g).length).map fun i=>yg (zg g) (i : Nat)).length,((List.range (zg g).length).map fun i=>yg (zg g) (i : Nat))[p.toNat]=yg (zg g) p:=fun p hp hl=>by
  have:=hp.1
  rw [List.getElem_map,List.getElem_range,show ((p.toNat : Nat) : Int)=p by omega]
 generalize ((List.range (zg g).length).map fun i=>yg (zg g) (i : Nat))=rl at h14 hrl hrg
 obtain ⟨q14,c14,rfl,_,_⟩:=h14.shape
 refine gS_ ?_
 refine c_f (by simp) ?_
 refine zh (ι:=Int × Nat) (fun i=>[.int .i64 (i.2 : Nat),.int .i64 i.1]) (fun i w'=>Chn (zg g) q i.1 i.2∧i.2≤(abvL (zg g) q).length∧StX noX w ((r.or s7).or s14) w' _) (fun i=>(abvL (zg g) q).length - i.2) (q,0) rfl ⟨Chn.start hqN hrq,Nat.zero_le _,S⟩ ?_
 repeat clear S
 rintro ⟨p,k⟩ d w15 ⟨hch,hkl,S⟩ K15 hK15
 simp only at hch hkl S ⊢
 simp only [List.getD_cons_zero,List.getD_cons_succ]
 refine gg_ ?_
 refine zm (fun hp0=>?_) (fun hp0=>?_)
 ·obtain ⟨hpA,hpN,hkA,hnx⟩:=hch.go hpos hp0
  refine kx S.holds h7.cells (by omega) ?_
  rw [decide_eq_true hpA]
  refine gp_ ?_
  refine zk (c:=decide (((abvL (zg g) q).length : Int)<k)) (fun _ K2 hK2=>by refine gg_ ?_;exact hK2) ?_
  refine zk (c:=decide ((rl.length : Int)≤p)) (fun _ K2 hK2=>by refine gg_ ?_;exact hK2) ?_
  have p1:=hpN.2
  refine c_f (by simp;omega) ?_
  refine gg_ ?_
  obtain ⟨br,or',hpr,_,gr⟩:=zw h14 (i:=p.toNat) (by omega)
  cases hpr
  rw [hrg p hpN (by omega)] at gr
  refine gg_ ?_
  refine zj (S.at gr) ?_
  exact hK15 (yg (zg g) p,k+1) _ ⟨hnx,by omega,S⟩ (by show (abvL (zg g) q).length - (k+1)<(abvL (zg g) q).length - k;omega)
 ·have hk:=hch.end hp0
  refine gg_ ?_
  refine zF (c:=true) (fun _ K2 hK2=>z8 fun w8 e8=>hK2 _ e8) fun w8 e8=>?_
  have:=h _ (S.go e8).ext
  simpa [hk] using this
end Go.Proofs
end
section
namespace Go.Proofs.YtmkfelgocedohaaGreat.flowAbove
open Go.Sh Go.ChangeShapes Go.WideShapes Go.ChangeAt Go.RowKit openG
set_option maxRecDepth 100000
set_option linter.unusedVariables false
theorem vL (H : Type) (enc : TypeId × Value→H) (W : World) (base : Nat) (args : Array Value) (ds gs : List (DataW H)) (before : List MemPlace)
  (hval : ∀ (j : Nat) t v,Tryz.f6.params[j]? = some t→args[j]? = some v→Value.okWide Tryz.prog W .any base t v)
  (hW : DataW.Whole enc Tryz.prog Tryz.f6.params.toList Rows.flowAboveSpec.vars false W args.toList ds gs before) :
  Calls Tryz.prog 6 args W fun e W'=>∃ v,e = .returned v∧Rows.flowAboveSpec.post enc Tryz.prog Tryz.f6 false true false false W args v W':=by
 have hW':=hW
 obtain ⟨p,q,hA,hV,rfl,hfz,hnd⟩:=hW
 rw [show Tryz.f6.params.toList = [25,3,3] by kernel_rfl] at hA
 obtain ⟨v0,vs0,d0,ds0,p0,q100,hargs,rfl,rfl,h0,r0⟩:=trodAll_cons hA
 obtain ⟨v1,vs1,d1,ds1,p1,q101,rfl,rfl,rfl,h1,r1⟩:=trodAll_cons r0
 obtain ⟨v2,vs2,d2,ds2,p2,q102,rfl,rfl,rfl,h2,r2⟩:=trodAll_cons r1
 obtain ⟨rfl,rfl,rfl⟩:=trodAll_nil r2
 obtain rfl : args=#[v0,v1,v2]:=by cases args;simp_all
 obtain ⟨rfl,rfl⟩:=trodVars_none hV
 obtain ⟨u0,hu0⟩:=JG (hval 0 25 v0 (by kernel_rfl) rfl) h0
 obtain ⟨n1,rfl,hi1⟩:=vK (hval 1 3 v1 (by kernel_rfl) rfl) h1
 obtain ⟨n2,rfl,hi2⟩:=vK (hval 2 3 v2 (by kernel_rfl) rfl) h2
 refine Calls.mono (XC (K:=fun v W'=>v = .bool true∧Ext W W') (Yu W) hu0 fun w' e=>⟨rfl,e⟩) ?_
 rintro e W' ⟨v,he,rfl,hE⟩
 exact ⟨_,he,YG JF ab2 aeg (by rw [show Tryz.f6.params.toList = [25,3,3] by kernel_rfl];decide) rfl (by kernel_rfl) Q4 hW' rfl hE⟩
def wit : Array Value:=#[.agg #[.slice none 0 0,.slice none 0 0,.int .i64 0],.int .i64 0,.int .i64 0]
theorem Q5 (os : Os) {H : Type} (enc : TypeId × Value→H) : ∃ ds places,DataW.whole enc Tryz.prog ((y6 os).forCall (fun _ _=>0) ⟨#[],wit,[]⟩).memory Tryz.f6.params.toList Rows.flowAboveSpec.vars false wit.toList 8=some (ds,[],places):=
 ⟨[.agg [.nil,.nil,.lit (.int .i64 0)],.lit (.int .i64 0),.lit (.int .i64 0)],[],by kernel_rfl⟩
theorem vM (os : Os) : laidMet Tryz.prog Rows.flowAboveRow.laid ((y6 os).forCall (fun _ _=>0) ⟨#[],wit,[]⟩).memory:=
 laidMet_of_run' 8 (by kernel_rfl) (by kernel_rfl)
theorem Xc (os : Os) (started : os.Started) (H : Type) (enc : TypeId × Value→H) (F : Stop.Interp) :
  ReturnsInHanded {} Tryz.checked os 6 .any ((OpenSpec.ofChange Rows.flowAboveSpec).preRow enc Tryz.prog Tryz.f6 Rows.flowAboveRow.domain false Rows.flowAboveRow.laid) (((OpenSpec.ofChange Rows.flowAboveSpec).at F).post enc Tryz.prog Tryz.f6 false true false false):=by
 obtain ⟨ds,places,hx⟩:=Q5 os enc
 refine returnsInHanded_of_row (C:=Tryz.checked) (s:=OpenSpec.ofChange Rows.flowAboveSpec) own started (by kernel_rfl) Tryz.func6
  (witness_row_at (enc:=enc) (C:=Tryz.checked) false (y6 os) wit rfl (by kernel_rfl) (by kernel_rfl) (by kernel_rfl)
   (OpenSpec.preRow_of_cond 8 hx (by kernel_rfl) (fun k hk=>by cases hk) (by kernel_rfl) (vM os))) ?_
 intro W base args ds gs before hval hW _ _ _ hL _ _
 exact vL H enc W base args ds gs before hval hW
theorem said : Rows.FlowAboveSaid:=
 OpenClaim.holds_of_cond 6 Tryz.f6 rfl rfl rfl rfl rfl rfl rfl ⟨rfl,rfl,rfl,rfl,rfl⟩ rfl rfl rfl rfl rfl (by kernel_rfl) Tryz.func6 (by kernel_rfl)
  (of_decide_eq_true (by kernel_rfl)) (by unfold Func.isWrapper;first|(rw [if_pos (by decide +kernel)];kernel_rfl)|(rw [if_neg (by decide +kernel)];exact ⟨rfl,rfl⟩))
  (fun os started H enc _ F=>by rw [OpenClaim.pre_eq_preRow];exact Xc os started H enc F)
end Go.Proofs.YtmkfelgocedohaaGreat.flowAbove
end
section
namespace Go.Proofs
open Go.Sh Go.RowKit
set_option maxRecDepth 100000
set_option linter.unusedSimpArgs false
set_option linter.unusedVariables false
theorem adt {u : UnD} {n x : Int} (h0 : fnE u n=0) (hx : isN (netU u n) x) : ptE u n x=0∧Zh u n x=nxt (netU u n) x:=by
 obtain ⟨hlt,he,hF⟩:=zE h0
 have hp : ptE u n x=0:=by
  rw [ptE,aef,if_pos ⟨h0,hx.1,hx.2⟩]
 refine ⟨hp,?_⟩
 rw [Zh,if_pos hp,aaj,List.getElem?_eq_getElem hlt,Option.bind_some]
 rw [he] at hx ⊢
 have x0:=hx.1;have x1:=hx.2
 rw [yH] at x1
 rw [List.getElem?_eq_getElem (by omega),aeR hx]
theorem abs {n : zd} {s x : Int} : x ∈ mkd (y7 n zr s)↔isN n x∧Rchd n zr s x:=by
 rw [Zx]
 constructor
 ·rintro ⟨h1,h2⟩
  have hx : isN n x:=⟨h1,by have:=abu h2;rw [qO] at this;omega⟩
  exact ⟨hx,(kY hx).1 h2⟩
 ·rintro ⟨h1,h2⟩;exact ⟨h1.1,(kY h1).2 h2⟩
theorem qi {l : List Int} {x : Int} (h : x.toNat<l.length) : (ints l)[0+x.toNat]? = some (.int .i64 (l.getD x.toNat 0)):=by
 rw [Nat.zero_add,ints,List.getElem?_map,List.getD_eq_getElem?_getD,List.getElem?_eq_getElem h];rfl
theorem Xd {l : List Int} {i : Nat} {x : Int} : (ints l).set i (.int .i64 x)=ints (l.set i x):=by rw [ints,ints,List.map_set]
theorem adu {n : zd} (hn : zM n) {q p : Int} {w : List Int} (hq : isN n q) (h : xb n q p []=some w) : ∃ hl : 0<w.length,w[0]=q∧w[w.length - 1]=p∧isW n w=(0,true):=by
 obtain ⟨r,rfl,hr⟩:=(xt.1 h).1
 obtain ⟨h1,h2,h3⟩:=Pth.edges hn hq hr
 refine ⟨by simp,rfl,?_,?_⟩
 ·rw [← h3,List.getLast_eq_getElem]
 ·rw [aav fun j hj=>?_]
  ·simp
  ·have hj' : j<(q::r).length:=hj
   have e1 : (q::r).getD j 0=(q::r)[j]:=by rw [List.getD_eq_getElem?_getD,List.getElem?_eq_getElem hj'];rfl
   rw [vI,e1,decide_eq_true (h1 _ (List.getElem_mem hj'))]
   cases j with
   |zero=>rfl
   |succ j=>
    have h4:=h2 j (by simpa using hj')
    have e2 : r.getD j 0=(q::r)[j+1]:=by
     rw [List.getD_eq_getElem?_getD,List.getElem?_eq_getElem (by simpa using hj')];rfl
    rw [e2] at h4
    rw [show j+1 - 1=j from rfl,decide_eq_true h4]
    simp
set_option maxHeartbeats 4000000 in
theorem XD {u : UnD} {n q : Int} {v : Value} {w : World} {r : Gh} {K : Value→World→Prop} (hr : Holds r w) (hu : UnG r v u)
  (h : ∀ w',Ext w w'→K (.bool true) w') : ze Tryz.prog Tryz.jK #[v,.int .i64 n,.int .i64 q] w K:=by
 refine Tryz.Y5 ?_
 unfold Tryz.jS
 have hu0:=hu
 obtain ⟨p0,cap0,vf,rfl,_,_,hst,hsl,hfn⟩:=hu
 obtain ⟨qf,capf,rfl,_,_⟩:=hfn.sl.shape
 have hfl : u.fs.length≤9223372036854775807:=hfn.few
 have S:=St.start hr
 refine S.box fun b4 w1 S=>?_
 have S : StX noX w r w1 [.cell b4 [.slice p0 u.ss.length cap0,.slice qf u.fs.length capf,.int .i64 u.mn] 25]:=S
 refine S.ldB (b:=b4) ?_ rfl
 refine vJ S.holds hu0 fun x w2 e2=>?_
 have S:=S.go e2
 refine gp_ ?_
 refine c_b (fun _=>z8 fun w3 e3=>h _ (S.go e3).ext) (fun _=>?_)
 refine S.ldB (b:=b4) ?_ rfl
 refine vF S.holds hu0 fun v7 s7 w7 e7 n7 h7=>?_
 obtain ⟨S,_,_⟩:=S.tell e7 n7
 cases hok : okQ u n q with
 |false=>
  rw [hok,if_neg (by decide)] at h7
  rw [if_neg (by decide)]
  obtain ⟨q7,c7,rfl,_,_⟩:=h7.shape
  refine gS_ ?_
  simp only [List.length_nil]
  refine gg_ ?_
  refine zi (c:=true) (fun _ K2 hK2=>by refine gg_ ?_;exact hK2) ?_
  refine zF (c:=true) (fun _ K2 hK2=>z8 fun w8 e8=>hK2 _ e8) fun w8 e8=>?_
  have:=h _ (S.go e8).ext
  simpa using this
 |true=>
 rw [hok,if_pos rfl] at h7
 rw [if_pos rfl]
 obtain ⟨hE0,hqN⟩:=adj hok
 obtain ⟨bf,of,g,x1,x2,x3,x4,y1,y2,y3,y4,rfl,hgi,hnu,hF,hn0,hn1,hg,hfo⟩:=Qm hfn hE0
 have hfew:=hF.few
 have hgl:=yH (g:=g)
 have hpos:=hF.pos
 have hpn:=fun x=>adt (x:=x) hE0
 rw [hnu] at h7 hqN hpn
 have q0:=hqN.1;have q1:=hqN.2
 have hLm : ∀ x,x ∈ mkd (y7 (zg g) zr q)↔isN (zg g) x∧Rchd (zg g) zr q x:=fun x=>abs
 have hLf : (mkd (y7 (zg g) zr q)).length≤(zg g).length:=by have:=aff (m:=y7 (zg g) zr q);rwa [qO] at this
 generalize mkd (y7 (zg g) zr q)=L at h7 hLm hLf
 obtain ⟨q7,c7,rfl,_,_⟩:=h7.shape
 have hin : ∀ x ∈ L,0≤x∧x<(g.pts.length : Int):=fun x hx=>by rw [← hgl];exact ((hLm x).1 hx).1
 refine gS_ ?_
 refine gg_ ?_
 refine zj (S.at (hfo 6 _ rfl)) ?_
 refine gg_ ?_
 refine kx S.holds h7.cells (by omega) ?_
 rw [decide_eq_true ((hLm q).2 ⟨hqN,.base⟩)]
 refine gp_ ?_
 refine zk (c:=false) (fun _ K2 hK2=>?_) ?_
 ·refine xo S.holds h7.cells (by omega) ?_
  rw [decide_eq_true hin]
  refine gp_ ?_
  exact hK2
 refine c_f (by simp) ?_
 refine gg_ ?_
 refine zj (S.at (hfo 6 _ rfl)) ?_
 refine gg_ ?_
 refine S.mkS (by omega) (by omega) fun b20 w20 S=>?_
 rw [Int.toNat_natCast] at S ⊢
 rw [← hgl] at S ⊢
 have e0 : List.replicate (zg g).length (Value.int .i64 0)=ints (List.replicate (zg g).length 0):=by simp [ints]
 rw [e0] at S
 refine gg_ ?_
 refine S.st (b:=b20) (fun w21 S=>?_) (by rw [yz,List.length_replicate];omega)
 rw [Nat.zero_add,Xd,adm hqN] at S
 have S : StX noX w (r.or s7) w21 [.cell b20 (ints (xp (zg g) q 0)) 3,.cell b4 [.slice p0 u.ss.length cap0,.slice (some ⟨bf,of,none⟩) u.fs.length capf,.int .i64 u.mn] 25]:=S
 refine zh (ι:=Nat) (fun i=>[.int .i64 (i : Nat)]) (fun i w'=>i≤L.length∧StX noX w (r.or s7) w' [.cell b20 (ints (xp (zg g) q 0)) 3,.cell b4 [.slice p0 u.ss.length cap0,.slice (some ⟨bf,of,none⟩) u.fs.length capf,.int .i64 u.mn] 25]) (fun i=>L.length - i) 0 rfl ⟨Nat.zero_le _,S⟩ ?_
 repeat clear S
 rintro i d w22 ⟨hi,S⟩ K22 hK22
 rw [List.getD_cons_zero]
 refine gg_ ?_
 refine zm (fun hlt=>?_) (fun hge=>?_)
 ·have hlt : i<L.length:=by omega
  have S:=S.go (Ext.drew _)
  obtain ⟨b7,o7,hp7,_,g7⟩:=zw h7 hlt
  have hxN:=((hLm _).1 (List.getElem_mem hlt))
  refine S.ldB (b:=b4) ?_ rfl
  cases hp7
  refine gg_ ?_
  refine zj (by rw [Int.toNat_natCast];exact S.at g7) ?_
  refine vA S.holds hu0.up fun v8 s8 w23 e8 n8 h8=>?_
  obtain ⟨T,_,_⟩:=S.tell e8 n8
  repeat clear S
  rw [(hpn _ hxN.1).2] at h8
  rw [(hpn _ hxN.1).1]
  have hnx : ∀ y ∈ nxt (zg g) L[i],y ∈ L:=fun y hy=>(hLm y).2 ⟨zR hF.ok hy,.step hxN.2 (.inr id) hy⟩
  have hn2:=ZP hF.nar L[i]
  generalize nxt (zg g) L[i]=nx at h8 hnx hn2
  obtain ⟨p8,c8,rfl,_,_⟩:=h8.shape
  have S:=T
  clear T
  refine gS_ ?_
  refine c_f (by simp) ?_
  refine zh (ι:=Nat) (fun k=>[.int .i64 (k : Nat)]) (fun k w'=>k≤nx.length∧StX noX w ((r.or s7).or s8) w' [.cell b20 (ints (xp (zg g) q 0)) 3,.cell b4 [.slice p0 u.ss.length cap0,.slice (some ⟨bf,of,none⟩) u.fs.length capf,.int .i64 u.mn] 25]) (fun k=>nx.length - k) 0 rfl ⟨Nat.zero_le _,S⟩ ?_
  repeat clear S
  rintro k d w24 ⟨hk,S⟩ K24 hK24
  rw [List.getD_cons_zero]
  refine gg_ ?_
  refine zm (fun hltk=>?_) (fun hgek=>?_)
  ·have hltk : k<nx.length:=by omega
   obtain ⟨b8,o8,hp8,_,g8⟩:=zw h8 hltk
   cases hp8
   refine gg_ ?_
   refine zj (by rw [Int.toNat_natCast];exact S.at g8) ?_
   refine kx S.holds h7.cells (by omega) ?_
   rw [decide_eq_true (hnx _ (List.getElem_mem hltk))]
   refine gp_ ?_
   refine zk (c:=false) (fun _ K2 hK2=>?_) ?_
   ·refine xo S.holds h8.cells (by omega) ?_
    rw [decide_eq_true fun y hy=>by rw [hgl];exact hin y (hnx y hy)]
    refine gp_ ?_
    exact hK2
   refine c_f (by simp) ?_
   refine gg_ ?_
   exact hK24 (k+1) _ ⟨hltk,S⟩ (by omega)
  ·refine gg_ ?_
   exact hK22 (i+1) _ ⟨hlt,S.to _⟩ (by omega)
 clear hK22 K22 d hge hi
 refine zh (ι:=Nat) (fun i=>[.int .i64 (i : Nat)]) (fun i w'=>i≤g.pts.length∧StX noX w (r.or s7) w' [.cell b20 (ints (xp (zg g) q i)) 3,.cell b4 [.slice p0 u.ss.length cap0,.slice (some ⟨bf,of,none⟩) u.fs.length capf,.int .i64 u.mn] 25]) (fun i=>g.pts.length - i) 0 rfl ⟨Nat.zero_le _,S⟩ ?_
 repeat clear S
 rintro i d w40 ⟨hi,S⟩ K37 hK37
 rw [List.getD_cons_zero]
 refine gg_ ?_
 refine zj (S.at (hfo 6 _ rfl)) ?_
 refine gg_ ?_
 refine zm (fun hlt=>?_) (fun hge=>?_)
 ·have hlt : i<g.pts.length:=by omega
  have hiN : isN (zg g) (i : Nat):=⟨by omega,by omega⟩
  have hW : okW u n q (i : Nat) []=true:=by
   rw [aaD hE0,hnu,decide_eq_true ⟨⟨hqN,hiN⟩,fun x hx=>by cases hx⟩]
  refine zs (fun _ w'=>StX noX w (r.or s7) w' [.cell b20 (ints (xp (zg g) q (i+1))) 3,.cell b4 [.slice p0 u.ss.length cap0,.slice (some ⟨bf,of,none⟩) u.fs.length capf,.int .i64 u.mn] 25]) (fun K41 hK41=>?_) ?_
  ·refine S.ldB (b:=b4) ?_ rfl
   refine j4 S.holds hu0.up SlG.nil (by decide) fun v8 s8 w8 e8 n8 h8=>?_
   obtain ⟨T,_,_⟩:=S.tell e8 n8
   repeat clear S
   have S:=T
   clear T
   rw [hW,if_pos rfl,hnu] at h8
   rw [hW,if_pos rfl,hnu,Bool.true_and]
   have hiL : (xb (zg g) q (i : Nat) []).isSome=decide ((i : Int) ∈ L):=by
    rw [Bool.eq_iff_iff,decide_eq_true_eq,ZQ hF.ok Ya hqN,Xt,hLm]
    exact ⟨fun h=>⟨hiN,h⟩,fun h=>h.2⟩
   refine gS_ ?_
   refine zk (c:=false) (fun _ K2 hK2=>?_) ?_
   ·refine kx S.holds h7.cells (by omega) ?_
    rw [← hiL]
    refine gg_ ?_
    have:=hK2
    simpa using this
   refine c_f (by simp) ?_
   have hlen : lenE (zg g) q (i : Nat)=((xb (zg g) q (i : Nat) []).getD []).length:=rfl
   have hwf:=abp hF.ok Ya (W:=[]) (t:=(i : Int)) hqN
   cases hw : xb (zg g) q (i : Nat) [] with
   |none=>
    rw [hw] at hlen
    rw [adn (by omega) hlen] at hK41
    refine gp_ ?_
    refine c_t rfl ?_
    exact hK41 _ _ (S.to _)
   |some wy=>
    rw [hw] at h8 hlen hwf
    have h8 : SlG 1 s8 zu v8 wy:=h8
    have hlen : lenE (zg g) q (i : Nat)=wy.length:=hlen
    have hwf : wy.length≤(zg g).length:=hwf
    obtain ⟨hl0,hw0,hwl,hwI⟩:=adu hF.ok hqN hw
    obtain ⟨p8,c8,rfl,_,_⟩:=h8.shape
    obtain ⟨b8,o8,rfl,_,g8⟩:=zw h8 hl0
    obtain ⟨b8',o8',hp8,_,g8'⟩:=zw h8 (i:=wy.length - 1) (by omega)
    cases hp8
    rw [hw0] at g8
    rw [hwl] at g8'
    refine gp_ ?_
    refine c_f rfl ?_
    refine S.ldB (b:=b4) ?_ rfl
    refine J7 S.holds hu0.up h8.cells (by omega) fun w9 e9=>?_
    have S:=S.go e9
    rw [if_pos hE0,hnu,hwI]
    refine gS_ ?_
    refine zk (c:=false) (fun _ K2 hK2=>by refine gg_ ?_;exact hK2) ?_
    refine zk (c:=false) (fun _ K2 hK2=>by refine gg_ ?_;exact hK2) ?_
    refine zk (c:=false) (fun _ K2 hK2=>?_) ?_
    ·refine gg_ ?_
     rw [decide_eq_false (show ¬ (wy.length : Int)=0 by omega)]
     exact hK2
    refine zk (c:=false) (fun _ K2 hK2=>?_) ?_
    ·refine gg_ ?_
     refine zj (v:=.int .i64 q) (by simpa using S.at g8) ?_
     refine gg_ ?_
     have:=hK2
     simpa using this
    refine zk (c:=false) (fun _ K2 hK2=>?_) ?_
    ·refine gg_ ?_
     refine zj (v:=.int .i64 (i : Nat)) (by rw [show ((wy.length : Int) - 1).toNat=wy.length - 1 by omega];exact S.at g8') ?_
     refine gg_ ?_
     have:=hK2
     simpa using this
    refine c_f (by simp) ?_
    refine gg_ ?_
    refine S.st (b:=b20) (fun w21 S=>?_) (by rw [yz,kX];omega)
    rw [Int.toNat_natCast,Nat.zero_add,Xd,← hlen,← J9 (by omega)] at S
    exact hK41 _ _ (S.to _)
  rintro _ w44 S d
  refine gg_ ?_
  exact hK37 (i+1) _ ⟨hlt,S⟩ (by omega)
 have hie : i=(zg g).length:=by omega
 clear hK37 K37 d hge hi
 subst hie
 refine zh (ι:=Nat) (fun i=>[.int .i64 (i : Nat)]) (fun i w'=>i≤L.length∧StX noX w (r.or s7) w' [.cell b20 (ints (xp (zg g) q (zg g).length)) 3,.cell b4 [.slice p0 u.ss.length cap0,.slice (some ⟨bf,of,none⟩) u.fs.length capf,.int .i64 u.mn] 25]) (fun i=>L.length - i) 0 rfl ⟨Nat.zero_le _,S⟩ ?_
 repeat clear S
 rintro i d w22 ⟨hi,S⟩ K22 hK22
 rw [List.getD_cons_zero]
 refine gg_ ?_
 refine zm (fun hlt=>?_) (fun hge=>z8 fun w8 e8=>h _ (S.go e8).ext)
 have hlt : i<L.length:=by omega
 have S:=S.go (Ext.drew _)
 obtain ⟨b7,o7,hp7,_,g7⟩:=zw h7 hlt
 have hxN:=((hLm _).1 (List.getElem_mem hlt))
 refine S.ldB (b:=b4) ?_ rfl
 cases hp7
 refine gg_ ?_
 refine zj (by rw [Int.toNat_natCast];exact S.at g7) ?_
 refine vA S.holds hu0.up fun v8 s8 w23 e8 n8 h8=>?_
 obtain ⟨T,_,_⟩:=S.tell e8 n8
 repeat clear S
 rw [(hpn _ hxN.1).2] at h8
 have hnx : ∀ y ∈ nxt (zg g) L[i],isN (zg g) y∧lenE (zg g) q y≤lenE (zg g) q L[i]+1:=fun y hy=>⟨zR hF.ok hy,aej hF.ok Ya hqN hxN.2 hy⟩
 have hn2:=ZP hF.nar L[i]
 have hxf : lenE (zg g) q L[i]≤(zg g).length:=abp hF.ok Ya (W:=[]) (t:=L[i]) hqN
 generalize L[i]=x at *
 generalize nxt (zg g) x=nx at h8 hnx hn2
 obtain ⟨p8,c8,rfl,_,_⟩:=h8.shape
 have S:=T
 clear T
 refine gS_ ?_
 refine zh (ι:=Nat) (fun k=>[.int .i64 (k : Nat)]) (fun k w'=>k≤nx.length∧StX noX w ((r.or s7).or s8) w' [.cell b20 (ints (xp (zg g) q (zg g).length)) 3,.cell b4 [.slice p0 u.ss.length cap0,.slice (some ⟨bf,of,none⟩) u.fs.length capf,.int .i64 u.mn] 25]) (fun k=>nx.length - k) 0 rfl ⟨Nat.zero_le _,S⟩ ?_
 repeat clear S
 rintro k d w24 ⟨hk,S⟩ K24 hK24
 rw [List.getD_cons_zero]
 refine gg_ ?_
 refine zm (fun hltk=>?_) (fun hgek=>?_)
 ·have hltk : k<nx.length:=by omega
  have S:=S.go (Ext.drew _)
  obtain ⟨b8,o8,hp8,_,g8⟩:=zw h8 hltk
  cases hp8
  obtain ⟨hyN,hyl⟩:=hnx _ (List.getElem_mem hltk)
  generalize nx[k]=y at *
  have y0:=hyN.1;have y1:=hyN.2
  have x0:=hxN.1.1;have x1:=hxN.1.2
  refine gg_ ?_
  refine zj (by rw [Int.toNat_natCast];exact S.at g8) ?_
  refine gg_ ?_
  refine S.ld (b:=b20) ?_ (qi (by rw [kX];omega))
  rw [abq hyN]
  refine gg_ ?_
  refine zj (by rw [Int.toNat_natCast];exact S.at g7) ?_
  refine gg_ ?_
  refine S.ld (b:=b20) ?_ (qi (by rw [kX];omega))
  rw [abq hxN.1]
  refine gg_ ?_
  refine c_f (by simp;omega) ?_
  refine gg_ ?_
  exact hK24 (k+1) _ ⟨hltk,S⟩ (by omega)
 ·refine gg_ ?_
  exact hK22 (i+1) _ ⟨hlt,S.to _⟩ (by omega)
end Go.Proofs
end
section
namespace Go.Proofs.YtmkfelgocedohaaGreat.flowReach
open Go.Sh Go.ChangeShapes Go.WideShapes Go.ChangeAt Go.RowKit openG
set_option maxRecDepth 100000
set_option linter.unusedVariables false
theorem vL (H : Type) (enc : TypeId × Value→H) (W : World) (base : Nat) (args : Array Value) (ds gs : List (DataW H)) (before : List MemPlace)
  (hval : ∀ (j : Nat) t v,Tryz.f9.params[j]? = some t→args[j]? = some v→Value.okWide Tryz.prog W .any base t v)
  (hW : DataW.Whole enc Tryz.prog Tryz.f9.params.toList Rows.flowReachSpec.vars false W args.toList ds gs before) :
  Calls Tryz.prog 9 args W fun e W'=>∃ v,e = .returned v∧Rows.flowReachSpec.post enc Tryz.prog Tryz.f9 false true false false W args v W':=by
 have hW':=hW
 obtain ⟨p,q,hA,hV,rfl,hfz,hnd⟩:=hW
 rw [show Tryz.f9.params.toList = [25,3,3] by kernel_rfl] at hA
 obtain ⟨v0,vs0,d0,ds0,p0,q100,hargs,rfl,rfl,h0,r0⟩:=trodAll_cons hA
 obtain ⟨v1,vs1,d1,ds1,p1,q101,rfl,rfl,rfl,h1,r1⟩:=trodAll_cons r0
 obtain ⟨v2,vs2,d2,ds2,p2,q102,rfl,rfl,rfl,h2,r2⟩:=trodAll_cons r1
 obtain ⟨rfl,rfl,rfl⟩:=trodAll_nil r2
 obtain rfl : args=#[v0,v1,v2]:=by cases args;simp_all
 obtain ⟨rfl,rfl⟩:=trodVars_none hV
 obtain ⟨u0,hu0⟩:=JG (hval 0 25 v0 (by kernel_rfl) rfl) h0
 obtain ⟨n1,rfl,hi1⟩:=vK (hval 1 3 v1 (by kernel_rfl) rfl) h1
 obtain ⟨n2,rfl,hi2⟩:=vK (hval 2 3 v2 (by kernel_rfl) rfl) h2
 refine Calls.mono (XD (K:=fun v W'=>v = .bool true∧Ext W W') (Yu W) hu0 fun w' e=>⟨rfl,e⟩) ?_
 rintro e W' ⟨v,he,rfl,hE⟩
 exact ⟨_,he,YG JF ab2 aeg (by rw [show Tryz.f9.params.toList = [25,3,3] by kernel_rfl];decide) rfl (by kernel_rfl) Q4 hW' rfl hE⟩
def wit : Array Value:=#[.agg #[.slice none 0 0,.slice none 0 0,.int .i64 0],.int .i64 0,.int .i64 0]
theorem Q5 (os : Os) {H : Type} (enc : TypeId × Value→H) : ∃ ds places,DataW.whole enc Tryz.prog ((y6 os).forCall (fun _ _=>0) ⟨#[],wit,[]⟩).memory Tryz.f9.params.toList Rows.flowReachSpec.vars false wit.toList 8=some (ds,[],places):=
 ⟨[.agg [.nil,.nil,.lit (.int .i64 0)],.lit (.int .i64 0),.lit (.int .i64 0)],[],by kernel_rfl⟩
theorem vM (os : Os) : laidMet Tryz.prog Rows.flowReachRow.laid ((y6 os).forCall (fun _ _=>0) ⟨#[],wit,[]⟩).memory:=
 laidMet_of_run' 8 (by kernel_rfl) (by kernel_rfl)
theorem Xc (os : Os) (started : os.Started) (H : Type) (enc : TypeId × Value→H) (F : Stop.Interp) :
  ReturnsInHanded {} Tryz.checked os 9 .any ((OpenSpec.ofChange Rows.flowReachSpec).preRow enc Tryz.prog Tryz.f9 Rows.flowReachRow.domain false Rows.flowReachRow.laid) (((OpenSpec.ofChange Rows.flowReachSpec).at F).post enc Tryz.prog Tryz.f9 false true false false):=by
 obtain ⟨ds,places,hx⟩:=Q5 os enc
 refine returnsInHanded_of_row (C:=Tryz.checked) (s:=OpenSpec.ofChange Rows.flowReachSpec) own started (by kernel_rfl) Tryz.func9
  (witness_row_at (enc:=enc) (C:=Tryz.checked) false (y6 os) wit rfl (by kernel_rfl) (by kernel_rfl) (by kernel_rfl)
   (OpenSpec.preRow_of_cond 8 hx (by kernel_rfl) (fun k hk=>by cases hk) (by kernel_rfl) (vM os))) ?_
 intro W base args ds gs before hval hW _ _ _ hL _ _
 exact vL H enc W base args ds gs before hval hW
theorem said : Rows.FlowReachSaid:=
 OpenClaim.holds_of_cond 9 Tryz.f9 rfl rfl rfl rfl rfl rfl rfl ⟨rfl,rfl,rfl,rfl,rfl⟩ rfl rfl rfl rfl rfl (by kernel_rfl) Tryz.func9 (by kernel_rfl)
  (of_decide_eq_true (by kernel_rfl)) (by unfold Func.isWrapper;first|(rw [if_pos (by decide +kernel)];kernel_rfl)|(rw [if_neg (by decide +kernel)];exact ⟨rfl,rfl⟩))
  (fun os started H enc _ F=>by rw [OpenClaim.pre_eq_preRow];exact Xc os started H enc F)
end Go.Proofs.YtmkfelgocedohaaGreat.flowReach
end
section
namespace Go.Proofs
open Go.Sh Go.RowKit
set_option maxRecDepth 100000
set_option linter.unusedSimpArgs false
set_option linter.unusedVariables false
theorem aeq {n : zd} (h : Qi n) {o : List Int} {b : List (Int × Int)} {i k : Nat} : xB n o b i k≤2*o.length+2:=by
 rw [xB]
 have h1:=List.length_filter_le (fun e=>decide (e ∈ b)) (Zw n (o.take i))
 have h2:=JH h (o:=o.take i)
 have h3:=List.length_filter_le (fun p=>decide ((o.getD i 0,p) ∈ b)) ((nxt n (o.getD i 0)).take k)
 have h4:=ZP h (o.getD i 0)
 rw [List.length_take] at h2 h3
 omega
theorem aer {b : List (Int × Int)} {j : Nat} (hj : j<b.length) {x y : Int} : (decide ((x,y) ∈ b.take j)||(decide (b[j].1=x)&&decide (b[j].2=y)))=decide ((x,y) ∈ b.take (j+1)):=by
 rw [List.take_succ_eq_append_getElem hj,Bool.eq_iff_iff]
 simp only [Bool.or_eq_true,Bool.and_eq_true,decide_eq_true_eq,List.mem_append,List.mem_singleton,Prod.ext_iff]
 exact or_congr Iff.rfl ⟨fun h=>⟨h.1.symm,h.2.symm⟩,fun h=>⟨h.1.symm,h.2.symm⟩⟩
set_option maxHeartbeats 8000000 in
theorem XE {u : UnD} {n : Int} {v : Value} {w : World} {r : Gh} {K : Value→World→Prop} (hr : Holds r w) (hu : UnG r v u)
  (h : ∀ w',Ext w w'→K (.bool true) w') : ze Tryz.prog Tryz.jL #[v,.int .i64 n] w K:=by
 refine Tryz.Y6 ?_
 unfold Tryz.jT
 have hu0:=hu
 obtain ⟨p0,cap0,vf,rfl,_,_,hst,hsl,hfn⟩:=hu
 obtain ⟨qf,capf,rfl,_,_⟩:=hfn.sl.shape
 have hfl : u.fs.length≤9223372036854775807:=hfn.few
 have S:=St.start hr
 refine S.box fun b4 w1 S=>?_
 have S : StX noX w r w1 [.cell b4 [.slice p0 u.ss.length cap0,.slice qf u.fs.length capf,.int .i64 u.mn] 25]:=S
 refine S.ldB (b:=b4) ?_ rfl
 refine vJ S.holds hu0 fun x w2 e2=>?_
 have S:=S.go e2
 refine gp_ ?_
 refine c_b (fun _=>z8 fun w3 e3=>h _ (S.go e3).ext) (fun _=>?_)
 refine S.ldB (b:=b4) ?_ rfl
 refine Y2 S.holds hu0 fun v5 s5 w5 o b e5 n5 hk5 hz5 h5=>?_
 obtain ⟨S,_,_⟩:=S.tell e5 n5
 by_cases hE0 : fnE u n=0
 case neg=>
  obtain ⟨rfl,rfl⟩:=hz5 hE0
  rw [abl hE0]
  obtain ⟨q7,c7,rfl,_,_⟩:=h5.shape
  refine gS_ ?_
  simp only [List.length_nil]
  refine gg_ ?_
  refine zF (c:=true) (fun _ K2 hK2=>z8 fun w8 e8=>hK2 _ e8) fun w8 e8=>?_
  have:=h _ (S.go e8).ext
  simpa using this
 rw [hE0]
 obtain ⟨bf,of,g,x1,x2,x3,x4,y1,y2,y3,y4,rfl,hgi,hnu,hF,hn0,hn1,hg,hfo⟩:=Qm hfn hE0
 have hfew:=hF.few
 have hgl:=yH (g:=g)
 have hpos:=hF.pos
 have hpn:=fun x=>adt (x:=x) hE0
 rw [hnu] at hpn
 obtain ⟨st,hm5,rfl,rfl⟩:=hk5 hE0
 rw [hnu] at hm5
 have hw:=aaq hF.ok hF.nd hF.pos hm5
 have hok0 : ∀ q,isN (zg g) q→okQ u n q=true:=fun q hq=>by
  rw [okQ,hE0,hnu,decide_eq_true hq];rfl
 have i0 : isN (zg g) 0:=⟨Int.le_refl _,by omega⟩
 refine gS_ ?_
 refine c_f (by simp) ?_
 refine S.ldB (b:=b4) ?_ rfl
 refine vF S.holds hu0.up fun v6 s6 w6 e6 n6 h6=>?_
 obtain ⟨S,_,_⟩:=S.tell e6 n6
 rw [hok0 0 i0,if_pos rfl,hnu] at h6
 rw [hok0 0 i0,if_pos rfl]
 refine gS_ ?_
 refine S.ldB (b:=b4) ?_ rfl
 refine XT S.holds hu0.up fun v7 s7 w7 o7 b7 e7 n7 hk7 hz7 h7=>?_
 obtain ⟨S,_,_⟩:=S.tell e7 n7
 obtain ⟨st',hm7,rfl,rfl⟩:=hk7 hE0
 rw [hnu] at hm7
 obtain rfl:=hm5.one hm7
 have h5:=h5.cells (s:=((r.or s5).or s6).or s7)
 have h6:=h6.cells (s:=((r.or s5).or s6).or s7)
 have h7:=h7.cells (s:=((r.or s5).or s6).or s7)
 have hu1:=hu0.up (s:=((r.or s5).or s6).or s7)
 have hfo:=fun j v hj=>(hfo j v hj).up (s:=((r.or s5).or s6).or s7)
 generalize ((r.or s5).or s6).or s7=r2 at S h5 h6 h7 hu1 hfo
 clear hm7 hz7 hk7 hm5 hk5 hz5
 have hol:=aek hw
 obtain ⟨hop,ho0⟩:=ado hpos hw
 have hbf:=aei hF hw
 have hof:=Qn hw.nodup fun x hx=>((hw.mem x).1 hx).1
 have hLm : ∀ x,x ∈ mkd (y7 (zg g) zr 0)↔isN (zg g) x∧Rchd (zg g) zr 0 x:=fun x=>abs
 generalize mkd (y7 (zg g) zr 0)=L at h6 hol hLm
 generalize hoe : st.out.reverse=o at h5 hw hol hop ho0 hof
 generalize hbe : st.back=b at h7 hw hbf
 clear hoe hbe
 have hin : ∀ x ∈ o,0≤x∧x<(g.pts.length : Int):=fun x hx=>by rw [← hgl];exact ((hw.mem x).1 hx).1
 obtain ⟨q5,c5,rfl,_,_⟩:=h5.shape
 obtain ⟨q6,c6,rfl,_,_⟩:=h6.shape
 obtain ⟨q7,c7,rfl,_,_⟩:=h7.shape
 rw [hE0]
 refine gS_ ?_
 refine zk (c:=false) (fun _ K2 hK2=>by refine gg_ ?_;exact hK2) ?_
 refine zk (c:=false) (fun _ K2 hK2=>?_) ?_
 ·refine gg_ ?_
  rw [hol]
  have:=hK2
  simpa using this
 refine zk (c:=false) (fun _ K2 hK2=>?_) ?_
 ·refine gg_ ?_
  rw [decide_eq_false (show ¬ (o.length : Int)=0 by omega)]
  exact hK2
 obtain ⟨b5,o5,rfl,_,g5⟩:=zw h5 hop
 rw [ho0] at g5
 refine zk (c:=false) (fun _ K2 hK2=>?_) ?_
 ·refine gg_ ?_
  refine zj (v:=.int .i64 0) (by simpa using S.at g5) ?_
  refine gg_ ?_
  exact hK2
 refine zk (c:=false) (fun _ K2 hK2=>?_) ?_
 ·refine gg_ ?_
  refine zj (S.at (hfo 6 _ rfl)) ?_
  refine gg_ ?_
  refine xo S.holds h5 (by omega) ?_
  rw [decide_eq_true hin]
  refine gp_ ?_
  exact hK2
 refine c_f (by simp) ?_
 refine gg_ ?_
 refine zj (S.at (hfo 6 _ rfl)) ?_
 refine gg_ ?_
 refine S.mkS (by omega) (by omega) fun b20 w20 S=>?_
 rw [Int.toNat_natCast] at S ⊢
 rw [← hgl] at S ⊢
 have e0 : List.replicate (zg g).length (Value.int .i64 0)=ints (atO (zg g) o 0):=by rw [ael];simp [ints]
 rw [e0] at S
 clear g5 e0
 refine zh (ι:=Nat) (fun i=>[.int .i64 (i : Nat)]) (fun i w'=>i≤o.length∧StX noX w r2 w' [.cell b20 (ints (atO (zg g) o i)) 3,.cell b4 [.slice p0 u.ss.length cap0,.slice (some ⟨bf,of,none⟩) u.fs.length capf,.int .i64 u.mn] 25]) (fun i=>o.length - i) 0 rfl ⟨Nat.zero_le _,S⟩ ?_
 repeat clear S
 rintro i d w22 ⟨hi,S⟩ K22 hK22
 rw [List.getD_cons_zero]
 refine gg_ ?_
 refine zm (fun hlt=>?_) (fun hge=>?_)
 ·have hlt : i<o.length:=by omega
  obtain ⟨b5',o5',hp5,_,g5⟩:=zw h5 hlt
  cases hp5
  have hxN:=(hw.mem _).1 (List.getElem_mem hlt)
  have x0:=hxN.1.1;have x1:=hxN.1.2
  have hnew:=aem hw.nodup hlt
  have hat:=adp (o:=o) (i:=i) hxN.1
  rw [if_neg hnew] at hat
  have hnext:=aen hw.nodup hlt hxN.1
  refine gg_ ?_
  refine zj (by rw [Int.toNat_natCast];exact S.at g5) ?_
  refine kx S.holds h6 (by omega) ?_
  rw [decide_eq_true ((hLm _).2 hxN)]
  refine gp_ ?_
  refine zk (c:=false) (fun _ K2 hK2=>?_) ?_
  ·refine gg_ ?_
   refine zj (by rw [Int.toNat_natCast];exact S.at g5) ?_
   refine gg_ ?_
   refine S.ld (b:=b20) ?_ (qi (by rw [ja];omega))
   rw [hat]
   refine gg_ ?_
   exact hK2
  refine c_f (by simp) ?_
  refine gg_ ?_
  refine zj (by rw [Int.toNat_natCast];exact S.at g5) ?_
  refine gg_ ?_
  refine S.st (b:=b20) (fun w21 S=>?_) (by rw [yz,ja];omega)
  rw [Nat.zero_add,Xd,← hnext] at S
  refine gg_ ?_
  exact hK22 (i+1) _ ⟨hlt,S⟩ (by omega)
 have hie : i=o.length:=by omega
 clear hK22 K22 d hge hi
 subst hie
 have hcf:=fun i k=>aeq hF.nar (o:=o) (b:=b) (i:=i) (k:=k)
 refine zh (ι:=Nat) (fun i=>[.int .i64 (xB (zg g) o b i 0 : Nat),.int .i64 (i : Nat)]) (fun i w'=>i≤o.length∧StX noX w r2 w' [.cell b20 (ints (atO (zg g) o o.length)) 3,.cell b4 [.slice p0 u.ss.length cap0,.slice (some ⟨bf,of,none⟩) u.fs.length capf,.int .i64 u.mn] 25]) (fun i=>o.length - i) 0 rfl ⟨Nat.zero_le _,S⟩ ?_
 repeat clear S
 rintro i d w22 ⟨hi,S⟩ K22 hK22
 simp only [List.getD_cons_zero,List.getD_cons_succ]
 refine gg_ ?_
 refine zm (fun hlt=>?_) (fun hge=>?_)
 ·have hlt : i<o.length:=by omega
  have S:=S.go (Ext.drew _)
  obtain ⟨b5',o5',hp5,_,g5⟩:=zw h5 hlt
  cases hp5
  have hxN:=(hw.mem _).1 (List.getElem_mem hlt)
  have x0:=hxN.1.1;have x1:=hxN.1.2
  have hxe : o.getD i 0=o[i]:=by rw [List.getD_eq_getElem?_getD,List.getElem?_eq_getElem hlt];rfl
  refine S.ldB (b:=b4) ?_ rfl
  refine gg_ ?_
  refine zj (by rw [Int.toNat_natCast];exact S.at g5) ?_
  refine vH S.holds hu1 fun v8 s8 w8 e8 n8 h8=>?_
  obtain ⟨S,_,_⟩:=S.tell e8 n8
  rw [hok0 _ hxN.1,if_pos rfl,hnu] at h8
  rw [hok0 _ hxN.1,if_pos rfl]
  refine gS_ ?_
  have S:=S.go (Ext.drew _)
  refine S.ldB (b:=b4) ?_ rfl
  refine gg_ ?_
  refine zj (by rw [Int.toNat_natCast];exact S.at g5) ?_
  refine vA S.holds hu1.up fun v9 s9 w9 e9 n9 h9=>?_
  obtain ⟨T,_,_⟩:=S.tell e9 n9
  repeat clear S
  rw [(hpn _ hxN.1).2] at h9
  rw [(hpn _ hxN.1).1]
  have h8:=h8.cells (s:=(r2.or s8).or s9)
  have h9:=h9.cells (s:=(r2.or s8).or s9)
  have h5':=h5.cells (s:=(r2.or s8).or s9)
  have h7':=h7.cells (s:=(r2.or s8).or s9)
  have g5:=g5.up (s:=(r2.or s8).or s9)
  have leS : Le r2 ((r2.or s8).or s9):=inferInstance
  generalize (r2.or s8).or s9=r3 at T h8 h9 h5' h7' g5 leS
  obtain ⟨q8,c8,rfl,_,_⟩:=h8.shape
  obtain ⟨q9,c9,rfl,_,_⟩:=h9.shape
  have S:=T
  clear T
  have hab:=fun a ha=>ab5 hw hlt (a:=a) ha
  have haN:=fun a (ha : a ∈ abvL (zg g) o[i])=>(zx.1 ha).2.1
  have haf:=abo (n:=zg g) (q:=o[i])
  have hbk:=fun p hp=>adr hF.ok hw hlt (p:=p) hp
  have hnN:=fun p (hp : p ∈ nxt (zg g) o[i])=>zR hF.ok hp
  have hn2:=ZP hF.nar o[i]
  generalize abvL (zg g) o[i]=A at h8 hab haN haf
  have hcn : ∀ k (hk : k<(nxt (zg g) o[i]).length),xB (zg g) o b i (k+1)=xB (zg g) o b i k+if (o[i],(nxt (zg g) o[i])[k]) ∈ b then 1 else 0:=by
   rw [← hxe];exact fun k hk=>ads hk
  have hrow : xB (zg g) o b i (nxt (zg g) o[i]).length=xB (zg g) o b (i+1) 0:=by
   rw [← hxe];exact aeo hlt
  have hatl : (atO (zg g) o o.length).length=(zg g).length:=ja
  generalize nxt (zg g) o[i]=N at h9 hbk hnN hn2 hcn hrow
  generalize o[i]=x at hbk hcn g5
  generalize atO (zg g) o o.length=at' at S hab hbk hK22 hatl
  refine gS_ ?_
  refine zk (c:=false) (fun _ K2 hK2=>by refine gg_ ?_;exact hK2) ?_
  refine zk (c:=false) (fun _ K2 hK2=>?_) ?_
  ·refine gg_ ?_
   refine xo S.holds h8 (by omega) ?_
   rw [decide_eq_true (show ∀ x ∈ A,0≤x∧x<((zg g).length : Int) from haN)]
   refine gp_ ?_
   exact hK2
  refine zk (c:=false) (fun _ K2 hK2=>?_) ?_
  ·refine gg_ ?_
   refine xo S.holds h9 (by omega) ?_
   rw [decide_eq_true (show ∀ x ∈ N,0≤x∧x<((zg g).length : Int) from hnN)]
   refine gp_ ?_
   exact hK2
  refine c_f (by simp) ?_
  refine zh (ι:=Nat) (fun k=>[.int .i64 (k : Nat)]) (fun k w'=>k≤A.length∧StX noX w r3 w' [.cell b20 (ints at') 3,.cell b4 [.slice p0 u.ss.length cap0,.slice (some ⟨bf,of,none⟩) u.fs.length capf,.int .i64 u.mn] 25]) (fun k=>A.length - k) 0 rfl ⟨Nat.zero_le _,S⟩ ?_
  repeat clear S
  rintro k d w24 ⟨hk,S⟩ K24 hK24
  rw [List.getD_cons_zero]
  refine gg_ ?_
  refine zm (fun hltk=>?_) (fun hgek=>?_)
  ·have hltk : k<A.length:=by omega
   obtain ⟨b8,o8,hp8,_,g8⟩:=zw h8 hltk
   cases hp8
   have hyN:=haN _ (List.getElem_mem hltk)
   obtain ⟨ha1,ha2⟩:=hab _ (List.getElem_mem hltk)
   generalize A[k]=y at *
   have y0:=hyN.1;have y1:=hyN.2
   refine gg_ ?_
   refine zj (by rw [Int.toNat_natCast];exact S.at g8) ?_
   refine gg_ ?_
   refine S.ld (b:=b20) ?_ (qi (by omega))
   refine gg_ ?_
   refine zk (c:=false) (fun _ K2 hK2=>?_) ?_
   ·refine gg_ ?_
    refine zj (by rw [Int.toNat_natCast];exact S.at g8) ?_
    refine gg_ ?_
    refine S.ld (b:=b20) ?_ (qi (by omega))
    refine gg_ ?_
    rw [decide_eq_false (show ¬ (i : Int)+1<at'.getD y.toNat 0 by omega)]
    exact hK2
   refine c_f (by rw [decide_eq_false (show ¬ at'.getD y.toNat 0=0 by omega)];rfl) ?_
   refine gg_ ?_
   exact hK24 (k+1) _ ⟨hltk,S⟩ (by omega)
  clear hK24 K24 d hgek hk
  refine zh (ι:=Nat) (fun k=>[.int .i64 (xB (zg g) o b i k : Nat),.int .i64 (k : Nat)]) (fun k w'=>k≤N.length∧StX noX w r3 w' [.cell b20 (ints at') 3,.cell b4 [.slice p0 u.ss.length cap0,.slice (some ⟨bf,of,none⟩) u.fs.length capf,.int .i64 u.mn] 25]) (fun k=>N.length - k) 0 rfl ⟨Nat.zero_le _,S⟩ ?_
  repeat clear S
  rintro k d w24 ⟨hk,S⟩ K24 hK24
  simp only [List.getD_cons_zero,List.getD_cons_succ]
  refine gg_ ?_
  refine zm (fun hltk=>?_) (fun hgek=>?_)
  ·have hltk : k<N.length:=by omega
   obtain ⟨b9,o9,hp9,_,g9⟩:=zw h9 hltk
   cases hp9
   have hyN:=hnN _ (List.getElem_mem hltk)
   have hbk:=hbk _ (List.getElem_mem hltk)
   have hcn:=hcn k hltk
   generalize N[k]=y at *
   have y0:=hyN.1;have y1:=hyN.2
   refine zs (fun s w'=>s = [.int .i64 (xB (zg g) o b i (k+1) : Nat)]∧StX noX w r3 w' [.cell b20 (ints at') 3,.cell b4 [.slice p0 u.ss.length cap0,.slice (some ⟨bf,of,none⟩) u.fs.length capf,.int .i64 u.mn] 25]) (fun K76 hK76=>?_) ?_
   ·refine zh (ι:=Nat) (fun j=>[.bool (decide ((x,y) ∈ b.take j)),.int .i64 (j : Nat)]) (fun j w'=>j≤b.length∧StX noX w r3 w' [.cell b20 (ints at') 3,.cell b4 [.slice p0 u.ss.length cap0,.slice (some ⟨bf,of,none⟩) u.fs.length capf,.int .i64 u.mn] 25]) (fun j=>b.length - j) 0 (by simp) ⟨Nat.zero_le _,S⟩ ?_
    repeat clear S
    rintro j d w25 ⟨hj,S⟩ K25 hK25
    simp only [List.getD_cons_zero,List.getD_cons_succ]
    refine gg_ ?_
    refine zm (fun hltj=>?_) (fun hgej=>?_)
    ·have hltj : j<b.length:=by omega
     have S:=S.go (Ext.drew _)
     obtain ⟨b7,o7,hp7,_,g7⟩:=afi h7' hltj
     cases hp7
     refine zk (c:=decide (b[j].1=x)&&decide (b[j].2=y)) (fun _ K2 hK2=>?_) ?_
     ·refine gg_ ?_
      refine zQ (n:=2) rfl (fun m v hm=>by rw [Int.toNat_natCast];exact S.at (g7 m v hm)) ?_
      refine gg_ ?_
      refine zj (by rw [Int.toNat_natCast];exact S.at g5) ?_
      refine gg_ ?_
      refine zj (by rw [Int.toNat_natCast];exact S.at g9) ?_
      refine zz (cs:=#[.int .i64 x,.int .i64 y]) (by kernel_rfl) ?_
      refine gg_ ?_
      exact hK2
     rw [aer hltj]
     refine gg_ ?_
     exact hK25 (j+1) _ ⟨hltj,S⟩ (by omega)
    have hje : j=b.length:=by omega
    subst hje
    rw [List.take_length]
    refine gg_ ?_
    refine zj (by rw [Int.toNat_natCast];exact S.at g9) ?_
    refine gg_ ?_
    refine S.ld (b:=b20) ?_ (qi (by omega))
    refine gg_ ?_
    refine c_f (by rw [hbk];simp) ?_
    have hcf1:=hcf i k
    refine c_b (fun hb=>?_) (fun hb=>?_)
    ·have hb:=of_decide_eq_true hb
     rw [if_pos hb] at hcn
     refine gg_ ?_
     refine hK76 _ _ ⟨?_,S⟩
     rw [hcn];rfl
    ·have hb:=of_decide_eq_false hb
     rw [if_neg hb] at hcn
     refine hK76 _ _ ⟨?_,S⟩
     rw [hcn];rfl
   rintro _ w26 ⟨rfl,S⟩ d2
   rw [List.getD_cons_zero]
   refine gg_ ?_
   exact hK24 (k+1) _ ⟨hltk,S⟩ (by omega)
  ·have hke : k=N.length:=by omega
   subst hke
   rw [hrow]
   refine gg_ ?_
   exact hK22 (i+1) _ ⟨hlt,S.to _⟩ (by omega)
 ·have hie : i=o.length:=by omega
  subst hie
  rw [aep hF.nd hw]
  refine gg_ ?_
  refine zF (c:=true) (fun _ K2 hK2=>z8 fun w8 e8=>hK2 _ e8) fun w8 e8=>?_
  have:=h _ (S.go e8).ext
  simpa using this
end Go.Proofs
end
section
namespace Go.Proofs.YtmkfelgocedohaaGreat.flowOrder
open Go.Sh Go.ChangeShapes Go.WideShapes Go.ChangeAt Go.RowKit openG
set_option maxRecDepth 100000
set_option linter.unusedVariables false
theorem vL (H : Type) (enc : TypeId × Value→H) (W : World) (base : Nat) (args : Array Value) (ds gs : List (DataW H)) (before : List MemPlace)
  (hval : ∀ (j : Nat) t v,Tryz.f10.params[j]? = some t→args[j]? = some v→Value.okWide Tryz.prog W .any base t v)
  (hW : DataW.Whole enc Tryz.prog Tryz.f10.params.toList Rows.flowOrderSpec.vars false W args.toList ds gs before) :
  Calls Tryz.prog 10 args W fun e W'=>∃ v,e = .returned v∧Rows.flowOrderSpec.post enc Tryz.prog Tryz.f10 false true false false W args v W':=by
 have hW':=hW
 obtain ⟨p,q,hA,hV,rfl,hfz,hnd⟩:=hW
 rw [show Tryz.f10.params.toList = [25,3] by kernel_rfl] at hA
 obtain ⟨v0,vs0,d0,ds0,p0,q100,hargs,rfl,rfl,h0,r0⟩:=trodAll_cons hA
 obtain ⟨v1,vs1,d1,ds1,p1,q101,rfl,rfl,rfl,h1,r1⟩:=trodAll_cons r0
 obtain ⟨rfl,rfl,rfl⟩:=trodAll_nil r1
 obtain rfl : args=#[v0,v1]:=by cases args;simp_all
 obtain ⟨rfl,rfl⟩:=trodVars_none hV
 obtain ⟨u0,hu0⟩:=JG (hval 0 25 v0 (by kernel_rfl) rfl) h0
 obtain ⟨n1,rfl,hi1⟩:=vK (hval 1 3 v1 (by kernel_rfl) rfl) h1
 refine Calls.mono (XE (K:=fun v W'=>v = .bool true∧Ext W W') (Yu W) hu0 fun w' e=>⟨rfl,e⟩) ?_
 rintro e W' ⟨v,he,rfl,hE⟩
 exact ⟨_,he,YG JF ab2 aeg (by rw [show Tryz.f10.params.toList = [25,3] by kernel_rfl];decide) rfl (by kernel_rfl) Q4 hW' rfl hE⟩
def wit : Array Value:=#[.agg #[.slice none 0 0,.slice none 0 0,.int .i64 0],.int .i64 0]
theorem Q5 (os : Os) {H : Type} (enc : TypeId × Value→H) : ∃ ds places,DataW.whole enc Tryz.prog ((y6 os).forCall (fun _ _=>0) ⟨#[],wit,[]⟩).memory Tryz.f10.params.toList Rows.flowOrderSpec.vars false wit.toList 8=some (ds,[],places):=
 ⟨[.agg [.nil,.nil,.lit (.int .i64 0)],.lit (.int .i64 0)],[],by kernel_rfl⟩
theorem vM (os : Os) : laidMet Tryz.prog Rows.flowOrderRow.laid ((y6 os).forCall (fun _ _=>0) ⟨#[],wit,[]⟩).memory:=
 laidMet_of_run' 8 (by kernel_rfl) (by kernel_rfl)
theorem Xc (os : Os) (started : os.Started) (H : Type) (enc : TypeId × Value→H) (F : Stop.Interp) :
  ReturnsInHanded {} Tryz.checked os 10 .any ((OpenSpec.ofChange Rows.flowOrderSpec).preRow enc Tryz.prog Tryz.f10 Rows.flowOrderRow.domain false Rows.flowOrderRow.laid) (((OpenSpec.ofChange Rows.flowOrderSpec).at F).post enc Tryz.prog Tryz.f10 false true false false):=by
 obtain ⟨ds,places,hx⟩:=Q5 os enc
 refine returnsInHanded_of_row (C:=Tryz.checked) (s:=OpenSpec.ofChange Rows.flowOrderSpec) own started (by kernel_rfl) Tryz.func10
  (witness_row_at (enc:=enc) (C:=Tryz.checked) false (y6 os) wit rfl (by kernel_rfl) (by kernel_rfl) (by kernel_rfl)
   (OpenSpec.preRow_of_cond 8 hx (by kernel_rfl) (fun k hk=>by cases hk) (by kernel_rfl) (vM os))) ?_
 intro W base args ds gs before hval hW _ _ _ hL _ _
 exact vL H enc W base args ds gs before hval hW
theorem said : Rows.FlowOrderSaid:=
 OpenClaim.holds_of_cond 10 Tryz.f10 rfl rfl rfl rfl rfl rfl rfl ⟨rfl,rfl,rfl,rfl,rfl⟩ rfl rfl rfl rfl rfl (by kernel_rfl) Tryz.func10 (by kernel_rfl)
  (of_decide_eq_true (by kernel_rfl)) (by unfold Func.isWrapper;first|(rw [if_pos (by decide +kernel)];kernel_rfl)|(rw [if_neg (by decide +kernel)];exact ⟨rfl,rfl⟩))
  (fun os started H enc _ F=>by rw [OpenClaim.pre_eq_preRow];exact Xc os started H enc F)
end Go.Proofs.YtmkfelgocedohaaGreat.flowOrder
end
section
namespace Go.Proofs
end Go.Proofs
end
