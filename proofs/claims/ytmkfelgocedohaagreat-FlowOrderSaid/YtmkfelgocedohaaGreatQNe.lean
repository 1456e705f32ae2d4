/-
  Plain: the document's shortest way: how far it is to the end, then always the least that comes nearer.
  Plain: where one goes round: what reaches a point without going through another one.
  Plain: who lies above whom is a chain; right above.
  Plain: places in the order; two small nets, reckoned.
  Contract of flow: who lies above whom. Rows of marks in memory.
  Contract of flow: (net).above.
  Contracts of flow: Before, Reach, Above, Order, Back. Made by a program (wip/gen/flowc.py).
  Contracts of flow: Is, Right.
  Contracts of flow: Right, Loop.
  Contract of flow: Loop.
  graph.Calls and the document's Calls.
  What the document says of points: Next, Operands, Assigns, Calls, places compared.
  Shallow readings of functions. Made by a program (wip/gen/gen.py) out of the translation; the kernel checks each equality.
  Contracts of loanwordref12: Next, in, rising, Before, reach, Reach.
  Contracts of loanwordref12: reach, Reach, Above.
  Contracts of loanwordref12: Reach, Above, Is.
  Contracts of loanwordref12: Is, Loop.
  Contract of loanwordref12: Right.
  Plain law: the walk's marks as two rows of truths, and the walk as a recursion.
  Contract of loanwordref12: walker.walk.
  Contract of loanwordref12: Walk.
  Shallow readings of functions. Made by a program (wip/gen/gen.py) out of the translation; the kernel checks each equality.
  Contracts of loanwordlaw12: in, same, inside.
  Contract of loanwordlaw12: fits.
  loanwordlaw12's small units: plain facts.
  Contract of loanwordlaw12: line.
  A map of numbers of one's own: made, filled, asked.
  Contract of flow: Way.
  Contract of loanwordlaw12: awake.
  loanwordlaw12.FlowPoints: whatever the program, the function, the points: the law returns true.
  Openings: what arguments that are types, programs, lists of numbers tell.
  loanwordlaw12.FlowPoints: whatever the input, the law returns true and the input reads as it did.
  Arrays of two numbers, compared.
-/
import Derived.Test.YtmkfelgocedohaaGreatQNd
import Derived.Test.YtmkfelgocedohaaGreatQNb
import Derived.Test.YtmkfelgocedohaaGreatQNc
import Derived.Test.YtmkfelgocedohaaGreatRows
import Derived.WalkKit
import Derived.ChangeKeysEq
section
namespace Go.Proofs
set_option linter.unusedVariables false
set_option linter.unusedSimpArgs false
def faA (far : List Int) (x : Int) : Int:=far.getD x.toNat (-1)
theorem aeZ {far : List Int} {x y v : Int} (hx : 0≤x) (hx2 : x<far.length) (hy : 0≤y) : faA (far.set x.toNat v) y=if y=x then v else faA far y:=by
 rw [faA,List.getD_eq_getElem?_getD,List.getElem?_set]
 by_cases h : y=x
 ·subst h;rw [if_pos rfl,if_pos rfl,if_pos (by omega)];rfl
 ·rw [if_neg (by omega),if_neg h,faA,List.getD_eq_getElem?_getD]
structure Bk (n : zd) (W : List Int) (s t : Int) (far todo : List Int) (m : Int) (P : Int→Int→Prop) : Prop where
 len : far.length=n.length
 td : ∀ x ∈ todo,isN n x∧x≠s∧0≤faA far x
 inn : ∀ x,isN n x→0≤faA far x→x=s∨x ∈ todo
 val : ∀ x,isN n x→-1≤faA far x
 snd : ∀ x,isN n x→0<faA far x→(x=s∨x ∉ W)∧∃ y ∈ todo,y ∈ nxt n x∧faA far y+1=faA far x
 zer : ∀ x,isN n x→faA far x=0→x=t
 tt : t ∈ todo∧faA far t=0
 srt : todo.Pairwise fun a b=>faA far a≤faA far b
 lim : ∀ x,isN n x→faA far x≤m+1
 cls : ∀ y x,P y x→y ∈ todo∧(isN n x→(x=s∨x ∉ W)→0≤faA far x∧faA far x≤faA far y+1)
theorem Bk.start {n : zd} {W : List Int} {s t : Int} (ht : isN n t) (hs : t≠s) : Bk n W s t ((List.replicate n.length (-1)).set t.toNat 0) [t] 0 (fun _ _=>False):=by
 have e : ∀ x,isN n x→faA ((List.replicate n.length (-1)).set t.toNat 0) x=if x=t then 0 else -1:=fun x hx=>by
  rw [aeZ ht.1 (by rw [List.length_replicate];exact ht.2) hx.1]
  split
  ·rfl
  ·rw [faA,List.getD_eq_getElem?_getD,List.getElem?_replicate];split<;>rfl
 refine ⟨by simp,fun x hx=>?_,fun x hx h=>?_,fun x hx=>?_,fun x hx h=>?_,fun x hx h=>?_,⟨by simp,by rw [e t ht,if_pos rfl]⟩,by simp,fun x hx=>?_,fun y x h=>h.elim⟩
 ·obtain rfl:=List.mem_singleton.1 hx
  exact ⟨ht,hs,by rw [e x ht,if_pos rfl];decide⟩
 ·rw [e x hx] at h
  split at h
  ·rename_i h';subst h';exact .inr (by simp)
  ·omega
 ·rw [e x hx];split<;>omega
 ·rw [e x hx] at h;split at h<;>omega
 ·rw [e x hx] at h
  split at h
  ·assumption
  ·omega
 ·rw [e x hx];split<;>omega
structure FarD (n : zd) (W : List Int) (s t : Int) (far : List Int) : Prop where
 val : ∀ x,isN n x→-1≤faA far x
 snd : ∀ x,isN n x→0<faA far x→(x=s∨x ∉ W)∧∃ y,y≠s∧y ∈ nxt n x∧faA far y+1=faA far x
 zer : ∀ x,isN n x→(faA far x=0↔x=t)
 cls : ∀ y x,isN n x→isN n y→y ∈ nxt n x→y≠s→0≤faA far y→(x=s∨x ∉ W)→0≤faA far x∧faA far x≤faA far y+1
theorem Pth.end1 {n : zd} {W : List Int} {s : Int} : ∀ {r : List Int} {x t t' : Int},Pth n W s x r t→Pth n W s x r t'→t=t'
 |[],x,t,t',h,k=>Eq.trans (Eq.symm h) k
 |y::r,x,t,t',h,k=>Pth.end1 h.2 k.2
theorem FarD.le {n : zd} (hn : zM n) {W : List Int} {s t : Int} {far : List Int} (h : FarD n W s t far) : ∀ {r : List Int} {x : Int},isN n x→Pth n W s x r t→s ∉ r→0≤faA far x∧faA far x≤r.length
 |[],x,hx,hp,_=>by
  have hp : x=t:=hp
  have:=(h.zer x hx).2 hp
  simp only [List.length_nil];omega
 |y::r,x,hx,hp,hs=>by
  rw [List.mem_cons,not_or] at hs
  have hy:=zR hn hp.1.2
  obtain ⟨a,b⟩:=FarD.le hn h hy hp.2 hs.2
  have:=h.cls y x hx hy hp.1.2 (fun e=>hs.1 e.symm) a hp.1.1
  simp only [List.length_cons];omega
theorem Pth.short {n : zd} {W : List Int} {s t : Int} : ∀ (k : Nat) {r : List Int},r.length≤k→Pth n W s s r t→∃ r',Pth n W s s r' t∧s ∉ r'∧r'.length≤r.length∧(s ∈ r→r'.length<r.length):=by
 intro k
 induction k with
 |zero=>
  intro r hr h
  have : r = []:=List.length_eq_zero_iff.1 (by omega)
  subst this
  exact ⟨[],h,by simp,Nat.le_refl _,fun h=>by cases h⟩
 |succ k ih=>
  intro r hr h
  by_cases hs : s ∈ r
  ·obtain ⟨a,b,rfl⟩:=List.append_of_mem hs
   obtain ⟨m,h1,h2⟩:=Pth.app.1 h
   simp only [List.length_append,List.length_cons] at hr
   obtain ⟨r',k1,k2,k3,_⟩:=ih (r:=b) (by omega) h2.2
   refine ⟨r',k1,k2,?_,fun _=>?_⟩<;>(simp only [List.length_append,List.length_cons];omega)
  ·exact ⟨r,h,hs,Nat.le_refl _,fun h=>absurd h hs⟩
theorem FarD.low {n : zd} (hn : zM n) {W : List Int} {s t : Int} {far : List Int} (h : FarD n W s t far) (hs : isN n s) {w : List Int} (hw : Vw n W s w t) : 0≤faA far s∧faA far s+1≤w.length∧((w.length : Int)=faA far s+1→s ∉ w.tail):=by
 obtain ⟨r,rfl,hp⟩:=hw
 obtain ⟨r',k1,k2,k3,k4⟩:=Pth.short r.length (Nat.le_refl _) hp
 obtain ⟨a,b⟩:=h.le hn hs k1 k2
 simp only [List.length_cons,List.tail_cons]
 refine ⟨a,by omega,fun e hm=>?_⟩
 have:=k4 hm
 omega
def bestF (far : List Int) (s at' : Int) (l : List Int) (b : Int) : Int:=l.foldl (fun b x=>if faA far x=faA far at' - 1∧x≠s∧(b<0∨x<b) then x else b) b
theorem abg {far : List Int} {s at' : Int} : ∀ {l : List Int} {b : Int},(∀ x ∈ l,0≤x)→(0≤b→bestF far s at' l b≤b)∧(0≤b→0≤bestF far s at' l b)∧((bestF far s at' l b=b)∨(bestF far s at' l b ∈ l∧faA far (bestF far s at' l b)=faA far at' - 1∧bestF far s at' l b≠s))∧
  (∀ x ∈ l,faA far x=faA far at' - 1→x≠s→0≤bestF far s at' l b∧bestF far s at' l b≤x)
 |[],b,_=>⟨fun _=>Int.le_refl _,id,.inl rfl,fun x hx=>by cases hx⟩
 |y::l,b,h=>by
  have ih:=abg (far:=far) (s:=s) (at':=at') (l:=l) (b:=if faA far y=faA far at' - 1∧y≠s∧(b<0∨y<b) then y else b) fun x hx=>h x (List.mem_cons_of_mem _ hx)
  have hy:=h y List.mem_cons_self
  have e : bestF far s at' (y::l) b=bestF far s at' l (if faA far y=faA far at' - 1∧y≠s∧(b<0∨y<b) then y else b):=rfl
  rw [e]
  generalize hr : bestF far s at' l (if faA far y=faA far at' - 1∧y≠s∧(b<0∨y<b) then y else b)=res at ih
  obtain ⟨i1,i2,i3,i4⟩:=ih
  by_cases hc : faA far y=faA far at' - 1∧y≠s∧(b<0∨y<b)
  ·rw [if_pos hc] at i1 i2 i3
   have j1:=i1 hy
   have j2:=i2 hy
   refine ⟨fun hb=>by have:=hc.2.2;omega,fun _=>j2,?_,fun x hx h1 h2=>?_⟩
   ·rcases i3 with e|⟨a,b,c⟩
    ·exact .inr ⟨by rw [e];exact List.mem_cons_self,by rw [e];exact hc.1,by rw [e];exact hc.2.1⟩
    ·exact .inr ⟨List.mem_cons_of_mem _ a,b,c⟩
   ·rcases List.mem_cons.1 hx with rfl|hx
    ·exact ⟨j2,j1⟩
    ·exact i4 x hx h1 h2
  ·rw [if_neg hc] at i1 i2 i3
   refine ⟨i1,i2,?_,fun x hx h1 h2=>?_⟩
   ·rcases i3 with e|⟨a,b,c⟩
    ·exact .inl e
    ·exact .inr ⟨List.mem_cons_of_mem _ a,b,c⟩
   ·rcases List.mem_cons.1 hx with rfl|hx
    ·have hb : 0≤b∧b≤x:=by
      refine Decidable.byContradiction fun hn=>hc ⟨h1,h2,?_⟩
      omega
     exact ⟨i2 hb.1,Int.le_trans (i1 hb.1) hb.2⟩
    ·exact i4 x hx h1 h2
structure Grd (n : zd) (W : List Int) (s t : Int) (far : List Int) (a : Int) (way : List Int) : Prop where
 at' : isN n a∧0≤faA far a
 vw : Vw n W s way a
 len : (way.length : Int)+faA far a=faA far s+1
 le : ∀ w',Vw n W s w' t→(w'.length : Int)=faA far s+1→leL way (w'.take way.length)
theorem Grd.start {n : zd} {W : List Int} {s t : Int} {far : List Int} (hs : isN n s) (h0 : 0≤faA far s) : Grd n W s t far s [s]:=
 ⟨⟨hs,h0⟩,.base,by simp only [List.length_singleton];omega,fun w' hw' _=>by obtain ⟨r,rfl,_⟩:=hw';exact .inl rfl⟩
theorem Grd.go {n : zd} (hn : zM n) {W : List Int} {s t : Int} {far : List Int} (hf : FarD n W s t far) (hs : isN n s) {a : Int} {way : List Int} (h : Grd n W s t far a way) (hat : a≠t) :
  Grd n W s t far (bestF far s a (nxt n a) (-1)) (way ++ [bestF far s a (nxt n a) (-1)])∧faA far (bestF far s a (nxt n a) (-1))+1=faA far a:=by
 have haz : 0<faA far a:=by
  have h1:=h.at'.2
  have h2 : faA far a≠0:=fun e=>hat ((hf.zer a h.at'.1).1 e)
  omega
 obtain ⟨hel,y,hys,hyn,hyf⟩:=hf.snd a h.at'.1 haz
 obtain ⟨_,_,b3,b4⟩:=abg (far:=far) (s:=s) (at':=a) (l:=nxt n a) (b:=-1) fun x hx=>(zR hn hx).1
 generalize bestF far s a (nxt n a) (-1)=b at b3 b4
 have hb0:=(b4 y hyn (by omega) hys).1
 obtain ⟨c1,c2,c3⟩:=b3.resolve_left fun e=>by omega
 have hbN:=zR hn c1
 refine ⟨⟨⟨hbN,by omega⟩,h.vw.snoc ⟨hel,c1⟩,by rw [List.length_append,List.length_singleton];have:=h.len;omega,fun w' hw' hl=>?_⟩,by omega⟩
 have hle:=h.le w' hw' hl
 have hlen:=h.len
 have hlt : way.length<w'.length:=by omega
 rw [List.length_append,List.length_singleton,List.take_succ_eq_append_getElem hlt]
 rcases hle with e|hle
 ·refine J4 (b:=way ++ [w'[way.length]]) ?_ (by rw [← e];exact .inl rfl)
  obtain ⟨_,_,hns⟩:=hf.low hn hs hw'
  have hns:=hns hl
  obtain ⟨r,rfl,hp⟩:=hw'
  obtain ⟨ra,rfl,hpa⟩:=h.vw
  have hra : ra=r.take ra.length:=by
   simp only [List.length_cons,List.take_succ_cons,List.cons.injEq,true_and] at e
   exact e
  simp only [List.length_cons,List.tail_cons,List.getElem_cons_succ] at *
  have hrl : ra.length<r.length:=by omega
  have hsplit : r=ra++r[ra.length]::r.drop (ra.length+1):=by
   conv=>lhs;rw [← List.take_append_drop ra.length r,← hra,List.drop_eq_getElem_cons hrl]
  have hp2:=hp
  rw [hsplit] at hp2
  obtain ⟨m,h1,h2,h3⟩:=Pth.app.1 hp2
  have:=Pth.end1 h1 hpa
  subst this
  have hv : r[ra.length]≠s:=fun e=>hns (by rw [← e];exact List.getElem_mem hrl)
  have hvN:=zR hn h2.2
  obtain ⟨d1,d2⟩:=hf.le hn hvN h3 (fun hm=>hns (List.mem_of_mem_drop hm))
  rw [List.length_drop] at d2
  have d3:=hf.cls _ m h.at'.1 hvN h2.2 hv d1 hel
  have:=(b4 _ h2.2 (by omega) hv).2
  by_cases e2 : b=r[ra.length]
  ·rw [e2];exact .inl rfl
  ·exact .inr (JA (.inl (by omega)))
 ·exact .inr (Xo hle (by rw [List.length_take];omega))
theorem Grd.end {n : zd} (hn : zM n) {W : List Int} {s t : Int} {far : List Int} (hf : FarD n W s t far) (hs : isN n s) (ht : isN n t) {way : List Int} (h : Grd n W s t far t way) : xb n s t W=some way:=by
 have hl:=h.len
 rw [(hf.zer t ht).2 rfl] at hl
 refine xt.2 ⟨h.vw,fun w' hw'=>?_⟩
 obtain ⟨_,h2,_⟩:=hf.low hn hs hw'
 refine ⟨by omega,fun e=>?_⟩
 have:=h.le w' hw' (by omega)
 rwa [List.take_of_length_le (by omega)] at this
theorem ac4 {n : zd} {W : List Int} {s : Int} : xb n s s W=some [s]:=by
 refine xt.2 ⟨.base,fun w' h'=>⟨h'.pos,fun hl=>?_⟩⟩
 obtain ⟨r,rfl,_⟩:=h'
 have : r = []:=by simpa using hl
 subst this;exact .refl
end Go.Proofs
end
section
namespace Go.Proofs
set_option linter.unusedVariables false
set_option linter.unusedSimpArgs false
def xc (n : zd) : zd:=(List.range n.length).map fun i=>befN n (i : Nat)
theorem qX {n : zd} : (xc n).length=n.length:=by simp [xc]
theorem abh {n : zd} {q : Int} (hq : isN n q) : nxt (xc n) q=befN n q:=by
 have h0:=hq.1;have h1:=hq.2
 rw [nxt,xc,List.getD_eq_getElem?_getD,List.getElem?_map,List.getElem?_range (by omega)]
 simp [Int.toNat_of_nonneg h0]
theorem qh {n : zd} {q : Int} : isN (xc n) q↔isN n q:=by rw [isN,isN,qX]
theorem abi {n : zd} {p q : Int} (hq : isN n q) : p ∈ nxt (xc n) q↔isN n p∧q ∈ nxt n p:=by rw [abh hq,qU]
theorem aas {n : zd} : zM (xc n):=fun l hl x hx=>by
 obtain ⟨i,hi,rfl⟩:=List.mem_map.1 hl
 exact qh.2 (qU.1 hx).1
theorem abj {n : zd} {stop : Int→Prop} {q q' x : Int} (h : Rchd n stop q' x) (he : q' ∈ nxt n q) (hs : ¬ stop q') : Rchd n stop q x:=by
 induction h with
 |base=>exact .step .base (.inl rfl) he
 |step h hq hp ih=>
  refine .step ih (.inr ?_) hp
  rcases hq with rfl|hq
  ·exact hs
  ·exact hq
theorem ae0 {n : zd} (hn : zM n) {to p q : Int} (hpN : isN n p) (hp : p≠to) (h : Rchd n (· = to) p q) (hq : q≠to) : Rchd (xc n) (· = to) q p:=by
 induction h with
 |base=>exact .base
 |@step y z h hy hz ih=>
  have hyt : y≠to:=by
   rcases hy with rfl|hy
   ·exact hp
   ·exact hy
  exact abj (ih hyt) ((abi (zR hn hz)).2 ⟨h.isN hn hpN,hz⟩) hyt
theorem ae1 {n : zd} {to p q : Int} (hpN : isN n p) (hp : p≠to) (h : Rchd (xc n) (· = to) p q) (hq : q≠to) : Rchd n (· = to) q p:=by
 induction h with
 |base=>exact .base
 |@step y z h hy hz ih=>
  have hyt : y≠to:=by
   rcases hy with rfl|hy
   ·exact hp
   ·exact hy
  have hyN : isN n y:=qh.1 (h.isN aas (qh.2 hpN))
  exact abj (ih hyt) ((abi hyN).1 hz).2 hyt
noncomputable def Z6 (n : zd) (s to : Int) : List Bool:=by
 classical exact (List.range n.length).map fun (i : Nat)=>decide ((i : Int)=to∨(s≠to∧(i : Int)≠to∧Rchd n (· = to) i s))
theorem Z7 {n : zd} {s to : Int} : (Z6 n s to).length=n.length:=by simp [Z6]
theorem abk {n : zd} {s to x : Int} (hx : isN n x) : mk' (Z6 n s to) x=true↔x=to∨(s≠to∧x≠to∧Rchd n (· = to) x s):=by
 have h0:=hx.1;have h1:=hx.2
 rw [mk',Z6,List.getD_eq_getElem?_getD,List.getElem?_map,List.getElem?_range (by omega)]
 simp [Int.toNat_of_nonneg h0]
theorem ae2 {n : zd} (hn : zM n) {s to : Int} {m : List Bool} (hs : isN n s) (hst : s≠to) (h : Bfs (xc n) (· = to) s (· = to) m []) : m=Z6 n s to:=by
 refine jn (by rw [h.len,qX,Z7]) fun x h0 h1=>?_
 have hx : isN n x:=⟨h0,by rw [← qX,← h.len];exact h1⟩
 rw [Bool.eq_iff_iff,h.done aas (qh.2 hs) h0,abk hx]
 constructor
 ·rintro (e|hr)
  ·exact .inl e
  ·by_cases e : x=to
   ·exact .inl e
   ·exact .inr ⟨hst,e,ae1 hs hst hr e⟩
 ·rintro (e|⟨_,e,hr⟩)
  ·exact .inl e
  ·exact .inr (ae0 hn hx e hr hst)
theorem ac5 {n : zd} {s to : Int} (hs : isN n s) (ht : isN n to) (hst : s≠to) : Bfs (xc n) (· = to) s (· = to) (zA (zA (List.replicate n.length false) to) s) [s]:=by
 have e : ∀ x : Int,0≤x→mk' (zA (zA (List.replicate n.length false) to) s) x=(decide (x=s)||decide (x=to)):=fun x hx=>by
  rw [xC hs.1 (by rw [zT,List.length_replicate];exact hs.2) hx,xC ht.1 (by rw [List.length_replicate];exact ht.2) hx]
  have : mk' (List.replicate n.length false) x=false:=by
   rw [mk',List.getD_eq_getElem?_getD,List.getElem?_replicate]
   split<;>rfl
  rw [this,Bool.or_false]
 refine ⟨by rw [zT,zT,List.length_replicate,qX],by rw [e s hs.1];simp,fun x h0 hx=>by rw [e x h0];simp [hx],fun x hx=>?_,fun x h0 hx=>?_,fun x h0 hx hn=>?_⟩
 ·obtain rfl:=List.mem_singleton.1 hx
  exact ⟨qh.2 hs,by rw [e _ hs.1];simp,.base⟩
 ·rw [e x h0,Bool.or_eq_true,decide_eq_true_eq,decide_eq_true_eq] at hx
  rcases hx with rfl|hx
  ·exact .inr .base
  ·exact .inl hx
 ·rw [e x h0,Bool.or_eq_true,decide_eq_true_eq,decide_eq_true_eq] at hx
  rcases hx with rfl|rfl
  ·exact absurd List.mem_cons_self hn
  ·exact .inl ⟨fun e=>hst e.symm,rfl⟩
theorem ad6 {n : zd} {s : Int} (hs : isN n s) : zA (zA (List.replicate n.length false) s) s=Z6 n s s:=by
 refine jn (by rw [zT,zT,List.length_replicate,Z7]) fun x h0 h1=>?_
 rw [zT,zT,List.length_replicate] at h1
 rw [Bool.eq_iff_iff,abk ⟨h0,h1⟩,xC hs.1 (by rw [zT,List.length_replicate];exact hs.2) h0,xC hs.1 (by rw [List.length_replicate];exact hs.2) h0]
 have : mk' (List.replicate n.length false) x=false:=by
  rw [mk',List.getD_eq_getElem?_getD,List.getElem?_replicate]
  split<;>rfl
 rw [this]
 simp
end Go.Proofs
end
section
namespace Go.Proofs
set_option linter.unusedVariables false
set_option linter.unusedSimpArgs false
theorem Rchd.mono {n : zd} {P Q : Int→Prop} {s x : Int} (h : Rchd n P s x) (hq : ∀ y,Q y→P y) : Rchd n Q s x:=by
 induction h with
 |base=>exact .base
 |step h hy hz ih=>
  refine .step ih ?_ hz
  rcases hy with e|hy
  ·exact .inl e
  ·exact .inr fun h=>hy (hq _ h)
theorem kg {n : zd} {a : Int} : Dom n a a:=.inl rfl
theorem vE {n : zd} {a : Int} (h : Dom n a 0) : a=0:=by
 rcases h with h|h|h
 ·exact h
 ·exact h
 ·exact absurd .base h
theorem YY {n : zd} {a b c : Int} (h : Dom n a b) (k : Dom n b c) : Dom n a c:=by
 by_cases e0 : a=0
 ·exact .inr (.inl e0)
 rcases h with rfl|h|h
 ·exact k
 ·exact absurd h e0
 rcases k with rfl|rfl|k
 ·exact .inr (.inr h)
 ·exact absurd (vE (.inr (.inr h))) e0
 refine .inr (.inr fun hc=>?_)
 have key : ∀ x,Rchd n (· = a) 0 x→Rchd n (· = b) 0 x∨Rchd n (· = a) 0 b:=fun x hx=>by
  induction hx with
  |base=>exact .inl .base
  |@step y z hy hyc hz ih=>
   rcases ih with ih|ih
   ·by_cases e : y=b
    ·rw [e] at hy;exact .inr hy
    ·exact .inl (.step ih (.inr e) hz)
   ·exact .inr ih
 rcases key c hc with h1|h1
 ·exact k h1
 ·exact h h1
theorem ad7 {n : zd} {a b : Int} (hb : Rchd n zr 0 b) (h : Dom n a b) (k : Dom n b a) : a=b:=by
 rcases h with h|rfl|h
 ·exact h
 ·exact (vE k).symm
 rcases k with k|rfl|k
 ·exact k.symm
 ·exact vE (.inr (.inr h))
 exfalso
 have key : ∀ x,Rchd n zr 0 x→Rchd n (fun y=>y=a∨y=b) 0 x∨Rchd n (· = b) 0 a∨Rchd n (· = a) 0 b:=fun x hx=>by
  induction hx with
  |base=>exact .inl .base
  |@step y z hy hyc hz ih=>
   rcases ih with ih|ih
   ·by_cases e : y=a
    ·rw [e] at ih;exact .inr (.inl (ih.mono fun y e=>.inr e))
    ·by_cases e' : y=b
     ·rw [e'] at ih;exact .inr (.inr (ih.mono fun y e=>.inl e))
     ·exact .inl (.step ih (.inr fun h=>h.elim e e') hz)
   ·exact .inr ih
 rcases key b hb with h1|h1|h1
 ·exact h (h1.mono fun y e=>.inl e)
 ·exact k h1
 ·exact h h1
theorem ac6 {n : zd} {a b q : Int} (hq : Rchd n zr 0 q) (ha : Dom n a q) (hb : Dom n b q) : Dom n a b∨Dom n b a:=by
 refine Classical.byContradiction fun hn=>?_
 rw [not_or] at hn
 obtain ⟨h1,h2⟩:=hn
 have a0 : a≠0:=fun e=>h1 (.inr (.inl e))
 have b0 : b≠0:=fun e=>h2 (.inr (.inl e))
 have hab : a≠b:=fun e=>h1 (.inl e)
 have hra : Rchd n (· = a) 0 b:=Classical.byContradiction fun h=>h1 (.inr (.inr h))
 have hrb : Rchd n (· = b) 0 a:=Classical.byContradiction fun h=>h2 (.inr (.inr h))
 have key : ∀ x,Rchd n zr 0 x→Rchd n (· = a) 0 x∨Rchd n (· = b) 0 x:=fun x hx=>by
  induction hx with
  |base=>exact .inl .base
  |@step y z hy hyc hz ih=>
   rcases ih with ih|ih
   ·by_cases e : y=a
    ·subst e;exact .inr (.step hrb (.inr hab) hz)
    ·exact .inl (.step ih (.inr e) hz)
   ·by_cases e : y=b
    ·subst e;exact .inl (.step hra (.inr fun e=>hab e.symm) hz)
    ·exact .inr (.step ih (.inr e) hz)
 rcases key q hq with h|h
 ·rcases ha with rfl|e|ha
  ·exact h2 hb
  ·exact a0 e
  ·exact ha h
 ·rcases hb with rfl|e|hb
  ·exact h1 ha
  ·exact b0 e
  ·exact hb h
noncomputable def abvL (n : zd) (q : Int) : List Int:=match xn n q with|some m=>mkd m|none=>[]
theorem zx {n : zd} {q x : Int} : x ∈ abvL n q↔Rchd n zr 0 q∧isN n x∧Dom n x q:=by
 rw [abvL]
 cases h : xn n q with
 |none=>
  simp only [List.not_mem_nil,false_iff]
  rintro ⟨hr,_⟩
  obtain ⟨m,hm⟩:=abb hr
  rw [h] at hm;cases hm
 |some m=>
  obtain ⟨hr,hl,hd⟩:=YP h
  simp only
  rw [Zx]
  constructor
  ·rintro ⟨h0,hk⟩
   have hx : isN n x:=⟨h0,by have:=abu hk;omega⟩
   exact ⟨hr,hx,(hd x hx).1 hk⟩
  ·rintro ⟨_,hx,hdx⟩
   exact ⟨hx.1,(hd x hx).2 hdx⟩
theorem Zv {n : zd} {q : Int} : (abvL n q).Pairwise (· < ·):=by
 rw [abvL]
 split
 ·exact Qr
 ·exact .nil
theorem xz {n : zd} {q : Int} : (abvL n q).Nodup:=Zv.imp fun h e=>by omega
theorem kv : ∀ {a b : List Int},a.Nodup→(∀ x ∈ a,x ∈ b)→a.length≤b.length
 |[],b,_,_=>Nat.zero_le _
 |x::a,b,hn,hs=>by
  have hn':=List.nodup_cons.1 hn
  have hx:=hs x List.mem_cons_self
  have:=kv (a:=a) (b:=b.erase x) hn'.2 fun y hy=>by
   have hne : y≠x:=fun e=>hn'.1 (e ▸ hy)
   exact (List.mem_erase_of_ne hne).2 (hs y (List.mem_cons_of_mem _ hy))
  rw [List.length_erase_of_mem hx] at this
  have hp : 0<b.length:=List.length_pos_of_mem hx
  rw [List.length_cons];omega
theorem Xp {n : zd} {a q : Int} (hq : Rchd n zr 0 q) (h : Dom n a q) : Rchd n zr 0 a:=by
 rcases h with rfl|rfl|h
 ·exact hq
 ·exact .base
 ·refine Classical.byContradiction fun hn=>h ?_
  have key : ∀ x,Rchd n zr 0 x→Rchd n (· = a) 0 x:=fun x hx=>by
   induction hx with
   |base=>exact .base
   |@step y z hy hyc hz ih=>exact .step ih (.inr fun e=>hn (e ▸ hy)) hz
  exact key q hq
theorem ad8 {n : zd} {q : Int} (h0 : 0<n.length) (hqN : isN n q) (hq : Rchd n zr 0 q) (hz : q≠0) : ∃ p ∈ abvL n q,p≠q∧(abvL n p).length+1=(abvL n q).length:=by
 have hqq : q ∈ abvL n q:=zx.2 ⟨hq,hqN,kg⟩
 have hS : ∀ x,x ∈ (abvL n q).erase q↔x ∈ abvL n q∧x≠q:=fun x=>by
  rw [List.Nodup.mem_erase_iff xz];exact And.comm
 have hne : (abvL n q).erase q≠[]:=fun e=>by
  have : (0 : Int) ∈ (abvL n q).erase q:=(hS 0).2 ⟨zx.2 ⟨hq,⟨Int.le_refl _,by omega⟩,.inr (.inl rfl)⟩,fun e=>hz e.symm⟩
  rw [e] at this;cases this
 have hmax : ∀ l : List Int,l≠[]→∃ m ∈ l,∀ x ∈ l,(abvL n x).length≤(abvL n m).length:=by
  intro l
  induction l with
  |nil=>intro h;exact absurd rfl h
  |cons a l ih=>
   intro _
   by_cases hl : l = []
   ·subst hl;exact ⟨a,List.mem_cons_self,fun x hx=>by rw [List.mem_singleton.1 hx];exact Nat.le_refl _⟩
   ·obtain ⟨m,hm,hx⟩:=ih hl
    by_cases hc : (abvL n a).length≤(abvL n m).length
    ·exact ⟨m,List.mem_cons_of_mem _ hm,fun x hx'=>by
      rcases List.mem_cons.1 hx' with rfl|hx'
      ·exact hc
      ·exact hx x hx'⟩
    ·exact ⟨a,List.mem_cons_self,fun x hx'=>by
      rcases List.mem_cons.1 hx' with rfl|hx'
      ·exact Nat.le_refl _
      ·have:=hx x hx';omega⟩
 obtain ⟨m,hm,hx⟩:=hmax _ hne
 obtain ⟨hmA,hmq⟩:=(hS m).1 hm
 obtain ⟨_,hmN,hmd⟩:=zx.1 hmA
 have hmr:=Xp hq hmd
 refine ⟨m,hmA,hmq,?_⟩
 have e1 : (abvL n m).length≤((abvL n q).erase q).length:=kv xz fun x hx=>by
  obtain ⟨_,hxN,hxd⟩:=zx.1 hx
  refine (hS x).2 ⟨zx.2 ⟨hq,hxN,YY hxd hmd⟩,fun e=>hmq ?_⟩
  subst e
  exact ad7 hq hmd hxd
 have e2 : ((abvL n q).erase q).length≤(abvL n m).length:=kv (xz.erase _) fun x hx'=>by
  obtain ⟨hxA,hxq⟩:=(hS x).1 hx'
  obtain ⟨_,hxN,hxd⟩:=zx.1 hxA
  refine zx.2 ⟨hmr,hxN,?_⟩
  rcases ac6 hq hxd hmd with h|h
  ·exact h
  ·refine Classical.byContradiction fun hnd=>?_
   have hxr:=Xp hq hxd
   have hlt : (m :: [] ++ []).length=1:=rfl
   have : (x::abvL n m).length≤(abvL n x).length:=kv (List.nodup_cons.2 ⟨fun hxm=>hnd (zx.1 hxm).2.2,xz⟩) fun y hy=>by
    rcases List.mem_cons.1 hy with rfl|hy
    ·exact zx.2 ⟨hxr,hxN,kg⟩
    ·obtain ⟨_,hyN,hyd⟩:=zx.1 hy
     exact zx.2 ⟨hxr,hyN,YY hyd h⟩
   have h2:=hx x hx'
   rw [List.length_cons] at this
   omega
 rw [List.length_erase_of_mem hqq] at e1 e2
 have : 0<(abvL n q).length:=List.length_pos_of_mem hqq
 omega
noncomputable def yg (n : zd) (q : Int) : Int:=(abvL n q).foldl (fun b p=>if p≠q∧((abvL n p).length : Int)=((abvL n q).length : Int) - 1 then p else b) (-1)
theorem Zk {P : Int→Prop} [DecidablePred P] : ∀ {l : List Int} {b : Int},((l.foldl (fun b p=>if P p then p else b) b)=b∧∀ p ∈ l,¬ P p)∨((l.foldl (fun b p=>if P p then p else b) b) ∈ l∧P (l.foldl (fun b p=>if P p then p else b) b))
 |[],b=>.inl ⟨rfl,by simp⟩
 |a::l,b=>by
  rw [List.foldl_cons]
  by_cases h : P a
  ·rw [if_pos h]
   rcases Zk (P:=P) (l:=l) (b:=a) with ⟨e,hn⟩|⟨e,hp⟩
   ·refine .inr ⟨by rw [e];exact List.mem_cons_self,by rw [e];exact h⟩
   ·exact .inr ⟨List.mem_cons_of_mem _ e,hp⟩
  ·rw [if_neg h]
   rcases Zk (P:=P) (l:=l) (b:=b) with ⟨e,hn⟩|⟨e,hp⟩
   ·refine .inl ⟨e,fun p hp=>?_⟩
    rcases List.mem_cons.1 hp with rfl|hp
    ·exact h
    ·exact hn p hp
   ·exact .inr ⟨List.mem_cons_of_mem _ e,hp⟩
theorem ad9 {n : zd} {q : Int} (h0 : 0<n.length) (hqN : isN n q) (hq : Rchd n zr 0 q) : (q=0∧yg n q = -1∧(abvL n q).length=1)∨(q≠0∧yg n q ∈ abvL n q∧(abvL n (yg n q)).length+1=(abvL n q).length):=by
 by_cases hz : q=0
 ·have hall : ∀ x ∈ abvL n q,x=0:=fun x hx=>by
   have:=(zx.1 hx).2.2
   rw [hz] at this;exact vE this
  have hlen : (abvL n q).length=1:=by
   have h1 : (abvL n q).length≤[(0 : Int)].length:=kv xz fun x hx=>by rw [hall x hx];simp
   have h2:=List.length_pos_of_mem (zx.2 ⟨hq,hqN,kg⟩ : q ∈ abvL n q)
   simp only [List.length_singleton] at h1
   omega
  refine .inl ⟨hz,?_,hlen⟩
  rcases Zk (P:=fun p=>p≠q∧((abvL n p).length : Int)=((abvL n q).length : Int) - 1) (l:=abvL n q) (b:=-1) with ⟨e,_⟩|⟨e,hp⟩
  ·exact e
  ·exact absurd ((hall _ e).trans hz.symm) hp.1
 ·refine .inr ⟨hz,?_⟩
  obtain ⟨p,hp,hpq,hl⟩:=ad8 h0 hqN hq hz
  rcases Zk (P:=fun p=>p≠q∧((abvL n p).length : Int)=((abvL n q).length : Int) - 1) (l:=abvL n q) (b:=-1) with ⟨_,hn⟩|⟨e,hp'⟩
  ·exact absurd ⟨hpq,by omega⟩ (hn p hp)
  ·refine ⟨e,?_⟩
   have h2:=hp'.2
   show (abvL n (yg n q)).length+1=_
   have : ((abvL n (yg n q)).length : Int)=((abvL n q).length : Int) - 1:=h2
   omega
theorem afH {n : zd} {W : List Int} {s p : Int} : (∃ w,Vw n W s w p)↔Rchd n (· ∈ W) s p:=by
 constructor
 ·rintro ⟨w,hw⟩
  obtain ⟨k,hk⟩ : ∃ k,w.length=k:=⟨_,rfl⟩
  induction k generalizing w p with
  |zero=>have:=hw.pos;omega
  |succ k ih=>
   rcases hw.last with ⟨_,rfl⟩|⟨u,q,rfl,hu,hst⟩
   ·exact .base
   ·rw [List.length_append,List.length_singleton] at hk
    exact .step (ih u hu (by omega)) hst.1 hst.2
 ·intro h
  induction h with
  |base=>exact ⟨_,.base⟩
  |step h hq hp ih=>
   obtain ⟨w,hw⟩:=ih
   exact ⟨_,hw.snoc ⟨hq,hp⟩⟩
end Go.Proofs
end
section
namespace Go.Proofs
set_option linter.unusedVariables false
set_option linter.unusedSimpArgs false
theorem Xq {o : List Int} (hn : o.Nodup) {i j : Nat} (hi : i<o.length) (hj : j<o.length) : Bfr o.reverse o[j] o[i]↔i<j:=by
 have e : o=o.take i++o[i]::o.drop (i+1):=by
  conv=>lhs;rw [← List.take_append_drop i o,List.drop_eq_getElem_cons hi]
 have hq : o[i] ∉ o.drop (i+1):=fun hm=>by
  obtain ⟨k,hk,ek⟩:=List.getElem_of_mem hm
  rw [List.getElem_drop] at ek
  rw [List.length_drop] at hk
  exact List.pairwise_iff_getElem.1 hn i (i+1+k) hi (by omega) (by omega) ek.symm
 have e2 : o.reverse=(o.drop (i+1)).reverse++o[i]::(o.take i).reverse:=by
  conv=>lhs;rw [e]
  simp
 have e3 : o.reverse.takeWhile (fun y=>decide (y≠o[i]))=(o.drop (i+1)).reverse:=by
  rw [e2,List.takeWhile_append_of_pos (by
   intro a ha
   simp only [decide_eq_true_eq]
   intro h;subst h;exact hq (List.mem_reverse.1 ha))]
  simp
 rw [Bfr,e3,List.mem_reverse]
 constructor
 ·intro hm
  obtain ⟨k,hk,ek⟩:=List.getElem_of_mem hm
  rw [List.getElem_drop] at ek
  rw [List.length_drop] at hk
  refine Nat.lt_of_not_le fun hle=>?_
  exact List.pairwise_iff_getElem.1 hn j (i+1+k) hj (by omega) (by omega) ek.symm
 ·intro hlt
  rw [List.mem_iff_getElem]
  refine ⟨j - (i+1),by rw [List.length_drop];omega,?_⟩
  rw [List.getElem_drop]
  congr 1;omega
def Zw (n : zd) (o : List Int) : List (Int × Int):=o.flatMap fun q=>(nxt n q).map fun p=>(q,p)
theorem J6 {n : zd} (hnd : ∀ q,(nxt n q).Nodup) : ∀ {o : List Int},o.Nodup→(Zw n o).Nodup
 |[],_=>.nil
 |q::o,h=>by
  have h':=List.nodup_cons.1 h
  rw [Zw,List.flatMap_cons,List.nodup_append]
  refine ⟨?_,J6 hnd h'.2,fun a ha b hb=>?_⟩
  ·rw [List.Nodup,List.pairwise_map]
   exact (hnd q).imp fun h e=>h (congrArg Prod.snd e)
  ·obtain ⟨p,hp,rfl⟩:=List.mem_map.1 ha
   obtain ⟨q',hq',hb⟩:=List.mem_flatMap.1 hb
   obtain ⟨p',_,rfl⟩:=List.mem_map.1 hb
   intro e
   have : q=q':=congrArg Prod.fst e
   subst this;exact h'.1 hq'
theorem Qj : ∀ {a b : List (Int × Int)},a.Nodup→(∀ x ∈ a,x ∈ b)→a.length≤b.length
 |[],b,_,_=>Nat.zero_le _
 |x::a,b,hn,hs=>by
  have hn':=List.nodup_cons.1 hn
  have hx:=hs x List.mem_cons_self
  have:=Qj (a:=a) (b:=b.erase x) hn'.2 fun y hy=>by
   have hne : y≠x:=fun e=>hn'.1 (e ▸ hy)
   exact (List.mem_erase_of_ne hne).2 (hs y (List.mem_cons_of_mem _ hy))
  rw [List.length_erase_of_mem hx] at this
  have hp : 0<b.length:=List.length_pos_of_mem hx
  rw [List.length_cons];omega
theorem Q0 {n : zd} (hnd : ∀ q,(nxt n q).Nodup) {o : List Int} {b : List (Int × Int)} (h : jk n o b) : ((Zw n o).filter fun e=>decide (e ∈ b)).length=b.length:=by
 refine Nat.le_antisymm (Qj ((J6 hnd h.nodup).filter _) fun x hx=>?_) (Qj h.bnodup fun x hx=>?_)
 ·have:=(List.mem_filter.1 hx).2
  simpa using this
 ·rw [List.mem_filter]
  obtain ⟨h1,h2⟩:=h.edge x hx
  exact ⟨List.mem_flatMap.2 ⟨x.1,h1,List.mem_map.2 ⟨x.2,h2,rfl⟩⟩,by simpa using hx⟩
def n3 : zd:=[[1],[2],[]]
def n1 : zd:=[[0],[]]
theorem xA : zM n3:=by
 intro l hl x hx
 simp only [n3,List.mem_cons,List.not_mem_nil,or_false] at hl
 rcases hl with rfl|rfl|rfl
 ·obtain rfl:=List.mem_singleton.1 hx;exact ⟨by decide,by decide⟩
 ·obtain rfl:=List.mem_singleton.1 hx;exact ⟨by decide,by decide⟩
 ·cases hx
theorem afI : befN n3 2 = [1]:=by decide
theorem afJ : y7 n3 zr 1 = [false,true,true]:=by
 have h:=Bfs.start (n:=n3) (stop:=zr) (s:=1) ⟨by decide,by decide⟩
 have h:=h.go xA (.inl rfl)
 have h:=h.go xA (.inr id)
 exact (h.end xA ⟨by decide,by decide⟩).symm
theorem ae3 : y7 n3 zr 0 = [true,true,true]:=by
 have h:=Bfs.start (n:=n3) (stop:=zr) (s:=0) ⟨by decide,by decide⟩
 have h:=h.go xA (.inl rfl)
 have h:=h.go xA (.inr id)
 have h:=h.go xA (.inr id)
 exact (h.end xA ⟨by decide,by decide⟩).symm
theorem afK : y7 n3 (· = 1) 0 = [true,true,false]:=by
 have h:=Bfs.start (n:=n3) (stop:=(· = 1)) (s:=0) ⟨by decide,by decide⟩
 have h:=h.go xA (.inl rfl)
 have h:=h.skip ⟨by decide,rfl⟩
 exact (h.end xA ⟨by decide,by decide⟩).symm
theorem YZ (x : Int) (hx : isN n3 x) : Rchd n3 zr 0 x:=(kY hx).1 (by
 rw [ae3]
 have:=hx.1;have h2 : x<3:=hx.2
 rcases (show x=0∨x=1∨x=2 by omega) with rfl|rfl|rfl<;>rfl)
theorem afL : Dom n3 1 2:=.inr (.inr fun h=>by
 have:=(kY (n:=n3) (stop:=(· = 1)) (s:=0) (x:=2) ⟨by decide,by decide⟩).2 h
 rw [afK] at this;cases this)
theorem Y0 : abvL n3 0 = [0]:=by
 have h : ∀ x ∈ abvL n3 0,x=0:=fun x hx=>vE (zx.1 hx).2.2
 have h0 : (0 : Int) ∈ abvL n3 0:=zx.2 ⟨.base,⟨by decide,by decide⟩,kg⟩
 have hn:=xz (n:=n3) (q:=0)
 cases e : abvL n3 0 with
 |nil=>rw [e] at h0;cases h0
 |cons a l=>
  rw [e] at h hn
  have ha:=h a List.mem_cons_self
  cases l with
  |nil=>rw [ha]
  |cons b l=>
   have hb:=h b (by simp)
   rw [ha,hb] at hn
   simp at hn
theorem Z8 : ∀ {l m : List Int},l.Pairwise (· < ·)→m.Pairwise (· < ·)→(∀ x,x ∈ l↔x ∈ m)→l=m
 |[],[],_,_,_=>rfl
 |[],y::m,_,_,h=>absurd ((h y).2 List.mem_cons_self) (by simp)
 |x::l,[],_,_,h=>absurd ((h x).1 List.mem_cons_self) (by simp)
 |x::l,y::m,hl,hm,h=>by
  have hl':=List.pairwise_cons.1 hl
  have hm':=List.pairwise_cons.1 hm
  have hxy : x=y:=by
   rcases List.mem_cons.1 ((h x).1 List.mem_cons_self) with e|h1
   ·exact e
   rcases List.mem_cons.1 ((h y).2 List.mem_cons_self) with e|h2
   ·exact e.symm
   have:=hl'.1 y h2;have:=hm'.1 x h1;omega
  subst hxy
  rw [Z8 hl'.2 hm'.2 fun z=>?_]
  constructor
  ·intro hz
   rcases List.mem_cons.1 ((h z).1 (List.mem_cons_of_mem _ hz)) with e|hz'
   ·have:=hl'.1 z hz;omega
   ·exact hz'
  ·intro hz
   rcases List.mem_cons.1 ((h z).2 (List.mem_cons_of_mem _ hz)) with e|hz'
   ·have:=hm'.1 z hz;omega
   ·exact hz'
theorem Xr {x : Int} (hx : isN n3 x) : x=0∨x=1∨x=2:=by
 have:=hx.1;have h2 : x<3:=hx.2
 omega
theorem ae4 : y7 n3 (· = 2) 0 = [true,true,true]:=by
 have h:=Bfs.start (n:=n3) (stop:=(· = 2)) (s:=0) ⟨by decide,by decide⟩
 have h:=h.go xA (.inl rfl)
 have h:=h.go xA (.inr (by decide))
 have h:=h.skip ⟨by decide,rfl⟩
 exact (h.end xA ⟨by decide,by decide⟩).symm
theorem ac7 : abvL n3 1 = [0,1]:=by
 refine Z8 Zv (by decide) fun x=>?_
 rw [zx]
 constructor
 ·rintro ⟨_,hx,hd⟩
  rcases Xr hx with rfl|rfl|rfl
  ·decide
  ·decide
  ·exfalso
   rcases hd with e|e|hd
   ·exact absurd e (by decide)
   ·exact absurd e (by decide)
   ·exact hd ((kY (n:=n3) (stop:=(· = 2)) (s:=0) (x:=1) ⟨by decide,by decide⟩).1 (by rw [ae4];rfl))
 ·intro h
  simp only [List.mem_cons,List.not_mem_nil,or_false] at h
  rcases h with rfl|rfl
  ·exact ⟨YZ _ ⟨by decide,by decide⟩,⟨by decide,by decide⟩,.inr (.inl rfl)⟩
  ·exact ⟨YZ _ ⟨by decide,by decide⟩,⟨by decide,by decide⟩,kg⟩
theorem Y1 : abvL n3 2 = [0,1,2]:=by
 refine Z8 Zv (by decide) fun x=>?_
 rw [zx]
 constructor
 ·rintro ⟨_,hx,hd⟩
  rcases Xr hx with rfl|rfl|rfl<;>decide
 ·intro h
  simp only [List.mem_cons,List.not_mem_nil,or_false] at h
  rcases h with rfl|rfl|rfl
  ·exact ⟨YZ _ ⟨by decide,by decide⟩,⟨by decide,by decide⟩,.inr (.inl rfl)⟩
  ·exact ⟨YZ _ ⟨by decide,by decide⟩,⟨by decide,by decide⟩,afL⟩
  ·exact ⟨YZ _ ⟨by decide,by decide⟩,⟨by decide,by decide⟩,kg⟩
theorem ac8 : yg n3 0 = -1:=by rw [yg,Y0];simp
theorem ac9 : yg n3 2=1:=by
 rw [yg,Y1]
 simp [Y0,ac7,Y1]
theorem ae5 : Mst n3 (zK (yI n3) 0,[(0,0)]) (⟨[2,2,2],[2,1,0],[]⟩,[]):=⟨5,rfl⟩
theorem ae6 : Mst n1 (zK (yI n1) 0,[(0,0)]) (⟨[2,0],[0],[(0,0)]⟩,[]):=⟨2,rfl⟩
theorem ada : xb n3 0 2 []=some [0,1,2]:=by
 have hs : isN n3 0:=⟨by decide,by decide⟩
 have hf : FarD n3 [] 0 2 [2,1,0]:=by
  have h:=Bk.start (n:=n3) (W:=[]) (s:=0) (t:=2) ⟨by decide,by decide⟩ (by decide)
  refine ⟨fun x hx=>?_,fun x hx h0=>?_,fun x hx=>?_,fun y x hx hy he hs h0 hel=>?_⟩
  ·rcases Xr hx with rfl|rfl|rfl<;>decide
  ·rcases Xr hx with rfl|rfl|rfl
   ·exact ⟨.inl rfl,1,by decide,by decide,by decide⟩
   ·exact ⟨.inr (by simp),2,by decide,by decide,by decide⟩
   ·exact absurd h0 (by decide)
  ·rcases Xr hx with rfl|rfl|rfl<;>decide
  ·rcases Xr hx with rfl|rfl|rfl
   ·obtain rfl : y=1:=by simpa [nxt,n3] using he
    decide
   ·obtain rfl : y=2:=by simpa [nxt,n3] using he
    decide
   ·simp [nxt,n3] at he
 have h:=Grd.start (n:=n3) (W:=[]) (t:=2) (far:=[2,1,0]) hs (by decide)
 have h:=(h.go xA hf hs (by decide)).1
 have h:=(h.go xA hf hs (by decide)).1
 exact h.end xA hf hs ⟨by decide,by decide⟩
end Go.Proofs
end
section
namespace Go.Sh
theorem ae7 {w : World} {b m x : Bool} {A1 : (List Value→World→Prop)→Prop} {A2 : (List Value→World→Prop)→World→Prop} {Z : Value→World→Prop}
  (h1 : ∀ K : List Value→World→Prop,K [.bool m] w→A1 K) (h2 : m=false→∀ K : List Value→World→Prop,K [.bool x] w→A2 K w) (hZ : Z (.bool (b&&(m||x))) w) :
  za (fun K=>gIf (.bool b) true (A1 K) (K [undef] w)) fun s212 _ w214=>
   za (fun K=>gIf (s212.getD 0 undef) false (A2 K w214) (K [undef] w214)) fun s216 _ w218=>
    za (fun K=>gIf (.bool b) true (zb (s212.getD 0 undef) (.bool true) (s216.getD 0 undef) fun t=>K [t] w218) (K [undef] w218)) fun s221 _ w223=>
     zb (.bool b) (s221.getD 0 undef) (.bool false) fun t=>Z t w223:=by
 cases b<;>cases m<;>cases x <;>
  (iterate 3 (intro K hK;first|refine hK _ _ fun _=>?_|refine h1 _ (hK _ _ fun _=>?_)|(refine h2 rfl _ (hK _ _ fun _=>?_))|refine ⟨_,rfl,hK _ _ fun _=>?_⟩)) <;>
  exact ⟨_,rfl,by simpa using hZ⟩
end Go.Sh
namespace Go.Proofs
open Go.Sh Go.RowKit
set_option maxRecDepth 100000
set_option linter.unusedSimpArgs false
set_option linter.unusedVariables false
def xP (R : yd) (m : List Bool) (p : Int) : List Bool:=m.mapIdx fun i b=>b&&rwH R p (i : Nat)
theorem Qk {R : yd} {m : List Bool} {p : Int} : (xP R m p).length=m.length:=by simp [xP]
theorem ae8 {R : yd} {m : List Bool} {p x : Int} (h0 : 0≤x) (h1 : x<m.length) : mk' (xP R m p) x=(mk' m x&&rwH R p x):=by
 rw [mk',mk',xP,List.getD_eq_getElem?_getD,List.getD_eq_getElem?_getD,List.getElem?_mapIdx,List.getElem?_eq_getElem (by omega)]
 simp [Int.toNat_of_nonneg h0]
theorem Zl {R : yd} : ∀ {l : List Int} {m : List Bool},(l.foldl (xP R) m).length=m.length
 |[],_=>rfl
 |p::l,m=>by rw [List.foldl_cons,Zl,Qk]
theorem aat {R : yd} {x : Int} (h0 : 0≤x) : ∀ {l : List Int} {m : List Bool},x<m.length→mk' (l.foldl (xP R) m) x=(mk' m x&&l.all fun p=>rwH R p x)
 |[],m,h=>by simp
 |p::l,m,h=>by
  rw [List.foldl_cons,aat h0 (by rw [Qk];exact h),ae8 h0 h,List.all_cons,Bool.and_assoc]
theorem afM {n : zd} {R : yd} {q : Int} (hq : isN n q) : zA ((befN n q).foldl (xP R) (List.replicate n.length true)) q=rwF n R q:=by
 have hl : ((befN n q).foldl (xP R) (List.replicate n.length true)).length=n.length:=by rw [Zl,List.length_replicate]
 refine jn (by rw [zT,hl,j5]) fun x h0 h1=>?_
 rw [zT,hl] at h1
 rw [xC hq.1 (by rw [hl];exact hq.2) h0,aat h0 (by rw [List.length_replicate];exact h1),Bool.eq_iff_iff,QW ⟨h0,h1⟩]
 have e : mk' (List.replicate n.length true) x=true:=by
  rw [mk',List.getD_eq_getElem?_getD,List.getElem?_replicate,if_pos (by omega)];rfl
 rw [e,Bool.true_and,Bool.or_eq_true,decide_eq_true_eq,List.all_eq_true]
theorem abZ {n : zd} {o : List Int} {b : List (Int × Int)} (h : jk n o b) (h0 : 0<n.length) : ∃ hl : 0<o.length,o[0]=0:=by
 have hz : (0 : Int) ∈ o:=(h.mem 0).2 ⟨⟨Int.le_refl _,by omega⟩,.base⟩
 obtain ⟨j,hj,e⟩:=List.getElem_of_mem hz
 refine ⟨by omega,?_⟩
 by_cases hj0 : j=0
 ·subst hj0;exact e
 ·exfalso
  have:=h.dom o[0] (List.getElem_mem (by omega)) 0 (.inr (.inl rfl))
  rw [← e] at this
  exact this ((Xq h.nodup (i:=0) (j:=j) (by omega) hj).2 (by omega))
def RwC (r : Gh) (c : List Value) (o : Option (List Bool)) : Prop:=∃ u,c = [u]∧(o=none→u = .slice none 0 0)∧∀ m,o=some m→SlG 1 r kV u m
theorem RwC.up {r s : Gh} {c : List Value} {o : Option (List Bool)} (h : RwC r c o) [le : Le r s] : RwC s c o:=by
 obtain ⟨u,h1,h2,h3⟩:=h;exact ⟨u,h1,h2,fun m hm=>(h3 m hm).cells⟩
structure RwS (n : zd) (o : List Int) (i : Nat) (s : Gh) (c : List Value) (M : List Asr) : Prop where
 len : c.length=n.length
 one : i=0→M = []
 zero : 0<i→∃ b,M = [.cell b (bls (List.replicate n.length false)) 4]∧c[0]? = some (.slice (some ⟨b,0,none⟩) n.length n.length)
 oth : ∀ q : Int,isN n q→q≠0→∃ u,c[q.toNat]? = some u∧RwC s [u] (if q ∈ o.take i then some (List.replicate n.length true) else none)
theorem RwS.start {n : zd} {o : List Int} {s : Gh} : RwS n o 0 s (List.replicate n.length (.slice none 0 0)) []:=
 ⟨List.length_replicate,fun _=>rfl,fun h=>absurd h (Nat.lt_irrefl _),fun q hq _=>⟨.slice none 0 0,by rw [List.getElem?_replicate,if_pos (by have:=hq.1;have:=hq.2;omega)],_,rfl,fun _=>rfl,fun m hm=>by simp at hm⟩⟩
theorem RwS.first {n : zd} {o : List Int} {s : Gh} {c : List Value} {M : List Asr} (h : RwS n o 0 s c M) (hn : 0<n.length) (hl : 0<o.length) (ho : o[0]=0) (hnd : o.Nodup) (b : Nat) :
  RwS n o 1 s (c.set 0 (.slice (some ⟨b,0,none⟩) n.length n.length)) [.cell b (bls (List.replicate n.length false)) 4]:=by
 refine ⟨by rw [List.length_set];exact h.len,fun h=>absurd h (by decide),fun _=>⟨b,rfl,by rw [List.getElem?_set_self (by rw [h.len];exact hn)]⟩,fun q hq hq0=>?_⟩
 obtain ⟨u,h1,h2⟩:=h.oth q hq hq0
 refine ⟨u,by rw [List.getElem?_set_ne (by have:=hq.1;omega)];exact h1,?_⟩
 have e : o.take 1 = [0]:=by
  cases o with
  |nil=>simp at hl
  |cons a l=>simp only [List.getElem_cons_zero] at ho;rw [ho];rfl
 rw [e,if_neg (by simpa using hq0)]
 rw [List.take_zero,if_neg (by simp)] at h2
 exact h2
theorem RwS.next {n : zd} {o : List Int} {i : Nat} {s s' : Gh} {c : List Value} {M : List Asr} (h : RwS n o i s c M) [Le s s'] (hi : 0<i) (hil : i<o.length) (hq : isN n o[i]) (hq0 : o[i]≠0) {u : Value} (hu : SlG 1 s' kV u (List.replicate n.length true)) :
  RwS n o (i+1) s' (c.set o[i].toNat u) M:=by
 have q0:=hq.1;have q1:=hq.2
 refine ⟨by rw [List.length_set];exact h.len,fun h=>by omega,fun _=>?_,fun q hq' hq0'=>?_⟩
 ·obtain ⟨b,h1,h2⟩:=h.zero hi
  exact ⟨b,h1,by rw [List.getElem?_set_ne (by omega)];exact h2⟩
 ·have hm : q ∈ o.take (i+1)↔q ∈ o.take i∨q=o[i]:=by rw [List.take_succ_eq_append_getElem hil,List.mem_append,List.mem_singleton]
  by_cases e : q=o[i]
  ·refine ⟨u,by rw [e,List.getElem?_set_self (by rw [h.len];omega)],u,rfl,fun hh=>?_,fun m hh=>?_⟩
   ·rw [if_pos (hm.2 (.inr e))] at hh;cases hh
   ·rw [if_pos (hm.2 (.inr e))] at hh;cases hh;exact hu
  ·obtain ⟨u',h1,h2⟩:=h.oth q hq' hq0'
   have h3:=hq'.1
   refine ⟨u',by rw [List.getElem?_set_ne (by omega)];exact h1,?_⟩
   have h4 : (if q ∈ o.take (i+1) then some (List.replicate n.length true) else none)=(if q ∈ o.take i then some (List.replicate n.length true) else none):=by
    by_cases h5 : q ∈ o.take i
    ·rw [if_pos h5,if_pos (hm.2 (.inl h5))]
    ·rw [if_neg h5,if_neg fun h6=>(hm.1 h6).elim h5 e]
   rw [h4];exact h2.up
noncomputable def rows0 (n : zd) (o : List Int) : yd:=(List.range n.length).map fun (i : Nat)=>if i=0 then some (zA (List.replicate n.length false) 0) else if (i : Int) ∈ o then some (List.replicate n.length true) else none
theorem Ql {n : zd} {o : List Int} {q : Int} (hq : isN n q) : rwA (rows0 n o) q=if q=0 then some (zA (List.replicate n.length false) 0) else if q ∈ o then some (List.replicate n.length true) else none:=by
 have h0:=hq.1;have h1:=hq.2
 rw [rwA,rows0,List.getD_eq_getElem?_getD,List.getElem?_map,List.getElem?_range (by omega)]
 simp only [Option.map_some,Option.getD_some,Int.toNat_of_nonneg h0]
 by_cases e : q=0
 ·rw [if_pos (by omega),if_pos e]
 ·rw [if_neg (by omega),if_neg e]
theorem adb {n : zd} {o : List Int} {b : List (Int × Int)} (h : jk n o b) (h0 : 0<n.length) : Abv n (rows0 n o):=by
 refine Abv.start h0 (by simp [rows0]) ?_ fun q hq hq0=>?_
 ·rw [Ql ⟨Int.le_refl _,by omega⟩,if_pos rfl]
 ·rw [Ql hq,if_neg hq0]
  refine ⟨fun hr=>if_pos ((h.mem q).2 ⟨hq,hr⟩),fun hr=>if_neg fun hm=>hr ((h.mem q).1 hm).2⟩
theorem RwS.done {n : zd} {o : List Int} {s s' : Gh} {c : List Value} {M : List Asr} (h : RwS n o o.length s c M) [Le s s'] (hn : 0<n.length) {u : Value} (hu : c[0]? = some u) (hu0 : SlG 1 s' kV u (zA (List.replicate n.length false) 0)) : RowOf 1 (RwC s') c (rows0 n o):=by
 have hl : (rows0 n o).length=n.length:=by simp [rows0]
 refine ⟨by rw [h.len,hl,Nat.mul_one],fun j hj=>?_⟩
 have hjn : isN n (j : Int):=⟨Int.natCast_nonneg j,by omega⟩
 have e : (rows0 n o)[j]=rwA (rows0 n o) (j : Int):=by
  rw [rwA,Int.toNat_natCast,List.getD_eq_getElem?_getD,List.getElem?_eq_getElem hj];rfl
 have hjc : j<c.length:=by rw [h.len];omega
 have e2 : (c.drop (j*1)).take 1 = [c[j]]:=by
  rw [Nat.mul_one,List.drop_eq_getElem_cons hjc];rfl
 rw [e,e2,Ql hjn]
 by_cases hj0 : (j : Int)=0
 ·have hj0' : j=0:=by omega
  subst hj0'
  rw [if_pos hj0]
  rw [List.getElem?_eq_getElem hjc] at hu
  cases hu
  exact ⟨_,rfl,fun h=>(by cases h),fun m hm=>by cases hm;exact hu0⟩
 ·rw [if_neg hj0]
  obtain ⟨v,h1,h2⟩:=h.oth j hjn hj0
  rw [List.take_length] at h2
  rw [Int.toNat_natCast,List.getElem?_eq_getElem hjc] at h1
  cases h1
  exact h2.up
theorem adc {r : Gh} {c : List Value} {R : yd} (h : RowOf 1 (RwC r) c R) {q : Int} (hq : q.toNat<R.length) : ∃ u,c[q.toNat]? = some u∧RwC r [u] (rwA R q):=by
 have h2:=h.2 q.toNat hq
 have hl:=h.1
 have hc : q.toNat<c.length:=by omega
 rw [Nat.mul_one,List.drop_eq_getElem_cons hc,List.take_succ_cons,List.take_zero] at h2
 refine ⟨_,List.getElem?_eq_getElem hc,?_⟩
 rw [rwA,List.getD_eq_getElem?_getD,List.getElem?_eq_getElem hq];exact h2
theorem ae9 {r s : Gh} {c : List Value} {R : yd} (h : RowOf 1 (RwC r) c R) [Le r s] {q : Int} {u : Value} {o : Option (List Bool)} (hu : RwC s [u] o) : RowOf 1 (RwC s) (c.set q.toNat u) (R.set q.toNat o):=by
 refine ⟨by rw [List.length_set,List.length_set];exact h.1,fun j hj=>?_⟩
 rw [List.length_set] at hj
 have hl:=h.1
 have hjc : j<c.length:=by omega
 have h2:=h.2 j hj
 rw [Nat.mul_one,List.drop_eq_getElem_cons hjc,List.take_succ_cons,List.take_zero] at h2
 rw [Nat.mul_one,List.drop_eq_getElem_cons (by rw [List.length_set];exact hjc),List.take_succ_cons,List.take_zero]
 by_cases e : q.toNat=j
 ·subst e
  rw [List.getElem_set_self,List.getElem_set_self];exact hu
 ·rw [List.getElem_set_ne e,List.getElem_set_ne e];exact h2.up
end Go.Proofs
end
section
namespace Go.Proofs
open Go.Sh Go.RowKit
set_option maxRecDepth 100000
set_option linter.unusedSimpArgs false
set_option linter.unusedVariables false
def afN (s : Gh) (v : Value) (R : yd) : Prop:=SlG 1 s (RwC s) v R
def aea (n : zd) (o : List Int) (k : Nat) (R : yd) : Prop:=∀ j (hj : j<o.length),1≤j→j≤k→rwA R o[j]=some (rwF n R o[j])
theorem aau {r : Gh} {u : Value} {o : Option (List Bool)} (h : RwC r [u] o) (hp : ∀ m,o=some m→0<m.length) : ∃ pp k cp,u = .slice pp k cp∧pp.isNone=o.isNone∧∀ m,o=some m→k=m.length∧∀ (i : Nat) (hi : i<m.length),∃ b off,pp=some ⟨b,off,none⟩∧Ob r fun w=>w.cell? ⟨b,off+i,none⟩=some (.bool m[i]):=by
 obtain ⟨u',e,h1,h2⟩:=h
 cases e
 cases o with
 |none=>exact ⟨none,0,0,h1 rfl,rfl,fun m hm=>by cases hm⟩
 |some m=>
  have hm:=h2 m rfl
  obtain ⟨pp,cp,rfl,_,_⟩:=hm.shape
  obtain ⟨b,off,rfl,_,_⟩:=ZL hm (hp m rfl)
  refine ⟨_,_,_,rfl,rfl,fun m' e=>?_⟩
  cases e
  refine ⟨rfl,fun i hi=>?_⟩
  obtain ⟨b',off',hE,_,hc⟩:=ZL hm hi
  exact ⟨b',off',hE,hc⟩
theorem afO {a m : List Bool} {i : Nat} (hl : a.length=m.length) (hi : i<m.length) : (bls (a.take i++m.drop i))[0+i]? = some (.bool m[i]):=by
 rw [Nat.zero_add,bls,List.getElem?_map,List.getElem?_append_right (by rw [List.length_take];omega),List.length_take,Nat.min_eq_left (by omega),Nat.sub_self,List.getElem?_drop,Nat.add_zero,List.getElem?_eq_getElem hi];rfl
theorem afa {a m : List Bool} {i : Nat} (hl : a.length=m.length) (hi : i<m.length) : (bls (a.take i++m.drop i)).set (0+i) (.bool (a[i]'(by omega)))=bls (a.take (i+1)++m.drop (i+1)):=by
 have hia : i<a.length:=by omega
 have e1 : (a.take i).length=i:=by rw [List.length_take];omega
 rw [Nat.zero_add,bls,bls,← List.map_set,List.set_append_right _ _ (by omega),e1,Nat.sub_self,List.drop_eq_getElem_cons hi,List.set_cons_zero,List.take_succ_eq_append_getElem hia,List.append_assoc];rfl
set_option maxHeartbeats 4000000 in
theorem JC {n : zd} {v : Value} {w : World} {r : Gh} {K : Value→World→Prop} (hr : Holds r w) (hn : NetG r v n) (hok : zM n) (hnar : Qi n) (hnd : ∀ q,(nxt n q).Nodup) (h0 : 0<n.length) (hf : n.length≤100000)
  (h : ∀ v' s w' R,Ext w w'→New w s w'→afN s v' R→R.length=n.length→(∀ q,isN n q→rwA R q=xn n q)→K v' w') : ze Tryz.prog Tryz.yO #[v] w K:=by
 refine Tryz.XA ?_
 unfold Tryz.vC
 have hn0:=hn
 obtain ⟨p,cap,rfl,_,_⟩:=hn.sl.shape
 have S:=St.start hr
 refine aar hr hn hok hnar h0 hf fun vo vb so w1 st e1 n1 hM ho hb=>?_
 obtain ⟨S,_,ha1⟩:=S.tell e1 n1
 have hW:=aaq hok hnd h0 hM
 generalize st.out.reverse=o at ho hW
 generalize st.back=bk at hb hW
 clear hb hM
 obtain ⟨hol,hoz⟩:=abZ hW h0
 have holen : o.length≤n.length:=by
  have:=kv (a:=o) (b:=(List.range n.length).map Int.ofNat) hW.nodup fun x hx=>by
   have hx':=((hW.mem x).1 hx).1
   have h1:=hx'.1;have h2:=hx'.2
   exact List.mem_map.2 ⟨x.toNat,List.mem_range.2 (by omega),Int.toNat_of_nonneg h1⟩
  simpa using this
 have hoN : ∀ (i : Nat) (hi : i<o.length),isN n o[i]:=fun i hi=>((hW.mem _).1 (List.getElem_mem hi)).1
 have hon0 : ∀ (i : Nat) (hi : i<o.length),0<i→o[i]≠0:=fun i hi hi0 e=>List.pairwise_iff_getElem.1 hW.nodup 0 i hol hi hi0 (hoz.trans e.symm)
 obtain ⟨po,capo,rfl,_,hcapo⟩:=ho.shape
 refine gg_ ?_
 refine S.mkS (by omega) (by omega) fun b24 w2 S=>?_
 rw [Int.toNat_natCast] at S ⊢
 refine gg_ ?_
 refine zh (ι:=Nat × Gh × List Value × List Asr) (fun i=>[.int .i64 (i.1 : Nat)]) (fun i w'=>i.1≤o.length∧Above w i.2.1∧RwS n o i.1 i.2.1 i.2.2.1 i.2.2.2∧StX noX w ((r.or so).or i.2.1) w' (.cell b24 i.2.2.1 75::i.2.2.2))
  (fun i=>o.length - i.1) (0,nothing,List.replicate n.length (.slice none 0 0),[]) rfl ⟨Nat.zero_le _,Above.no,RwS.start,S.to _⟩ ?_
 repeat clear S
 rintro ⟨i,s,c,M⟩ d w3 ⟨hi,ha,hR,S⟩ K3 hK3
 simp only at hi ha hR S ⊢
 rw [List.getD_cons_zero]
 refine gg_ ?_
 refine zm (fun hlt=>?_) (fun hge=>?_)
 ·have hlt : i<o.length:=by omega
  obtain ⟨bo,oo,hpo,_,hco⟩:=zw ho hlt
  subst hpo
  have hqN:=hoN i hlt
  have q0:=hqN.1;have q1:=hqN.2
  refine gg_ ?_
  refine zj (by rw [Int.toNat_natCast];exact S.at hco) ?_
  refine gg_ ?_
  refine S.lit (e:=4) (cs:=[.bool (decide (o[i]≠0))]) (by kernel_rfl) fun b35 w4 S=>?_
  refine gg_ ?_
  refine Yj (sb:=b35) (z:=decide (o[i]≠0)) S (by omega) hf fun b38 w5 S=>?_
  have S:=S.drop b35
  refine gg_ ?_
  refine S.st (b:=b24) (fun w6 S=>?_) (by rw [hR.len];omega)
  rw [Nat.zero_add] at S
  refine gp_ ?_
  by_cases hi0 : i=0
  ·subst hi0
   have hM:=hR.one rfl
   subst hM
   have hz : o[0]=0:=hoz
   refine hK3 (1,s,_,_) _ ⟨hlt,ha,hR.first h0 hol hoz hW.nodup b38,?_⟩ (by show o.length - 1<o.length - 0;omega)
   have S:=S.swap
   rw [hz] at S
   simpa [bls] using S
  ·have hq0:=hon0 i hlt (by omega)
   rw [decide_eq_true hq0] at S
   have e2 : List.replicate n.length (Value.bool true)=bls (List.replicate n.length true):=by simp [bls]
   rw [e2] at S
   obtain ⟨S,hs,hb38⟩:=S.litNew b38 (sz:=1) (R:=kV) (l:=List.replicate n.length true) ju (by decide)
   rw [List.length_replicate] at hs
   refine hK3 (i+1,s.or (Go.Sh.one b38 (bls (List.replicate n.length true)) 4),_,M) _ ⟨hlt,ha.or' hb38,hR.next (by omega) hlt hqN hq0 hs.cells,S.reGh⟩ (by show o.length - (i+1)<o.length - i;omega)
 have hie : i=o.length:=by omega
 subst hie
 clear hK3
 obtain ⟨b0,rfl,hc0⟩:=hR.zero hol
 refine gg_ ?_
 refine S.ld (b:=b24) ?_ (by simpa using hc0)
 refine gg_ ?_
 refine S.st (b:=b0) (fun w4 S=>?_) (by rw [kr,List.length_replicate];simpa using h0)
 have S : StX noX w ((r.or so).or s) w4 [.cell b0 (bls (zA (List.replicate n.length false) 0)) 4,.cell b24 c 75]:=by
  have e : (bls (List.replicate n.length false)).set (0+Int.toNat 0) (.bool true)=bls (zA (List.replicate n.length false) 0):=qW (Int.le_refl 0)
  rw [← e];exact S.swap
 obtain ⟨S,hs0,hb0⟩:=S.litNew b0 (sz:=1) (R:=kV) (l:=zA (List.replicate n.length false) 0) ju (by decide)
 rw [zT,List.length_replicate] at hs0
 have hR0:=hR.done (s':=s.or (Go.Sh.one b0 (bls (zA (List.replicate n.length false) 0)) 4)) h0 hc0 hs0.cells
 have hA0:=adb hW h0
 have ha0:=ha.or' hb0
 have S:=S.reGh
 clear hR ha hs0 hc0 hb0
 generalize s.or (Go.Sh.one b0 (bls (zA (List.replicate n.length false) 0)) 4)=sR at S hR0 ha0
 generalize rows0 n o=R0 at hR0 hA0
 refine gg_ ?_
 refine S.mkS (by omega) (by omega) fun b47 w5 S=>?_
 rw [Int.toNat_natCast] at S ⊢
 refine gg_ ?_
 have hrl:=qX (n:=n)
 have hrv : ∀ (i : Nat) (hi : i<(xc n).length),(xc n)[i]=befN n (i : Nat):=fun i hi=>by simp [xc]
 refine zh (ι:=Nat × Gh × List Value) (fun i=>[.int .i64 (i.1 : Nat)]) (fun i w'=>i.1≤n.length∧Above w i.2.1∧RowOf 1 (RowC i.2.1) i.2.2 ((xc n).take i.1)∧StX noX w (((r.or so).or sR).or i.2.1) w' [.cell b47 (i.2.2++List.replicate (n.length - i.1) (.slice none 0 0)) 28,.cell b24 c 75])
  (fun i=>n.length - i.1) (0,nothing,[]) rfl ⟨Nat.zero_le _,Above.no,by simpa using RowOf.nil,S.to _⟩ ?_
 repeat clear S
 rintro ⟨i,sB,cB⟩ d w6 ⟨hi,haB,hRB,S⟩ K12 hK12
 simp only at hi haB hRB S ⊢
 rw [List.getD_cons_zero]
 have hcBl : cB.length=i:=by
  have:=hRB.1
  rw [List.length_take,Nat.mul_one] at this;omega
 refine gg_ ?_
 refine zm (fun hlt=>?_) (fun hge=>?_)
 ·have hlt : i<n.length:=by omega
  refine Qg S.holds hn0.up (by omega) fun v' s' w7 e7 n7 hv'=>?_
  obtain ⟨S,_,ha7⟩:=S.tell e7 n7
  obtain ⟨pv,cv,rfl,_,_⟩:=hv'.shape
  refine gg_ ?_
  refine S.st (b:=b47) (fun w8 S=>?_) (by rw [List.length_append,List.length_replicate];omega)
  refine gp_ ?_
  refine hK12 (i+1,sB.or s',cB ++ [.slice pv (befN n (i : Nat)).length cv]) _ ⟨hlt,haB.or' ha7,?_,?_⟩ (by show n.length - (i+1)<n.length - i;omega)
  ·rw [List.take_succ_eq_append_getElem (by omega),hrv]
   exact (hRB.mono fun _ _ h=>RowC.up h).snoc rfl ⟨_,rfl,hv'.cells,Nat.le_trans Xn (Nat.le_trans hf (by decide))⟩
  ·have e : (cB++List.replicate (n.length - i) (Value.slice none 0 0)).set (0+((i : Nat) : Int).toNat) (.slice pv (befN n (i : Nat)).length cv)=(cB ++ [.slice pv (befN n (i : Nat)).length cv])++List.replicate (n.length - (i+1)) (.slice none 0 0):=by
    rw [Nat.zero_add,Int.toNat_natCast,List.set_append_right _ _ (by omega),hcBl,Nat.sub_self,show n.length - i=(n.length - (i+1))+1 by omega,List.replicate_succ,List.set_cons_zero,List.append_assoc];rfl
   have S:=S.reGh
   rw [e] at S;exact S
 have hie : i=n.length:=by omega
 subst hie
 clear hK12
 rw [Nat.sub_self,List.replicate_zero,List.append_nil] at S
 rw [← hrl,List.take_length] at hRB
 obtain ⟨S,hsB,hb47⟩:=S.litNew b47 (sz:=1) (R:=RowC sB) (l:=xc n) hRB (by decide)
 have hB : NetG (sB.or (Go.Sh.one b47 cB 28)) (.slice (some ⟨b47,0,none⟩) n.length n.length) (xc n):=by
  rw [hrl] at hsB
  exact ⟨hsB.up' inferInstance fun _ _ h=>RowC.up h,by rw [hrl];exact Nat.le_trans hf (by decide)⟩
 have haB':=haB.or' hb47
 have S:=S.reGh
 clear hsB hRB haB hb47
 generalize sB.or (Go.Sh.one b47 cB 28)=sN at S hB haB'
 refine zh (ι:=Bool × Gh × List Value × yd) (fun i=>[.bool i.1]) (fun i w'=>Abv n i.2.2.2∧Above w i.2.1∧RowOf 1 (RwC i.2.1) i.2.2.1 i.2.2.2∧(i.1=false→aea n o o.length i.2.2.2)∧StX noX w (((r.or so).or sN).or i.2.1) w' [.cell b24 i.2.2.1 75])
  (fun i=>2*rwW i.2.2.2+i.1.toNat) (true,sR,c,R0) rfl ⟨hA0,ha0,hR0,(fun h=>by cases h),S.less (fun b o x=>x.elim (fun x=>x.elim (fun x=>.inl (.inl x)) .inr) fun x=>.inl (.inr x)) (List.Sublist.refl _)⟩ ?_
 repeat clear S
 clear hA0 ha0 hR0
 rintro ⟨ch,s,c,R⟩ d w7 ⟨hA,ha,hR,hF,S⟩ K18 hK18
 simp only at hA ha hR hF S ⊢
 rw [List.getD_cons_zero]
 have hcl : c.length=n.length:=by
  have:=hR.1
  rw [Nat.mul_one,hA.len] at this;exact this
 refine c_b (fun hch=>?_) (fun hch=>?_)
 ·subst hch
  clear hF
  refine gg_ ?_
  refine zh (ι:=Bool × Nat × Gh × List Value × yd) (fun i=>[.bool i.1,.int .i64 (i.2.1 : Nat)]) (fun i w'=>i.2.1+1≤o.length∧Abv n i.2.2.2.2∧Above w i.2.2.1∧RowOf 1 (RwC i.2.2.1) i.2.2.2.1 i.2.2.2.2∧rwW i.2.2.2.2≤rwW R∧(i.1=true→rwW i.2.2.2.2<rwW R)∧(i.1=false→i.2.2.2.2=R∧aea n o i.2.1 R)∧StX noX w (((r.or so).or sN).or i.2.2.1) w' [.cell b24 i.2.2.2.1 75])
   (fun i=>o.length - i.2.1) (false,0,s,c,R) rfl ⟨by show 0+1≤_;omega,hA,ha,hR,Nat.le_refl _,(fun h=>by cases h),(fun _=>⟨rfl,fun j hj h1 h2=>by dsimp only at h2;omega⟩),S⟩ ?_
  repeat clear S
  clear hA ha hR hcl
  rintro ⟨ch,k,s,c,R'⟩ d w8 ⟨hk,hA,ha,hR,hw1,hw2,hw3,S⟩ K22 hK22
  simp only at hk hA ha hR hw1 hw2 hw3 S ⊢
  simp only [List.getD_cons_zero,List.getD_cons_succ]
  have hcl : c.length=n.length:=by
   have:=hR.1
   rw [Nat.mul_one,hA.len] at this;exact this
  refine gg_ ?_
  refine zm (fun hlt=>?_) (fun hge=>?_)
  ·have hlt : k+1<o.length:=by omega
   obtain ⟨bo,oo,hpo,_,hco⟩:=zw ho hlt
   subst hpo
   have hqN:=hoN (k+1) hlt
   have hq0:=hon0 (k+1) hlt (by omega)
   have hrq : Rchd n zr 0 o[k+1]:=((hW.mem _).1 (List.getElem_mem hlt)).2
   obtain ⟨q,hq⟩ : ∃ q,q=o[k+1]:=⟨_,rfl⟩
   rw [← hq] at hqN hq0 hrq hco
   have q0:=hqN.1;have q1:=hqN.2
   obtain ⟨mq,hmq⟩:=Option.isSome_iff_exists.1 ((hA.some' _ hqN).2 hrq)
   obtain ⟨hA2,hW2,hW3⟩:=hA.turn hok hqN hq0 hmq
   have hrow:=afM (R:=R') hqN
   obtain ⟨uq,hcq,hrwc⟩:=adc hR (q:=q) (by rw [hA.len];omega)
   rw [hmq] at hrwc
   have huq : SlG 1 s kV uq mq:=by obtain ⟨u',e,_,h2⟩:=hrwc;cases e;exact h2 mq rfl
   refine zs (fun x w'=>∃ ch' s' c' R2,x = [.bool ch']∧Abv n R2∧Above w s'∧RowOf 1 (RwC s') c' R2∧rwW R2≤rwW R∧(ch'=true→rwW R2<rwW R)∧(ch'=false→R2=R∧aea n o (k+1) R)∧StX noX w (((r.or so).or sN).or s') w' [.cell b24 c' 75]) (fun K26 hK26=>?_) ?_
   ·rw [if_neg (show ¬ capo=Int.toNat 1 by omega),Option.map_some,yx]
    refine gg_ ?_
    refine zj (by rw [Int.toNat_natCast,show oo+Int.toNat 1*1+k=oo+(k+1) by omega];exact S.at hco) ?_
    refine gg_ ?_
    refine S.lit (e:=4) (cs:=[.bool true]) (by kernel_rfl) fun b68 w9 S=>?_
    refine gg_ ?_
    refine Yj (sb:=b68) (z:=true) S (by omega) hf fun b71 w10 S=>?_
    have S:=S.drop b68
    have e2 : List.replicate n.length (Value.bool true)=bls (List.replicate n.length true):=by simp [bls]
    rw [e2] at S
    obtain ⟨_,_,ub,hE,_,hcb,hub⟩:=qV hB (i:=q.toNat) (by rw [hrl];omega)
    cases hE
    have hbe : (xc n)[q.toNat]'(by rw [hrl];omega)=befN n q:=by rw [hrv,Int.toNat_of_nonneg q0]
    rw [hbe] at hub
    obtain ⟨pb,capb,rfl,_,_⟩:=hub.sl.shape
    have hbl : (befN n q).length≤100000:=Nat.le_trans Xn hf
    refine gg_ ?_
    refine zj (S.at hcb) ?_
    refine gg_ ?_
    have hbm : ∀ x ∈ befN n q,isN n x:=fun x hx=>(qU.1 hx).1
    generalize befN n q=l at hub hbl hrow hbm
    refine zh (ι:=Nat) (fun j=>[.int .i64 (j : Nat)]) (fun j w'=>j≤l.length∧StX noX w (((r.or so).or sN).or s) w' [.cell b71 (bls ((l.take j).foldl (xP R') (List.replicate n.length true))) 4,.cell b24 c 75])
     (fun j=>l.length - j) 0 rfl ⟨Nat.zero_le _,S⟩ ?_
    repeat clear S
    rintro j d w11 ⟨hj,S⟩ K32 hK32
    rw [List.getD_cons_zero]
    refine gg_ ?_
    refine zm (fun hltj=>?_) (fun hgej=>?_)
    ·have hltj : j<l.length:=by omega
     obtain ⟨bl,ol,hpb,_,hcl'⟩:=zw hub.sl hltj
     subst hpb
     have hml : ((l.take j).foldl (xP R') (List.replicate n.length true)).length=n.length:=by rw [Zl,List.length_replicate]
     have htj : (l.take (j+1)).foldl (xP R') (List.replicate n.length true)=xP R' ((l.take j).foldl (xP R') (List.replicate n.length true)) l[j]:=by
      rw [List.take_succ_eq_append_getElem hltj,List.foldl_append];rfl
     have hxN:=hbm l[j] (List.getElem_mem hltj)
     generalize (l.take j).foldl (xP R') (List.replicate n.length true)=m at hml htj S
     generalize l[j]=x at hcl' htj hxN
     have x0:=hxN.1;have x1:=hxN.2
     obtain ⟨ux,hcx,hrx⟩:=adc hR (q:=x) (by rw [hA.len];omega)
     obtain ⟨pp,kk,cp,rfl,hnone,hsome⟩:=aau hrx fun m' hm'=>by rw [hA.rows x m' hm'];exact h0
     have hal : (xP R' m x).length=m.length:=Qk
     refine gg_ ?_
     refine zj (by rw [Int.toNat_natCast];exact S.at hcl') ?_
     refine gg_ ?_
     refine zh (ι:=Nat) (fun i=>[.int .i64 (i : Nat)]) (fun i w'=>i≤n.length∧StX noX w (((r.or so).or sN).or s) w' [.cell b71 (bls ((xP R' m x).take i++m.drop i)) 4,.cell b24 c 75])
      (fun i=>n.length - i) 0 rfl ⟨Nat.zero_le _,by simpa using S⟩ ?_
     repeat clear S
     rintro i d w12 ⟨hi,S⟩ K36 hK36
     rw [List.getD_cons_zero]
     refine gg_ ?_
     refine zm (fun hlti=>?_) (fun hgei=>?_)
     ·have hlti : i<n.length:=by omega
      have him : i<m.length:=by omega
      refine gg_ ?_
      refine S.ld (b:=b71) ?_ (by rw [Int.toNat_natCast];exact afO hal him)
      have hv : (xP R' m x)[i]'(by omega)=(m[i]&&((rwA R' x).isNone||(match rwA R' x with|some m'=>m'.getD i false|none=>false))):=by
       simp only [xP,List.getElem_mapIdx,rwH]
       congr 1
       cases rwA R' x with
       |none=>rfl
       |some m'=>simp [mk']
      refine ae7 (b:=m[i]) (m:=(rwA R' x).isNone) (x:=match rwA R' x with|some m'=>m'.getD i false|none=>false) (fun K hK=>?_) (fun hno K hK=>?_) ?_
      ·refine gg_ ?_
       refine S.ld (b:=b24) ?_ (by rw [Nat.zero_add];exact hcx)
       refine gg_ ?_
       rw [hnone];exact hK
      ·obtain ⟨m',hm'⟩ : ∃ m',rwA R' x=some m':=by
        cases hx : rwA R' x with
        |none=>rw [hx] at hno;cases hno
        |some m'=>exact ⟨m',rfl⟩
       obtain ⟨hkk,hcm⟩:=hsome m' hm'
       have hml':=hA.rows x m' hm'
       obtain ⟨bx,ox,hpp,hcm⟩:=hcm i (by omega)
       subst hpp
       subst hkk
       refine gg_ ?_
       refine S.ld (b:=b24) ?_ (by rw [Nat.zero_add];exact hcx)
       refine gg_ ?_
       refine zj (by rw [Int.toNat_natCast];exact S.at hcm) ?_
       rw [hm'] at hK
       simp only [List.getD_eq_getElem?_getD,List.getElem?_eq_getElem (show i<m'.length by omega),Option.getD_some] at hK
       exact hK
      rw [← hv]
      refine gg_ ?_
      refine S.st (b:=b71) (fun w13 S=>?_) (by rw [kr,List.length_append,List.length_take,List.length_drop];omega)
      rw [Int.toNat_natCast,afa hal him] at S
      refine gg_ ?_
      exact hK36 (i+1) _ ⟨hlti,S⟩ (by omega)
     have hie : i=n.length:=by omega
     subst hie
     rw [List.take_of_length_le (by omega),List.drop_of_length_le (by omega),List.append_nil,← htj] at S
     refine gg_ ?_
     exact hK32 (j+1) _ ⟨hltj,S⟩ (by omega)
    have hje : j=l.length:=by omega
    subst hje
    rw [List.take_length] at S
    clear hK32
    refine gg_ ?_
    refine S.st (b:=b71) (fun w12 S=>?_) (by rw [kr,Zl,List.length_replicate];omega)
    have S : StX noX w (((r.or so).or sN).or s) w12 [.cell b71 (bls (rwF n R' q)) 4,.cell b24 c 75]:=by
     rw [← hrow,← qW q0];exact S
    refine gg_ ?_
    refine S.ld (b:=b24) ?_ (by rw [Nat.zero_add];exact hcq)
    obtain ⟨S,hs71,hb71⟩:=S.litNew b71 (sz:=1) (R:=kV) (l:=rwF n R' q) ju (by decide)
    rw [j5] at hs71
    refine aam S.holds hs71.cells huq.cells (by rw [j5];exact Nat.le_trans hf (by decide)) fun w13 e13=>?_
    have S:=S.go e13
    refine gg_ ?_
    refine c_b (fun hne=>?_) (fun heq=>?_)
    ·have hne : rwF n R' q≠mq:=by simpa using hne
     refine gg_ ?_
     refine S.st (b:=b24) (fun w14 S=>?_) (by rw [hcl];omega)
     rw [Nat.zero_add] at S
     have hlt3:=hW3 hne
     exact hK26 _ _ ⟨true,s.or (Go.Sh.one b71 (bls (rwF n R' q)) 4),_,_,rfl,hA2,ha.or' hb71,ae9 hR ⟨_,rfl,(fun h=>by cases h),fun m hm=>by cases hm;exact hs71.cells⟩,by omega,fun _=>by omega,(fun h=>by cases h),S.reGh⟩
    ·have heq : rwF n R' q=mq:=by simpa using heq
     refine hK26 _ _ ⟨ch,s,c,R',rfl,hA,ha,hR,hw1,hw2,fun hch=>?_,S.to _⟩
     obtain ⟨e,hf'⟩:=hw3 hch
     subst e
     refine ⟨rfl,fun j hj h1 h2=>?_⟩
     by_cases hjk : j≤k
     ·exact hf' j hj h1 hjk
     ·have hje : j=k+1:=by omega
      subst hje
      rw [← hq,hmq,heq]
   ·rintro x w9 ⟨ch',s',c',R2,rfl,i1,i2,i3,i4,i5,i6,S⟩ d
    simp only [List.getD_cons_zero]
    refine gg_ ?_
    exact hK22 (ch',k+1,s',c',R2) _ ⟨by show k+1+1≤_;omega,i1,i2,i3,i4,i5,i6,S⟩ (by show o.length - (k+1)<o.length - k;omega)
  have hke : k+1=o.length:=by omega
  refine hK18 (ch,s,c,R') _ ⟨hA,ha,hR,fun hch=>?_,S⟩ ?_
  ·obtain ⟨e,hf'⟩:=hw3 hch
   subst e
   intro j hj h1 h2
   exact hf' j hj h1 (by omega)
  ·show 2*rwW R'+ch.toNat<2*rwW R+true.toNat
   cases ch with
   |true=>have:=hw2 rfl;simp only [Bool.toNat_true];omega
   |false=>simp only [Bool.toNat_true,Bool.toNat_false];omega
 have hF:=hF hch
 have hRl:=hA.len
 obtain ⟨S,hs,hb24⟩:=S.litNew b24 (sz:=1) (R:=RwC s) (l:=R) hR (by decide)
 rw [hRl] at hs
 refine h _ (s.or (Go.Sh.one b24 c 75)) _ R S.ext (StX.newOf (q:=s.or (Go.Sh.one b24 c 75)) S.reGh (ha.or' hb24)) (hs.up' inferInstance fun _ _ h=>RwC.up h) hRl fun q hq=>hA.end hok h0 (fun q hq hq0 hr=>?_) hq
 obtain ⟨j,hj,e⟩:=List.getElem_of_mem ((hW.mem q).2 ⟨hq,hr⟩)
 have hj0 : j≠0:=fun e0=>hq0 (by subst e0;rw [← e,hoz])
 have:=hF j hj (by omega) (by omega)
 rwa [e] at this
end Go.Proofs
end
section
namespace Go.Proofs
open Go.Sh Go.RowKit
set_option maxRecDepth 100000
set_option linter.unusedSimpArgs false
set_option linter.unusedVariables false
def netU (u : UnD) (n : Int) : zd:=match u.fs[n.toNat]? with|some g=>zg g|none=>[]
noncomputable def okQ (u : UnD) (n q : Int) : Bool:=!(decide (fnE u n≠0) || !decide (isN (netU u n) q))
theorem abl {u : UnD} {n : Int} (h : fnE u n≠0) : fnE u n=2:=by
 rw [fnE] at h ⊢
 split
 ·rfl
 ·rename_i hc;rw [if_neg hc] at h;exact absurd rfl h
structure aeb (n : zd) : Prop where
 ok : zM n
 nd : ∀ q,(nxt n q).Nodup
 nar : Qi n
 pos : 0<n.length
 few : n.length≤1024
theorem zE {u : UnD} {n : Int} (h : fnE u n=0) : ∃ hlt : n.toNat<u.fs.length,netU u n=zg u.fs[n.toNat]∧aeb (netU u n):=by
 obtain ⟨hM,hn0,hlt⟩:=QT h
 have e : netU u n=zg u.fs[n.toNat]:=by rw [netU,List.getElem?_eq_getElem hlt]
 refine ⟨hlt,e,?_⟩
 rw [e]
 obtain ⟨h1,h2⟩:=adY hM hlt
 exact ⟨aeS hM (List.getElem_mem hlt),fun q=>abR,fun l hl=>by obtain ⟨p,_,rfl⟩:=List.mem_map.1 hl;exact acO,h1,h2⟩
set_option maxHeartbeats 1000000 in
theorem Vu {u : UnD} {n q : Int} {v : Value} {w : World} {r : Gh} {K : Value→World→Prop} (hr : Holds r w) (hu : UnG r v u)
  (h : ∀ v' s w',Ext w w'→New w s w'→SlG 1 s zu v' (if okQ u n q=true then befN (netU u n) q else [])→K (.tuple #[v',.int .i64 (if okQ u n q=true then 0 else 2)]) w') : ze Tryz.prog Tryz.jA #[v,.int .i64 n,.int .i64 q] w K:=by
 refine Tryz.Jy ?_
 unfold Tryz.Yk
 have hu0:=hu
 obtain ⟨p0,cap0,vf,rfl,_,_,hst,hsl,hfn⟩:=hu
 obtain ⟨qf,capf,rfl,_,_⟩:=hfn.sl.shape
 have S:=St.start hr
 refine S.box fun b3 w1 S=>?_
 have S : StX noX w r w1 [.cell b3 [.slice p0 u.ss.length cap0,.slice qf u.fs.length capf,.int .i64 u.mn] 25]:=S
 refine S.ldB (b:=b3) ?_ rfl
 refine y5 S.holds hu0 fun vn sn w2 e2 n2 hnet=>?_
 obtain ⟨S,_,a2⟩:=S.tell e2 n2
 have S:=S.tl
 refine gS_ ?_
 refine ZG (c:=!decide (isN (netU u n) q)) (fun w'=>StX noX w (r.or sn) w' []) (fun _=>S) (fun hb K2 hK2=>?_) fun w3 S=>?_
 ·have hE : fnE u n=0:=by simpa using hb
  obtain ⟨hlt,he,hF⟩:=zE hE
  obtain ⟨_,hN⟩:=hnet hE
  rw [← he] at hN
  refine S.lit (e:=3) (cs:=[.int .i64 q]) (by kernel_rfl) fun b5 w3 S=>?_
  obtain ⟨S,hs5,_⟩:=S.litNew b5 (sz:=1) (R:=zu) (l:=[q]) (zG rfl rfl) (by decide)
  refine Z4 S.holds hN.up (show SlG 1 _ zu (.slice (some ⟨b5,0,none⟩) 1 1) [q] from hs5.cells) (by simp) fun w4 e4=>?_
  have S:=S.go e4
  refine gp_ ?_
  have e : decide (∀ x ∈ [q],isN (netU u n) x)=decide (isN (netU u n) q):=by rw [decide_eq_decide];simp
  rw [e]
  exact hK2 _ (S.to _)
 have hok : okQ u n q = !(decide (fnE u n≠0) || !decide (isN (netU u n) q)):=rfl
 refine c_b (fun hb=>?_) (fun hb=>?_)
 ·rw [hb] at hok
  rw [hok] at h
  exact h _ nothing _ S.ext New.nothing SlG.nil
 rw [hb] at hok
 rw [hok] at h
 simp only [Bool.or_eq_false_iff,decide_eq_false_iff_not,Decidable.not_not,Bool.not_eq_false',decide_eq_true_eq] at hb
 obtain ⟨hE,hqN⟩:=hb
 obtain ⟨hlt,he,hF⟩:=zE hE
 obtain ⟨_,hN⟩:=hnet hE
 rw [← he] at hN
 have hfew:=hF.few
 refine Qg S.holds hN.up (by omega) fun v' s w4 e4 n4 hs=>?_
 obtain ⟨S,_,a4⟩:=S.tell e4 n4
 exact h _ (sn.or s) _ S.ext (StX.newOf S.reGh (a2.or' a4)) hs.cells
set_option maxHeartbeats 1000000 in
theorem vF {u : UnD} {n q : Int} {v : Value} {w : World} {r : Gh} {K : Value→World→Prop} (hr : Holds r w) (hu : UnG r v u)
  (h : ∀ v' s w',Ext w w'→New w s w'→SlG 1 s zu v' (if okQ u n q=true then mkd (y7 (netU u n) zr q) else [])→K (.tuple #[v',.int .i64 (if okQ u n q=true then 0 else 2)]) w') : ze Tryz.prog Tryz.x5 #[v,.int .i64 n,.int .i64 q] w K:=by
 refine Tryz.Vp ?_
 unfold Tryz.YQ
 have hu0:=hu
 obtain ⟨p0,cap0,vf,rfl,_,_,hst,hsl,hfn⟩:=hu
 obtain ⟨qf,capf,rfl,_,_⟩:=hfn.sl.shape
 have S:=St.start hr
 refine S.box fun b3 w1 S=>?_
 have S : StX noX w r w1 [.cell b3 [.slice p0 u.ss.length cap0,.slice qf u.fs.length capf,.int .i64 u.mn] 25]:=S
 refine S.ldB (b:=b3) ?_ rfl
 refine y5 S.holds hu0 fun vn sn w2 e2 n2 hnet=>?_
 obtain ⟨S,_,a2⟩:=S.tell e2 n2
 have S:=S.tl
 refine gS_ ?_
 refine ZG (c:=!decide (isN (netU u n) q)) (fun w'=>StX noX w (r.or sn) w' []) (fun _=>S) (fun hb K2 hK2=>?_) fun w3 S=>?_
 ·have hE : fnE u n=0:=by simpa using hb
  obtain ⟨hlt,he,hF⟩:=zE hE
  obtain ⟨_,hN⟩:=hnet hE
  rw [← he] at hN
  refine S.lit (e:=3) (cs:=[.int .i64 q]) (by kernel_rfl) fun b5 w3 S=>?_
  obtain ⟨S,hs5,_⟩:=S.litNew b5 (sz:=1) (R:=zu) (l:=[q]) (zG rfl rfl) (by decide)
  refine Z4 S.holds hN.up (show SlG 1 _ zu (.slice (some ⟨b5,0,none⟩) 1 1) [q] from hs5.cells) (by simp) fun w4 e4=>?_
  have S:=S.go e4
  refine gp_ ?_
  have e : decide (∀ x ∈ [q],isN (netU u n) x)=decide (isN (netU u n) q):=by rw [decide_eq_decide];simp
  rw [e]
  exact hK2 _ (S.to _)
 have hok : okQ u n q = !(decide (fnE u n≠0) || !decide (isN (netU u n) q)):=rfl
 refine c_b (fun hb=>?_) (fun hb=>?_)
 ·rw [hb] at hok
  rw [hok] at h
  exact h _ nothing _ S.ext New.nothing SlG.nil
 rw [hb] at hok
 rw [hok] at h
 simp only [Bool.or_eq_false_iff,decide_eq_false_iff_not,Decidable.not_not,Bool.not_eq_false',decide_eq_true_eq] at hb
 obtain ⟨hE,hqN⟩:=hb
 obtain ⟨hlt,he,hF⟩:=zE hE
 obtain ⟨_,hN⟩:=hnet hE
 rw [← he] at hN
 have hfew:=hF.few
 refine acS S.holds hN.up hF.ok hqN (by omega) fun v1 s1 w4 e4 n4 hs1=>?_
 obtain ⟨S,_,a4⟩:=S.tell e4 n4
 refine Z5 S.holds hs1.cells (by rw [qO];omega) fun v' s w5 e5 n5 hs=>?_
 obtain ⟨S,_,a5⟩:=S.tell e5 n5
 exact h _ (sn.or (s1.or s)) _ S.ext (StX.newOf (S.to (r.or (sn.or (s1.or s)))) (a2.or' (a4.or' a5))) hs.cells
def mkO (o : Option (List Bool)) : List Int:=match o with|some m=>mkd m|none=>[]
theorem qY {n : zd} {q : Int} : abvL n q=mkO (xn n q):=by
 unfold abvL mkO
 cases xn n q<;>rfl
theorem vG {s : Gh} {o : Option (List Bool)} {u : Value} {w : World} {r : Gh} {K : Value→World→Prop} (hr : Holds r w) (hm : RwC r [u] o) (hf : ∀ m,o=some m→m.length≤1000000)
  (h : ∀ v' s w',Ext w w'→New w s w'→SlG 1 s zu v' (mkO o)→K v' w') : ze Tryz.prog Tryz.yr #[u] w K:=by
 obtain ⟨u',e,h1,h2⟩:=hm
 cases e
 cases o with
 |some m=>exact Z5 hr (h2 m rfl) (hf m rfl) h
 |none=>
  rw [h1 rfl]
  exact Z5 (m:=[]) hr SlG.nil (by simp) h
theorem Xs {n : zd} {R : yd} {s : Gh} {v' : Value} (h : afN s v' R) {q : Int} (hq : q.toNat<R.length) : ∃ p cap b off u,v' = .slice p R.length cap∧p=some ⟨b,off,none⟩∧(Ob s fun w=>w.cell? ⟨b,off+q.toNat,none⟩=some u)∧RwC s [u] (rwA R q):=by
 obtain ⟨p,cap,rfl,_,_⟩:=h.shape
 obtain ⟨b,off,c,rfl,hc,⟨u,rfl,h1,h2⟩,hcl⟩:=h.get (by decide) hq
 refine ⟨_,cap,b,off,u,rfl,rfl,?_,u,rfl,?_,?_⟩
 ·have:=hcl 0 _ rfl
  rwa [show off+q.toNat*1+0=off+q.toNat by omega] at this
 ·intro e
  refine h1 ?_
  rw [rwA,List.getD_eq_getElem?_getD,List.getElem?_eq_getElem hq] at e;exact e
 ·intro m e
  refine h2 m ?_
  rw [rwA,List.getD_eq_getElem?_getD,List.getElem?_eq_getElem hq] at e;exact e
theorem qZ {n : zd} {q : Int} {m : List Bool} (h : xn n q=some m) : m.length=n.length:=(YP h).2.1
set_option maxHeartbeats 1000000 in
theorem vH {u : UnD} {n q : Int} {v : Value} {w : World} {r : Gh} {K : Value→World→Prop} (hr : Holds r w) (hu : UnG r v u)
  (h : ∀ v' s w',Ext w w'→New w s w'→SlG 1 s zu v' (if okQ u n q=true then abvL (netU u n) q else [])→K (.tuple #[v',.int .i64 (if okQ u n q=true then 0 else 2)]) w') : ze Tryz.prog Tryz.x6 #[v,.int .i64 n,.int .i64 q] w K:=by
 refine Tryz.Vq ?_
 unfold Tryz.YR
 have hu0:=hu
 obtain ⟨p0,cap0,vf,rfl,_,_,hst,hsl,hfn⟩:=hu
 obtain ⟨qf,capf,rfl,_,_⟩:=hfn.sl.shape
 have S:=St.start hr
 refine S.box fun b3 w1 S=>?_
 have S : StX noX w r w1 [.cell b3 [.slice p0 u.ss.length cap0,.slice qf u.fs.length capf,.int .i64 u.mn] 25]:=S
 refine S.ldB (b:=b3) ?_ rfl
 refine y5 S.holds hu0 fun vn sn w2 e2 n2 hnet=>?_
 obtain ⟨S,_,a2⟩:=S.tell e2 n2
 have S:=S.tl
 refine gS_ ?_
 refine ZG (c:=!decide (isN (netU u n) q)) (fun w'=>StX noX w (r.or sn) w' []) (fun _=>S) (fun hb K2 hK2=>?_) fun w3 S=>?_
 ·have hE : fnE u n=0:=by simpa using hb
  obtain ⟨hlt,he,hF⟩:=zE hE
  obtain ⟨_,hN⟩:=hnet hE
  rw [← he] at hN
  refine S.lit (e:=3) (cs:=[.int .i64 q]) (by kernel_rfl) fun b5 w3 S=>?_
  obtain ⟨S,hs5,_⟩:=S.litNew b5 (sz:=1) (R:=zu) (l:=[q]) (zG rfl rfl) (by decide)
  refine Z4 S.holds hN.up (show SlG 1 _ zu (.slice (some ⟨b5,0,none⟩) 1 1) [q] from hs5.cells) (by simp) fun w4 e4=>?_
  have S:=S.go e4
  refine gp_ ?_
  have e : decide (∀ x ∈ [q],isN (netU u n) x)=decide (isN (netU u n) q):=by rw [decide_eq_decide];simp
  rw [e]
  exact hK2 _ (S.to _)
 have hok : okQ u n q = !(decide (fnE u n≠0) || !decide (isN (netU u n) q)):=rfl
 refine c_b (fun hb=>?_) (fun hb=>?_)
 ·rw [hb] at hok
  rw [hok] at h
  exact h _ nothing _ S.ext New.nothing SlG.nil
 rw [hb] at hok
 rw [hok] at h
 simp only [Bool.or_eq_false_iff,decide_eq_false_iff_not,Decidable.not_not,Bool.not_eq_false',decide_eq_true_eq] at hb
 obtain ⟨hE,hqN⟩:=hb
 obtain ⟨hlt,he,hF⟩:=zE hE
 obtain ⟨_,hN⟩:=hnet hE
 rw [← he] at hN
 have hfew:=hF.few
 refine JC S.holds hN.up hF.ok hF.nar hF.nd hF.pos (by omega) fun v1 s1 w4 R e4 n4 hR hRl hRa=>?_
 obtain ⟨S,_,a4⟩:=S.tell e4 n4
 have q0:=hqN.1;have q1:=hqN.2
 obtain ⟨pR,capR,bR,oR,uq,rfl,rfl,hcR,hrw⟩:=Xs (n:=netU u n) hR (q:=q) (by rw [hRl];omega)
 rw [hRa q hqN] at hrw
 rw [hRl]
 refine gg_ ?_
 refine zj (S.at hcR) ?_
 refine vG (s:=s1) S.holds hrw.up (fun m hm=>by rw [qZ hm];omega) fun v' s w5 e5 n5 hs=>?_
 obtain ⟨S,_,a5⟩:=S.tell e5 n5
 exact h _ (sn.or (s1.or s)) _ S.ext (StX.newOf (S.to (r.or (sn.or (s1.or s)))) (a2.or' (a4.or' a5))) (by show SlG 1 (sn.or (s1.or s)) zu v' (abvL (netU u n) q);rw [qY];exact hs.cells)
set_option maxHeartbeats 1000000 in
theorem Y2 {u : UnD} {n : Int} {v : Value} {w : World} {r : Gh} {K : Value→World→Prop} (hr : Holds r w) (hu : UnG r v u)
  (h : ∀ v' s w' o b,Ext w w'→New w s w'→(fnE u n=0→∃ st,Mst (netU u n) (zK (yI (netU u n)) 0,[(0,0)]) (st,[])∧o=st.out.reverse∧b=st.back)→(fnE u n≠0→o = []∧b = [])→SlG 1 s zu v' o→K (.tuple #[v',.int .i64 (fnE u n)]) w') : ze Tryz.prog Tryz.qw #[v,.int .i64 n] w K:=by
 refine Tryz.Vr ?_
 unfold Tryz.YS
 have hu0:=hu
 obtain ⟨p0,cap0,vf,rfl,_,_,hst,hsl,hfn⟩:=hu
 obtain ⟨qf,capf,rfl,_,_⟩:=hfn.sl.shape
 have S:=St.start hr
 refine S.box fun b3 w1 S=>?_
 have S : StX noX w r w1 [.cell b3 [.slice p0 u.ss.length cap0,.slice qf u.fs.length capf,.int .i64 u.mn] 25]:=S
 refine S.ldB (b:=b3) ?_ rfl
 refine y5 S.holds hu0 fun vn sn w2 e2 n2 hnet=>?_
 obtain ⟨S,_,a2⟩:=S.tell e2 n2
 have S:=S.tl
 refine gS_ ?_
 refine zm (fun hne=>?_) (fun heq=>?_)
 ·exact h _ nothing _ [] [] S.ext New.nothing (fun e=>absurd e hne) (fun _=>⟨rfl,rfl⟩) SlG.nil
 have hE : fnE u n=0:=by omega
 obtain ⟨hlt,he,hF⟩:=zE hE
 obtain ⟨_,hN⟩:=hnet hE
 rw [← he] at hN
 have hfew:=hF.few
 refine aar S.holds hN.up hF.ok hF.nar hF.pos (by omega) fun v1 v2 s w4 st e4 n4 hM ho hb=>?_
 obtain ⟨S,_,a4⟩:=S.tell e4 n4
 refine gS_ ?_
 exact h _ (sn.or s) _ st.out.reverse st.back S.ext (StX.newOf S.reGh (a2.or' a4)) (fun _=>⟨st,hM,rfl,rfl⟩) (fun hn=>absurd hE hn) ho.cells
set_option maxHeartbeats 1000000 in
theorem XT {u : UnD} {n : Int} {v : Value} {w : World} {r : Gh} {K : Value→World→Prop} (hr : Holds r w) (hu : UnG r v u)
  (h : ∀ v' s w' o b,Ext w w'→New w s w'→(fnE u n=0→∃ st,Mst (netU u n) (zK (yI (netU u n)) 0,[(0,0)]) (st,[])∧o=st.out.reverse∧b=st.back)→(fnE u n≠0→o = []∧b = [])→SlG 2 s YH v' b→K (.tuple #[v',.int .i64 (fnE u n)]) w') : ze Tryz.prog Tryz.jf #[v,.int .i64 n] w K:=by
 refine Tryz.aap ?_
 unfold Tryz.XS
 have hu0:=hu
 obtain ⟨p0,cap0,vf,rfl,_,_,hst,hsl,hfn⟩:=hu
 obtain ⟨qf,capf,rfl,_,_⟩:=hfn.sl.shape
 have S:=St.start hr
 refine S.box fun b3 w1 S=>?_
 have S : StX noX w r w1 [.cell b3 [.slice p0 u.ss.length cap0,.slice qf u.fs.length capf,.int .i64 u.mn] 25]:=S
 refine S.ldB (b:=b3) ?_ rfl
 refine y5 S.holds hu0 fun vn sn w2 e2 n2 hnet=>?_
 obtain ⟨S,_,a2⟩:=S.tell e2 n2
 have S:=S.tl
 refine gS_ ?_
 refine zm (fun hne=>?_) (fun heq=>?_)
 ·exact h _ nothing _ [] [] S.ext New.nothing (fun e=>absurd e hne) (fun _=>⟨rfl,rfl⟩) SlG.nil
 have hE : fnE u n=0:=by omega
 obtain ⟨hlt,he,hF⟩:=zE hE
 obtain ⟨_,hN⟩:=hnet hE
 rw [← he] at hN
 have hfew:=hF.few
 refine aar S.holds hN.up hF.ok hF.nar hF.pos (by omega) fun v1 v2 s w4 st e4 n4 hM ho hb=>?_
 obtain ⟨S,_,a4⟩:=S.tell e4 n4
 refine gS_ ?_
 exact h _ (sn.or s) _ st.out.reverse st.back S.ext (StX.newOf S.reGh (a2.or' a4)) (fun _=>⟨st,hM,rfl,rfl⟩) (fun hn=>absurd hE hn) hb.cells
end Go.Proofs
end
section
namespace Go.Sh
theorem afP {w : World} {b n x : Bool} {A0 : (List Value→World→Prop)→Prop} {A1 : (List Value→World→Prop)→World→Prop} {Z : Value→World→Prop}
  (h0 : b=false→∀ K : List Value→World→Prop,K [.bool n] w→A0 K) (h1 : b=false→n=true→∀ K : List Value→World→Prop,K [.bool x] w→A1 K w) (hZ : Z (.bool (b||(n&&x))) w) :
  za (fun K=>gIf (.bool b) false (A0 K) (K [undef] w)) fun s135 _ w137=>
   za (fun K=>gIf (s135.getD 0 undef) true (A1 K w137) (K [undef] w137)) fun s139 _ w141=>
    za (fun K=>gIf (.bool b) false (zb (s135.getD 0 undef) (s139.getD 0 undef) (.bool false) fun t=>K [t] w141) (K [undef] w141)) fun s152 _ w154=>
     zb (.bool b) (.bool true) (s152.getD 0 undef) fun t=>Z t w154:=by
 cases b with
 |true=>
  intro K hK
  refine hK _ _ fun _=>?_
  intro K hK
  refine hK _ _ fun _=>?_
  intro K hK
  refine hK _ _ fun _=>?_
  exact ⟨_,rfl,by simpa using hZ⟩
 |false=>
  intro K hK
  refine h0 rfl _ (hK _ _ fun _=>?_)
  cases n with
  |false=>
   intro K hK
   refine hK _ _ fun _=>?_
   intro K hK
   refine ⟨_,rfl,hK _ _ fun _=>?_⟩
   exact ⟨_,rfl,by simpa using hZ⟩
  |true=>
   intro K hK
   refine h1 rfl rfl _ (hK _ _ fun _=>?_)
   intro K hK
   refine ⟨_,rfl,hK _ _ fun _=>?_⟩
   exact ⟨_,rfl,by simpa using hZ⟩
end Go.Sh
namespace Go.Proofs
open Go.Sh Go.RowKit
set_option maxRecDepth 100000
set_option linter.unusedSimpArgs false
set_option linter.unusedVariables false
theorem afb {n : zd} {q : Int} : decide (∀ x ∈ [q],isN n x)=decide (isN n q):=by rw [decide_eq_decide];simp
def vI (n : zd) (l : List Int) (i : Nat) : Bool:=!decide (isN n (l.getD i 0))||(decide (0<i) && !decide (l.getD i 0 ∈ nxt n (l.getD (i - 1) 0)))
def isW (n : zd) (l : List Int) : Int × Bool:=match (List.range l.length).find? (vI n l) with|some i=>(((i : Nat) : Int),false)|none=>(0,decide (0<l.length))
theorem afc {n : zd} {l : List Int} {i : Nat} (hi : i<l.length) (h : ∀ j,j<i→vI n l j=false) (hb : vI n l i=true) : isW n l=(((i : Nat) : Int),false):=by
 have : (List.range l.length).find? (vI n l)=some i:=by
  rw [List.find?_range_eq_some]
  exact ⟨hb,List.mem_range.2 hi,fun j hj=>by rw [h j hj];rfl⟩
 unfold isW;rw [this]
theorem aav {n : zd} {l : List Int} (h : ∀ j,j<l.length→vI n l j=false) : isW n l=(0,decide (0<l.length)):=by
 have : (List.range l.length).find? (vI n l)=none:=by
  rw [List.find?_eq_none]
  intro j hj
  rw [h j (List.mem_range.1 hj)];simp
 unfold isW;rw [this]
set_option maxHeartbeats 1000000 in
theorem J7 {u : UnD} {n : Int} {v : Value} {w : World} {r : Gh} {K : Value→World→Prop} (hr : Holds r w) (hu : UnG r v u)
  {l : List Int} {vl : Value} (hl : SlG 1 r zu vl l) (hlf : l.length≤1000000)
  (h : ∀ w',Ext w w'→K (if fnE u n=0 then .tuple #[.int .i64 (isW (netU u n) l).1,.bool (isW (netU u n) l).2,.int .i64 0] else .tuple #[.int .i64 0,.bool false,.int .i64 2]) w') : ze Tryz.prog Tryz.vT #[v,.int .i64 n,vl] w K:=by
 refine Tryz.abT ?_
 unfold Tryz.J2
 have hu0:=hu
 obtain ⟨p0,cap0,vf,rfl,_,_,hst,hsl,hfn⟩:=hu
 obtain ⟨qf,capf,rfl,_,_⟩:=hfn.sl.shape
 have S:=St.start hr
 refine S.box fun b3 w1 S=>?_
 have S : StX noX w r w1 [.cell b3 [.slice p0 u.ss.length cap0,.slice qf u.fs.length capf,.int .i64 u.mn] 25]:=S
 refine S.ldB (b:=b3) ?_ rfl
 refine y5 S.holds hu0 fun vn sn w2 e2 n2 hnet=>?_
 obtain ⟨S,_,a2⟩:=S.tell e2 n2
 have S:=S.tl
 refine gS_ ?_
 refine zm (fun hne=>?_) (fun heq=>?_)
 ·have:=h _ S.ext
  rw [if_neg hne] at this
  rw [abl hne];exact this
 have hE : fnE u n=0:=by omega
 rw [if_pos hE] at h
 obtain ⟨hlt,he,hF⟩:=zE hE
 obtain ⟨_,hN⟩:=hnet hE
 rw [← he] at hN
 have hfew:=hF.few
 obtain ⟨pl,capl,rfl,_,_⟩:=hl.shape
 refine gp_ ?_
 refine zh (ι:=Nat) (fun i=>[.int .i64 (i : Nat)]) (fun i w'=>i≤l.length∧(∀ j,j<i→vI (netU u n) l j=false)∧StX noX w (r.or sn) w' []) (fun i=>l.length - i) 0 rfl ⟨Nat.zero_le _,fun j hj=>by omega,S⟩ ?_
 repeat clear S
 rintro i d w3 ⟨hi,hbf,S⟩ K3 hK3
 rw [List.getD_cons_zero]
 refine gp_ ?_
 refine zm (fun hlti=>?_) (fun hge=>?_)
 ·have hlti : i<l.length:=by omega
  obtain ⟨bl,ol,rfl,_,hcl⟩:=zw hl hlti
  have hgi : l.getD i 0=l[i]:=by rw [List.getD_eq_getElem?_getD,List.getElem?_eq_getElem hlti];rfl
  refine gg_ ?_
  refine zj (by rw [Int.toNat_natCast];exact S.at hcl) ?_
  refine S.lit (e:=3) (cs:=[.int .i64 l[i]]) (by kernel_rfl) fun b5 w4 S=>?_
  obtain ⟨S,hs5,_⟩:=S.litNew b5 (sz:=1) (R:=zu) (l:=[l[i]]) (zG rfl rfl) (by decide)
  refine Z4 S.holds hN.up (show SlG 1 _ zu (.slice (some ⟨b5,0,none⟩) 1 1) [l[i]] from hs5.cells) (by simp) fun w5 e5=>?_
  have S : StX noX w (r.or sn) w5 []:=(S.go e5).to _
  rw [afb]
  refine gp_ ?_
  refine afP (n:=decide (0<i)) (x:=!decide (l[i] ∈ nxt (netU u n) (l.getD (i - 1) 0))) (fun _ K2 hK2=>?_) (fun _ hi0 K2 hK2=>?_) ?_
  ·refine gp_ ?_
   have e1 : decide ((0 : Int)<(i : Nat))=decide (0<i):=by rw [decide_eq_decide];omega
   rw [e1];exact hK2
  ·have hi0 : 0<i:=by simpa using hi0
   obtain ⟨bl',ol',hE',_,hcl'⟩:=zw hl (i:=i - 1) (by omega)
   cases hE'
   have hgp : l.getD (i - 1) 0=l[i - 1]:=by rw [List.getD_eq_getElem?_getD,List.getElem?_eq_getElem (by omega)];rfl
   have hpN : isN (netU u n) l[i - 1]:=by
    have:=hbf (i - 1) (by omega)
    rw [vI,Bool.or_eq_false_iff,hgp] at this
    simpa using this.1
   have p0:=hpN.1;have p1:=hpN.2
   obtain ⟨pn,capn,rfl,_,_⟩:=hN.sl.shape
   obtain ⟨bn,on,un,rfl,_,hcn,hun⟩:=qV hN (i:=l[i - 1].toNat) (by omega)
   rw [hgp,j6 hpN] at hK2
   refine gg_ ?_
   refine zj (by rw [show (((i : Nat) : Int) - 1).toNat=i - 1 by omega];exact S.at hcl') ?_
   refine gg_ ?_
   refine zj (S.at hcn) ?_
   refine kt S.holds hun.sl.cells hun.few ?_
   refine gp_ ?_
   exact hK2
  have hbw : vI (netU u n) l i=(!decide (isN (netU u n) l[i])||(decide (0<i) && !decide (l[i] ∈ nxt (netU u n) (l.getD (i - 1) 0)))):=by rw [vI,hgi]
  rw [← hbw]
  refine c_b (fun hb=>?_) (fun hb=>?_)
  ·have:=h _ S.ext
   rwa [afc hlti hbf hb] at this
  ·refine gp_ ?_
   refine hK3 (i+1) _ ⟨hlti,fun j hj=>?_,S⟩ (by omega)
   by_cases hji : j=i
   ·subst hji;exact hb
   ·exact hbf j (by omega)
 have hie : i=l.length:=by omega
 subst hie
 refine gg_ ?_
 have:=h _ S.ext
 rw [aav hbf] at this
 have e1 : decide ((0 : Int)<(l.length : Nat))=decide (0<l.length):=by rw [decide_eq_decide];omega
 rw [e1];exact this
end Go.Proofs
end
section
namespace Go.Proofs
open Go.Sh Go.RowKit
set_option maxRecDepth 100000
set_option linter.unusedSimpArgs false
set_option linter.unusedVariables false
theorem afd {A C : List Int} {b p : Int} {q : Nat} (h : A.length=q) : (ints (A++b::C)).set (0+q) (.int .i64 p)=ints (A++p::C):=by
 rw [Nat.zero_add,ints,ints,List.map_append,List.map_append,List.set_append_right _ _ (by rw [List.length_map];omega),List.length_map,h,Nat.sub_self];rfl
theorem aaw {n : zd} {q : Int} : (abvL n q).length≤n.length:=by
 rw [qY]
 cases h : xn n q with
 |none=>exact Nat.zero_le _
 |some m=>exact Nat.le_trans abc (Nat.le_of_eq (qZ h))
set_option maxHeartbeats 1000000 in
theorem Y3 {u : UnD} {n : Int} {v : Value} {w : World} {r : Gh} {K : Value→World→Prop} (hr : Holds r w) (hu : UnG r v u)
  (h : ∀ v' s w',Ext w w'→New w s w'→SlG 1 s zu v' (if fnE u n=0 then (List.range (netU u n).length).map (fun i=>yg (netU u n) (i : Nat)) else [])→K (.tuple #[v',.int .i64 (fnE u n)]) w') : ze Tryz.prog Tryz.qx #[v,.int .i64 n] w K:=by
 refine Tryz.Vs ?_
 unfold Tryz.YT
 have hu0:=hu
 obtain ⟨p0,cap0,vf,rfl,_,_,hst,hsl,hfn⟩:=hu
 obtain ⟨qf,capf,rfl,_,_⟩:=hfn.sl.shape
 have S:=St.start hr
 refine S.box fun b3 w1 S=>?_
 have S : StX noX w r w1 [.cell b3 [.slice p0 u.ss.length cap0,.slice qf u.fs.length capf,.int .i64 u.mn] 25]:=S
 refine S.ldB (b:=b3) ?_ rfl
 refine y5 S.holds hu0 fun vn sn w2 e2 n2 hnet=>?_
 obtain ⟨S,_,a2⟩:=S.tell e2 n2
 have S:=S.tl
 refine gS_ ?_
 refine zm (fun hne=>?_) (fun heq=>?_)
 ·rw [if_neg hne] at h
  exact h _ nothing _ S.ext New.nothing SlG.nil
 have hE : fnE u n=0:=by omega
 rw [if_pos hE,hE] at h
 obtain ⟨hlt,he,hF⟩:=zE hE
 obtain ⟨_,hN⟩:=hnet hE
 rw [← he] at hN
 have hfew:=hF.few
 refine JC S.holds hN.up hF.ok hF.nar hF.nd hF.pos (by omega) fun v1 s1 w4 R e4 n4 hR hRl hRa=>?_
 obtain ⟨S,_,a4⟩:=S.tell e4 n4
 obtain ⟨pR,capR,rfl,_,_⟩:=hR.shape
 generalize netU u n=nn at *
 obtain ⟨pn,capn,rfl,_,_⟩:=hN.sl.shape
 refine S.lit (e:=3) (cs:=[.int .i64 (-1)]) (by kernel_rfl) fun b26 w5 S=>?_
 refine gg_ ?_
 refine aan (sb:=b26) (z:=-1) S hF.pos (by omega) fun b29 w6 S=>?_
 have S:=S.drop b26
 have e0 : List.replicate nn.length (Value.int .i64 (-1))=ints (List.replicate nn.length (-1)):=by simp [ints]
 rw [e0] at S
 refine gg_ ?_
 have hrow : ∀ (i : Nat) (hi : i<nn.length),isN nn (i : Nat):=fun i hi=>⟨Int.natCast_nonneg i,by omega⟩
 refine zh (ι:=Nat) (fun i=>[.int .i64 (i : Nat)]) (fun i w'=>i≤nn.length∧StX noX w ((r.or sn).or s1) w' [.cell b29 (ints ((List.range i).map (fun i=>yg nn (i : Nat))++List.replicate (nn.length - i) (-1))) 3]) (fun i=>nn.length - i) 0 rfl ⟨Nat.zero_le _,by simpa using S⟩ ?_
 repeat clear S
 rintro i d w7 ⟨hi,S⟩ K6 hK6
 rw [List.getD_cons_zero]
 refine gp_ ?_
 refine zm (fun hlti=>?_) (fun hge=>?_)
 ·have hlti : i<nn.length:=by omega
  obtain ⟨p9,cap9,bR,oR,uq,hE9,rfl,hcR,hrw⟩:=Xs (n:=nn) hR (q:=(i : Nat)) (by rw [hRl,Int.toNat_natCast];exact hlti)
  cases hE9
  rw [hRa _ (hrow i hlti)] at hrw
  refine gg_ ?_
  refine zj (S.at hcR) ?_
  refine vG (s:=s1) S.holds hrw.up (fun m hm=>by rw [qZ hm];omega) fun v' s w8 e8 n8 hs=>?_
  obtain ⟨S,_,a8⟩:=S.tell e8 n8
  rw [← qY] at hs
  obtain ⟨pl,capl,rfl,_,_⟩:=hs.shape
  have hll:=aaw (n:=nn) (q:=(i : Nat))
  have hAl : ((List.range i).map fun i=>yg nn (i : Nat)).length=i:=by simp
  have hmem : ∀ x ∈ abvL nn (i : Nat),isN nn x:=fun x hx=>(zx.1 hx).2.1
  have hre : yg nn (i : Nat)=(abvL nn (i : Nat)).foldl (fun b p=>if p≠(i : Int)∧((abvL nn p).length : Int)=((abvL nn (i : Nat)).length : Int) - 1 then p else b) (-1):=rfl
  refine gg_ ?_
  generalize abvL nn (i : Nat)=l at hs hll hmem hre
  rw [show nn.length - i=(nn.length - (i+1))+1 by omega,List.replicate_succ] at S
  refine zh (ι:=Nat) (fun j=>[.int .i64 (j : Nat)]) (fun j w'=>j≤l.length∧StX noX w (((r.or sn).or s1).or s) w' [.cell b29 (ints ((List.range i).map (fun i=>yg nn (i : Nat))++((l.take j).foldl (fun b p=>if p≠(i : Int)∧((abvL nn p).length : Int)=(l.length : Int) - 1 then p else b) (-1))::List.replicate (nn.length - (i+1)) (-1))) 3]) (fun j=>l.length - j) 0 rfl ⟨Nat.zero_le _,S⟩ ?_
  repeat clear S
  rintro j d w9 ⟨hj,S⟩ K11 hK11
  rw [List.getD_cons_zero]
  refine gp_ ?_
  refine zm (fun hltj=>?_) (fun hgej=>?_)
  ·have hltj : j<l.length:=by omega
   obtain ⟨bl,ol,rfl,_,hcl⟩:=zw hs hltj
   have htk : (l.take (j+1)).foldl (fun b p=>if p≠(i : Int)∧((abvL nn p).length : Int)=(l.length : Int) - 1 then p else b) (-1)=(if l[j]≠(i : Int)∧((abvL nn l[j]).length : Int)=(l.length : Int) - 1 then l[j] else (l.take j).foldl (fun b p=>if p≠(i : Int)∧((abvL nn p).length : Int)=(l.length : Int) - 1 then p else b) (-1)):=by
    rw [List.take_succ_eq_append_getElem hltj,List.foldl_append];rfl
   have hxN:=hmem l[j] (List.getElem_mem hltj)
   generalize l[j]=x at hcl htk hxN
   generalize (l.take j).foldl (fun b p=>if p≠(i : Int)∧((abvL nn p).length : Int)=(l.length : Int) - 1 then p else b) (-1)=bb at htk S
   have x0:=hxN.1;have x1:=hxN.2
   refine zs (fun y w'=>StX noX w (((r.or sn).or s1).or s) w' [.cell b29 (ints ((List.range i).map (fun i=>yg nn (i : Nat))++((l.take (j+1)).foldl (fun b p=>if p≠(i : Int)∧((abvL nn p).length : Int)=(l.length : Int) - 1 then p else b) (-1))::List.replicate (nn.length - (i+1)) (-1))) 3]) (fun K15 hK15=>?_) ?_
   ·rw [htk] at hK15
    refine gg_ ?_
    refine zj (by rw [Int.toNat_natCast];exact S.at hcl) ?_
    refine gg_ ?_
    refine zF (c:=decide (((abvL nn x).length : Int)=(l.length : Int) - 1)) (fun _ K2 hK2=>?_) fun w10 e10=>?_
    ·obtain ⟨p8,cap8,bR',oR',ux,hE8,hE7,hcx,hrx⟩:=Xs (n:=nn) hR (q:=x) (by rw [hRl];omega)
     cases hE8
     cases hE7
     rw [hRa _ hxN] at hrx
     refine gg_ ?_
     refine zj (S.at hcx) ?_
     refine vG (s:=s1) S.holds hrx.up (fun m hm=>by rw [qZ hm];omega) fun v' s2 w10 e10 n10 hs2=>?_
     rw [← qY] at hs2
     have hl2:=aaw (n:=nn) (q:=x)
     obtain ⟨p2,cap2,rfl,_,_⟩:=hs2.shape
     refine gg_ ?_
     exact hK2 _ e10
    have S:=S.go e10
    refine c_b (fun hc=>?_) (fun hc=>?_)
    ·simp only [Bool.and_eq_true,decide_eq_true_eq] at hc
     rw [if_pos hc] at hK15
     refine gg_ ?_
     refine S.st (b:=b29) (fun w11 S=>?_) (by rw [yz,List.length_append,List.length_map,List.length_range,List.length_cons];omega)
     rw [Int.toNat_natCast,afd hAl] at S
     exact hK15 [] _ S
    ·rw [if_neg (by simpa using hc)] at hK15
     exact hK15 [] _ S
   rintro y w10 S d
   refine gg_ ?_
   exact hK11 (j+1) _ ⟨hltj,S⟩ (by omega)
  have hje : j=l.length:=by omega
  subst hje
  rw [List.take_length,← hre] at S
  refine gg_ ?_
  refine hK6 (i+1) _ ⟨hlti,?_⟩ (by omega)
  have e : (List.range (i+1)).map (fun i=>yg nn (i : Nat))++List.replicate (nn.length - (i+1)) (-1)=(List.range i).map (fun i=>yg nn (i : Nat))++yg nn (i : Nat)::List.replicate (nn.length - (i+1)) (-1):=by
   rw [List.range_succ,List.map_append,List.append_assoc];rfl
  rw [e]
  exact S.to _
 have hie : i=nn.length:=by omega
 subst hie
 rw [Nat.sub_self,List.replicate_zero,List.append_nil] at S
 obtain ⟨S,hs,ha⟩:=S.litNew b29 (sz:=1) (R:=zu) (l:=(List.range nn.length).map fun i=>yg nn (i : Nat)) xa (by decide)
 rw [List.length_map,List.length_range] at hs
 exact h _ (sn.or (s1.or (Go.Sh.one b29 (ints ((List.range nn.length).map fun i=>yg nn (i : Nat))) 3))) _ S.ext (StX.newOf (S.to (r.or (sn.or (s1.or (Go.Sh.one b29 (ints ((List.range nn.length).map fun i=>yg nn (i : Nat))) 3))))) (a2.or' (a4.or' ha))) hs.cells
end Go.Proofs
end
section
namespace Go.Proofs
open Go.Sh Go.RowKit
set_option maxRecDepth 100000
set_option linter.unusedSimpArgs false
set_option linter.unusedVariables false
noncomputable def okL (u : UnD) (n q t : Int) : Bool:=!(((decide (fnE u n≠0) || !decide (∀ x ∈ [q,t],isN (netU u n) x)) || !decide (t ∈ nxt (netU u n) q)) || !decide (t ∈ abvL (netU u n) q))
set_option maxHeartbeats 1000000 in
theorem aaT {u : UnD} {n q t : Int} {v : Value} {w : World} {r : Gh} {K : Value→World→Prop} (hr : Holds r w) (hu : UnG r v u)
  (h : ∀ v' s w',Ext w w'→New w s w'→SlG 1 s zu v' (if okL u n q t=true then mkd (Z6 (netU u n) q t) else [])→K (.tuple #[v',.int .i64 (if okL u n q t=true then 0 else 2)]) w') : ze Tryz.prog Tryz.Zm #[v,.int .i64 n,.int .i64 q,.int .i64 t] w K:=by
 refine Tryz.aao ?_
 unfold Tryz.XR
 have hu0:=hu
 obtain ⟨p0,cap0,vf,rfl,_,_,hst,hsl,hfn⟩:=hu
 obtain ⟨qf,capf,rfl,_,_⟩:=hfn.sl.shape
 have S:=St.start hr
 refine S.box fun b3 w1 S=>?_
 have S : StX noX w r w1 [.cell b3 [.slice p0 u.ss.length cap0,.slice qf u.fs.length capf,.int .i64 u.mn] 25]:=S
 refine S.ldB (b:=b3) ?_ rfl
 refine y5 S.holds hu0 fun vn sn w2 e2 n2 hnet=>?_
 obtain ⟨S,_,a2⟩:=S.tell e2 n2
 have S:=S.tl
 refine gS_ ?_
 refine ZG (c:=!decide (∀ x ∈ [q,t],isN (netU u n) x)) (fun w'=>StX noX w (r.or sn) w' []) (fun _=>S) (fun hb K2 hK2=>?_) fun w3 S=>?_
 ·have hE : fnE u n=0:=by simpa using hb
  obtain ⟨hlt,he,hF⟩:=zE hE
  obtain ⟨_,hN⟩:=hnet hE
  rw [← he] at hN
  refine S.lit (e:=3) (cs:=[.int .i64 q,.int .i64 t]) (by kernel_rfl) fun b5 w3 S=>?_
  obtain ⟨S,hs5,_⟩:=S.litNew b5 (sz:=1) (R:=zu) (l:=[q,t]) (xw (c:=[.int .i64 q]) rfl rfl (zG rfl rfl)) (by decide)
  have hs5 : SlG 1 (Go.Sh.one b5 [.int .i64 q,.int .i64 t] 3) zu (.slice (some ⟨b5,0,none⟩) 2 2) [q,t]:=hs5
  have S : StX noX w ((r.or sn).or (Go.Sh.one b5 [.int .i64 q,.int .i64 t] 3)) w3 []:=S
  refine Z4 S.holds hN.up hs5.cells (by simp) fun w4 e4=>?_
  have S:=S.go e4
  refine gp_ ?_
  exact hK2 _ (S.to _)
 refine zk (c:=!decide (t ∈ nxt (netU u n) q)) (fun hb K2 hK2=>?_) ?_
 ·rw [Bool.or_eq_false_iff] at hb
  have hE : fnE u n=0:=by simpa using hb.1
  have hqt : ∀ x ∈ [q,t],isN (netU u n) x:=by simpa using hb.2
  have hqN:=hqt q (by simp)
  have q0:=hqN.1;have q1:=hqN.2
  obtain ⟨hlt,he,hF⟩:=zE hE
  obtain ⟨_,hN⟩:=hnet hE
  rw [← he] at hN
  obtain ⟨pn,capn,rfl,_,_⟩:=hN.sl.shape
  obtain ⟨bn,on,un,rfl,_,hcn,hun⟩:=qV hN (i:=q.toNat) (by omega)
  rw [j6 hqN] at hK2
  refine gg_ ?_
  refine zj (S.at hcn) ?_
  refine kt S.holds hun.sl.cells hun.few ?_
  refine gp_ ?_
  exact hK2
 have hok : okL u n q t = !(((decide (fnE u n≠0) || !decide (∀ x ∈ [q,t],isN (netU u n) x)) || !decide (t ∈ nxt (netU u n) q)) || !decide (t ∈ abvL (netU u n) q)):=rfl
 refine c_b (fun hb=>?_) (fun hb=>?_)
 ·rw [hb,Bool.true_or] at hok
  rw [hok] at h
  exact h _ nothing _ S.ext New.nothing SlG.nil
 rw [hb,Bool.false_or] at hok
 simp only [Bool.or_eq_false_iff,decide_eq_false_iff_not,Decidable.not_not,Bool.not_eq_false',decide_eq_true_eq,ne_eq] at hb
 obtain ⟨⟨hE,hqt⟩,hnx⟩:=hb
 have hqN:=hqt q (by simp)
 have htN:=hqt t (by simp)
 obtain ⟨hlt,he,hF⟩:=zE hE
 obtain ⟨_,hN⟩:=hnet hE
 rw [← he] at hN
 have hfew:=hF.few
 generalize netU u n=nn at *
 have q0:=hqN.1;have q1:=hqN.2;have t0:=htN.1;have t1:=htN.2
 refine JC S.holds hN.up hF.ok hF.nar hF.nd hF.pos (by omega) fun v1 s1 w4 R e4 n4 hR hRl hRa=>?_
 obtain ⟨S,_,a4⟩:=S.tell e4 n4
 obtain ⟨pR,capR,bR,oR,uq,rfl,rfl,hcR,hrw⟩:=Xs (n:=nn) hR (q:=q) (by rw [hRl];omega)
 rw [hRa q hqN] at hrw
 rw [hRl]
 obtain ⟨pp,kk,cp,rfl,hnone,hsome⟩:=aau hrw fun m' hm'=>by rw [qZ hm'];exact hF.pos
 refine gg_ ?_
 refine zj (S.at hcR) ?_
 refine gg_ ?_
 have hta : decide (t ∈ abvL nn q) = !(pp.isNone || !(match xn nn q with|some m=>mk' m t|none=>false)):=by
  rw [hnone]
  by_cases hm : t ∈ abvL nn q
  ·rw [decide_eq_true hm]
   rw [qY] at hm
   cases hx : xn nn q with
   |none=>rw [hx] at hm;exact absurd (show t ∈ ([] : List Int) from hm) (by simp)
   |some m=>rw [hx] at hm;have:=(Zx.1 hm).2;simp [this]
  ·rw [decide_eq_false hm]
   rw [qY] at hm
   cases hx : xn nn q with
   |none=>rfl
   |some m=>
    rw [hx] at hm
    have : mk' m t=false:=Bool.eq_false_iff.2 fun h=>hm (Zx.2 ⟨t0,h⟩)
    simp [this]
 refine zk (c:=!(match xn nn q with|some m=>mk' m t|none=>false)) (fun hb K2 hK2=>?_) ?_
 ·obtain ⟨m,hm⟩ : ∃ m,xn nn q=some m:=by
   rw [hnone] at hb
   cases hx : xn nn q with
   |none=>rw [hx] at hb;cases hb
   |some m=>exact ⟨m,rfl⟩
  obtain ⟨hkk,hcm⟩:=hsome m hm
  have hml:=qZ hm
  obtain ⟨bx,ox,rfl,hcm⟩:=hcm t.toNat (by omega)
  subst hkk
  rw [hm] at hK2
  have e : m[t.toNat]'(by omega)=mk' m t:=by rw [mk',List.getD_eq_getElem?_getD,List.getElem?_eq_getElem (by omega)];rfl
  rw [e] at hcm
  refine gg_ ?_
  refine zj (S.at hcm) ?_
  refine gp_ ?_
  exact hK2
 rw [hta,Bool.not_not] at hok
 refine c_b (fun hb=>?_) (fun hb=>?_)
 ·rw [hb] at hok
  rw [hok] at h
  exact h _ nothing _ S.ext New.nothing SlG.nil
 rw [hb] at hok
 rw [hok] at h
 clear hok hta hnone hsome hb hrw hcR hR hRa
 obtain ⟨pn,capn,rfl,_,_⟩:=hN.sl.shape
 refine gg_ ?_
 refine S.mkS (by omega) (by omega) fun b14 w5 S=>?_
 rw [Int.toNat_natCast] at S ⊢
 rw [abd] at S
 refine gg_ ?_
 refine S.st (b:=b14) (fun w6 S=>?_) (by rw [kr,List.length_replicate];omega)
 refine gg_ ?_
 refine S.st (b:=b14) (fun w7 S=>?_) (by rw [List.length_set,kr,List.length_replicate];omega)
 have S : StX noX w ((r.or sn).or s1) w7 [.cell b14 (bls (zA (zA (List.replicate nn.length false) t) q)) 4]:=by
  rw [← qW q0,← qW t0];exact S
 refine S.lit (e:=3) (cs:=[.int .i64 q]) (by kernel_rfl) fun b16 w8 S=>?_
 have S:=S.toRow 1 1 rfl (by decide)
 have S:=S.toQue (.slice (some ⟨b16,0,none⟩) 1 1)
 refine zh (ι:=Value × List Bool × List Int) (fun i=>[i.1]) (fun i w'=>(q≠t→Bfs (xc nn) (· = t) q (· = t) i.2.1 i.2.2)∧(q=t→i.2.1=zA (zA (List.replicate nn.length false) t) q∧∀ x ∈ i.2.2,x=t)∧i.2.1.length=nn.length∧2*off i.2.1+i.2.2.length≤2*nn.length+1∧StX noX w ((r.or sn).or s1) w' [.que i.1 3 1 i.2.2.length (ints i.2.2),.cell b14 (bls i.2.1) 4])
  (fun i=>2*off i.2.1+i.2.2.length) (.slice (some ⟨b16,0,none⟩) 1 1,zA (zA (List.replicate nn.length false) t) q,[q]) rfl ⟨fun hne=>ac5 hqN htN hne,fun e=>⟨rfl,fun x hx=>by rw [List.mem_singleton.1 hx];exact e⟩,by show (zA (zA (List.replicate nn.length false) t) q).length=_;rw [zT,zT,List.length_replicate],?_,S⟩ ?_
 ·have : off (zA (zA (List.replicate nn.length false) t) q)≤nn.length:=by
   have h1 : (zA (zA (List.replicate nn.length false) t) q).length=nn.length:=by rw [zT,zT,List.length_replicate]
   have h2 : off (zA (zA (List.replicate nn.length false) t) q)≤(zA (zA (List.replicate nn.length false) t) q).length:=List.countP_le_length
   omega
  simp only [List.length_singleton];omega
 repeat clear S
 rintro ⟨vq,m,qs⟩ d w9 ⟨hB,hB',hml,hms,S⟩ K4 hK4
 simp only at hB hB' hml hms S ⊢
 rw [List.getD_cons_zero]
 obtain ⟨pq,capq,rfl,hp0,hcq,_,hsl⟩:=S.queS vq
 refine gP_ ?_
 refine gP_ ?_
 refine c_b (fun hpos=>?_) (fun hz=>?_)
 ·have hpos : 0<qs.length:=by simpa using hpos
  cases qs with
  |nil=>simp at hpos
  |cons x qs=>
   obtain ⟨bq,oq,rfl,hcell⟩:=ZI hsl hpos
   have hxt : q=t→x=t:=fun e=>(hB' e).2 x List.mem_cons_self
   refine gP_ ?_
   refine zj (by simpa using hcell) ?_
   refine S.loQ (by omega) (by omega) hpos fun v' S=>?_
   have S : StX noX w ((r.or sn).or s1) w9 [.que v' 3 1 qs.length (ints qs),.cell b14 (bls m) 4]:=S
   refine gp_ ?_
   simp only [List.length_cons] at hms
   refine zm (fun hxe=>?_) (fun hxe=>?_)
   ·refine hK4 (v',m,qs) _ ⟨fun hne=>(hB hne).skip ⟨fun e=>hne (e.symm.trans hxe),hxe⟩,fun e=>⟨(hB' e).1,fun y hy=>(hB' e).2 y (List.mem_cons_of_mem _ hy)⟩,hml,by show 2*off m+qs.length≤_;omega,S⟩ (by show 2*off m+qs.length<2*off m+(x::qs).length;rw [List.length_cons];omega)
   have hne : q≠t:=fun e=>hxe (hxt e)
   have hB:=hB hne
   obtain ⟨hx,_,_⟩:=hB.todo x List.mem_cons_self
   have hxN:=qh.1 hx
   refine Qg (q:=x) S.holds hN.up (by omega) fun v2 s2 w10 e10 n10 hs2=>?_
   obtain ⟨S,_,a10⟩:=S.tell e10 n10
   obtain ⟨p2,cap2,rfl,_,_⟩:=hs2.shape
   have hB2:=hB.go aas (.inr hxe)
   rw [abh hxN] at hB2
   have hbl : (befN nn x).length≤1024:=Nat.le_trans Xn hfew
   have hl2 : ∀ y ∈ befN nn x,isN (xc nn) y:=fun y hy=>qh.2 (qU.1 hy).1
   refine gg_ ?_
   generalize befN nn x=l at hs2 hbl hB2 hl2
   have hvis : ∀ k,k≤l.length→_:=fun k (hk : k≤l.length)=>VI (n:=xc nn) (l:=l.take k) (m:=m) (qs:=qs) hB.len fun y hy=>hl2 y (List.mem_of_mem_take hy)
   have hqs : qs.length≤2*nn.length:=by omega
   refine zh (ι:=Nat × Value) (fun i=>[i.2,.int .i64 (i.1 : Nat)]) (fun i w'=>i.1≤l.length∧StX noX w (((r.or sn).or s1).or s2) w' [.que i.2 3 1 ((l.take i.1).foldl zq (m,qs)).2.length (ints ((l.take i.1).foldl zq (m,qs)).2),.cell b14 (bls ((l.take i.1).foldl zq (m,qs)).1) 4])
    (fun i=>l.length - i.1) (0,v') rfl ⟨Nat.zero_le _,S⟩ ?_
   repeat clear S
   rintro ⟨k,vq2⟩ d w11 ⟨hk,S⟩ K13 hK13
   simp only at hk S ⊢
   simp only [List.getD_cons_zero,List.getD_cons_succ]
   obtain ⟨g1,g2,g3,_,_,_⟩:=hvis k hk
   rw [qX] at g1
   refine gg_ ?_
   refine zm (fun hltk=>?_) (fun hge=>?_)
   ·have hltk : k<l.length:=by omega
    obtain ⟨bu,ou,rfl,_,hcu⟩:=zw hs2 hltk
    have hst : (l.take (k+1)).foldl zq (m,qs)=zq ((l.take k).foldl zq (m,qs)) l[k]:=by
     rw [List.take_succ_eq_append_getElem hltk,List.foldl_append];rfl
    have hy:=qh.1 (hl2 l[k] (List.getElem_mem hltk))
    have y0:=hy.1;have y1:=hy.2
    generalize l[k]=y at hcu hst y0 y1
    generalize (l.take k).foldl zq (m,qs)=st at hst S g1 g2 g3
    obtain ⟨m2,qs2⟩:=st
    simp only at S g1 g2 g3
    have ho : off m2≤nn.length:=by rw [← g1];exact List.countP_le_length
    refine zs (fun s w'=>∃ v2,s = [v2]∧StX noX w (((r.or sn).or s1).or s2) w' [.que v2 3 1 (zq (m2,qs2) y).2.length (ints (zq (m2,qs2) y).2),.cell b14 (bls (zq (m2,qs2) y).1) 4]) (fun K17 hK17=>?_) ?_
    ·refine gg_ ?_
     refine zj (by rw [Int.toNat_natCast];exact S.at hcu) ?_
     refine gg_ ?_
     refine S.ld (b:=b14) ?_ (acR (by omega))
     refine gp_ ?_
     refine c_b (fun hm=>?_) (fun hm=>?_)
     ·have hm : mk' m2 y=false:=by simpa using hm
      have e : zq (m2,qs2) y=(zA m2 y,qs2 ++ [y]):=by rw [zq,if_neg (by rw [hm];simp)]
      refine gp_ ?_
      refine S.st (b:=b14) (fun w7 S=>?_) (by rw [kr];omega)
      have S : StX noX w (((r.or sn).or s1).or s2) w7 [.que vq2 3 1 qs2.length (ints qs2),.cell b14 (bls (zA m2 y)) 4]:=by
       rw [← qW y0];exact S
      refine S.lit (e:=3) (cs:=[.int .i64 y]) (by kernel_rfl) fun b49 w8 S=>?_
      refine S.apQ (m:=1) (Sl.blk (S.blk b49)) (fun v50 w9 S=>?_) (by omega)
      refine hK17 _ _ ⟨v50,rfl,?_⟩
      rw [e,List.length_append,kf]
      exact S.drop b49
     ·have hm : mk' m2 y=true:=by simpa using hm
      have e : zq (m2,qs2) y=(m2,qs2):=by rw [zq,if_pos hm]
      refine hK17 _ _ ⟨vq2,rfl,?_⟩
      rw [e];exact S
    rintro s w12 ⟨v2,rfl,S⟩ d
    simp only [List.getD_cons_zero]
    refine gp_ ?_
    refine hK13 (k+1,v2) _ ⟨hltk,?_⟩ (by show l.length - (k+1)<l.length - k;omega)
    show StX noX w (((r.or sn).or s1).or s2) w12 [.que v2 3 1 ((l.take (k+1)).foldl zq (m,qs)).2.length (ints ((l.take (k+1)).foldl zq (m,qs)).2),.cell b14 (bls ((l.take (k+1)).foldl zq (m,qs)).1) 4]
    rw [hst];exact S
   have hke : k=l.length:=by omega
   subst hke
   rw [List.take_length] at S g1 g2 g3
   refine hK4 (vq2,_,_) _ ⟨fun _=>hB2,fun e=>absurd e hne,g1,by show 2*off (l.foldl zq (m,qs)).1+(l.foldl zq (m,qs)).2.length≤2*nn.length+1;omega,S.to _⟩ ?_
   show 2*off (l.foldl zq (m,qs)).1+(l.foldl zq (m,qs)).2.length<2*off m+(x::qs).length
   rw [List.length_cons];omega
 have hqs0 : qs = []:=by
  cases qs with
  |nil=>rfl
  |cons x qs=>simp at hz
 subst hqs0
 have hm : m=Z6 nn q t:=by
  by_cases e : q=t
  ·rw [(hB' e).1,← e];exact ad6 hqN
  ·exact ae2 hF.ok hqN e (hB e)
 subst hm
 have S:=S.tl
 obtain ⟨S,hs,ha⟩:=S.litNew b14 (sz:=1) (R:=kV) (l:=Z6 nn q t) ju (by decide)
 rw [Z7] at hs
 refine Z5 S.holds hs.cells (by rw [Z7];omega) fun v' s w13 e13 n13 hs13=>?_
 obtain ⟨S,_,a13⟩:=S.tell e13 n13
 exact h _ s _ S.ext ⟨fun b o ho=>S.holds b o (.inr ho),a13⟩ hs13
end Go.Proofs
end
section
namespace Go.Proofs
open Go.Sh
set_option maxRecDepth 100000
set_option linter.unusedSimpArgs false
set_option linter.unusedVariables false
end Go.Proofs
end
section
namespace Go.Proofs
open Go.Sh
set_option maxRecDepth 100000
set_option linter.unusedSimpArgs false
set_option linter.unusedVariables false
end Go.Proofs
end
section
namespace Go.Proofs.Tryz
open Go.Sh
set_option maxRecDepth 100000
end Go.Proofs.Tryz
end
section
namespace Go.Proofs
open Go.Sh Go.RowKit
set_option maxRecDepth 100000
set_option linter.unusedSimpArgs false
set_option linter.unusedVariables false
end Go.Proofs
end
section
namespace Go.Proofs
open Go.Sh Go.RowKit
set_option maxRecDepth 100000
set_option linter.unusedSimpArgs false
set_option linter.unusedVariables false
end Go.Proofs
end
section
namespace Go.Proofs
open Go.Sh Go.RowKit
set_option maxRecDepth 100000
set_option linter.unusedSimpArgs false
set_option linter.unusedVariables false
end Go.Proofs
end
section
namespace Go.Sh
end Go.Sh
namespace Go.Proofs
open Go.Sh Go.RowKit
set_option maxRecDepth 100000
set_option linter.unusedSimpArgs false
set_option linter.unusedVariables false
end Go.Proofs
end
section
namespace Go.Proofs
open Go.Sh Go.RowKit
set_option maxRecDepth 100000
set_option linter.unusedSimpArgs false
set_option linter.unusedVariables false
end Go.Proofs
end
section
namespace Go.Proofs
set_option linter.unusedSimpArgs false
set_option linter.unusedVariables false
end Go.Proofs
end
section
namespace Go.Proofs
open Go.Sh Go.RowKit
set_option maxRecDepth 100000
set_option linter.unusedSimpArgs false
set_option linter.unusedVariables false
end Go.Proofs
end
section
namespace Go.Proofs
open Go.Sh Go.RowKit
set_option maxRecDepth 100000
set_option linter.unusedSimpArgs false
set_option linter.unusedVariables false
end Go.Proofs
end
section
namespace Go.Proofs.Tryz
open Go.Sh
set_option maxRecDepth 100000
def jR (t0 t1 t2 : Value) (w : World) (K : VW) : Prop:=
 pw w (Instr.box 25 t0) fun t3 w1=>
 lo w1 25 t3 fun t18=>ca x8 #[t18] w1 fun t19 w2=>
 pp (Op.unary .not t19) fun t20=>zc t20 (ca zN #[] w2 fun t21 w3=>
 K t21 w3) (lo w2 25 t3 fun t23=>ca x6 #[t23,t1,t2] w2 fun t26 w4=>
 pe t26 0 fun t27=>pe t26 1 fun t28=>bt .neq 29 t28 (i6 0) fun t30=>zc t30 (pp (Builtin.len_ #[28] 3 #[t27]) fun t32=>bt .eql 3 t32 (i6 0) fun t33=>za (fun K5=>gIf t33 true (ca zN #[] w4 fun t35 w9=>
 K5 [t35] w9) (K5 [undef] w4)) (fun s6 _d7 w8=>
 zb t33 (s6.getD 0 undef) fa_ fun t36=>K t36 w8)) (lo w4 25 t3 fun t38=>ca km #[t38,t1,(i6 0),t2,(Value.slice Option.none 0 0)] w4 fun t41 w10=>
 pe t41 0 fun _t42=>pe t41 1 fun t43=>pe t41 2 fun t44=>bt .neq 29 t44 (i6 0) fun t46=>za (fun K11=>gIf t46 false (pp (Builtin.len_ #[28] 3 #[t27]) fun t50=>bt .gtr 3 t50 (i6 0) fun t51=>bf .neq 4 t43 t51 fun t52=>K11 [t52] w10) (K11 [undef] w10)) (fun s12 _d13 w14=>
 zb t46 tr_ (s12.getD 0 undef) fun t53=>zc t53 (K fa_ w14) (pp (Op.unary .not t43) fun t55=>zc t55 (ca zN #[] w14 fun t56 w15=>
 K t56 w15) (zo [(i6 0)] w14 (fun s17 _d18 w19 K16=>
 fl w19 t3 25 1 23 fun t59=>px 23 t59 t1 fun t61=>fl w19 t61 38 6 36 fun t63=>pp (Builtin.len_ #[36] 3 #[t63]) fun t64=>bf .lss 3 (s17.getD 0 undef) t64 fun t65=>zc t65 (lo w19 25 t3 fun t69=>pw w19 (Instr.buildSlice 28 1 #[(0,(s17.getD 0 undef))]) fun t73 w20=>
 ca km #[t69,t1,(i6 0),t2,t73] w20 fun t74 w21=>
 pe t74 0 fun _t75=>pe t74 1 fun t76=>pe t74 2 fun t77=>bt .neq 29 t77 (i6 0) fun t79=>za (fun K22=>gIf t79 false (ca yX #[t27,(s17.getD 0 undef)] w21 fun t83 w26=>
 pp (Op.unary .not t76) fun t85=>K22 [t83,t85] w26) (K22 [undef,undef] w21)) (fun s23 _d24 w25=>
 za (fun K27=>gIf (s23.getD 1 undef) false (bf .eql 3 (s17.getD 0 undef) t2 fun t89=>K27 [t89] w25) (K27 [undef] w25)) (fun s28 _d29 w30=>
 za (fun K31=>gIf t79 false (zb (s23.getD 1 undef) tr_ (s28.getD 0 undef) fun t90=>K31 [t90] w30) (K31 [undef] w30)) (fun s32 _d33 w34=>
 za (fun K35=>gIf (s32.getD 0 undef) false (bt .eql 3 (s17.getD 0 undef) (i6 0) fun t93=>K35 [t93] w34) (K35 [undef] w34)) (fun s36 _d37 w38=>
 za (fun K39=>gIf t79 false (zb (s32.getD 0 undef) tr_ (s36.getD 0 undef) fun t94=>bf .neq 4 (s23.getD 0 undef) t94 fun t95=>K39 [t95] w38) (K39 [undef] w38)) (fun s40 _d41 w42=>
 zb t79 tr_ (s40.getD 0 undef) fun t96=>zc t96 (K fa_ w42) (bt .add 3 (s17.getD 0 undef) (i6 1) fun t67=>K16 [t67] w42))))))) (lo w19 25 t3 fun t98=>ca qx #[t98,t1] w19 fun t100 w43=>
 pe t100 0 fun t101=>pe t100 1 fun t102=>bt .neq 29 t102 (i6 0) fun t104=>zc t104 (K fa_ w43) (zo [(i6 0),t2] w43 (fun s45 _d46 w47 K44=>
 bt .geq 3 (s45.getD 1 undef) (i6 0) fun t107=>zc t107 (ca yX #[t27,(s45.getD 1 undef)] w47 fun t114 w48=>
 pp (Op.unary .not t114) fun t115=>za (fun K49=>gIf t115 false (pp (Builtin.len_ #[28] 3 #[t27]) fun t119=>bf .gtr 3 (s45.getD 0 undef) t119 fun t120=>K49 [t120] w48) (K49 [undef] w48)) (fun s50 _d51 w52=>
 zb t115 tr_ (s50.getD 0 undef) fun t121=>za (fun K53=>gIf t121 false (pp (Builtin.len_ #[28] 3 #[t101]) fun t125=>bf .geq 3 (s45.getD 1 undef) t125 fun t126=>K53 [t126] w52) (K53 [undef] w52)) (fun s54 _d55 w56=>
 zb t121 tr_ (s54.getD 0 undef) fun t127=>zc t127 (K fa_ w56) (bt .add 3 (s45.getD 0 undef) (i6 1) fun t129=>xl w56 28 t101 (s45.getD 1 undef) 3 fun t111=>K44 [t129,t111] w56)))) (pp (Builtin.len_ #[28] 3 #[t27]) fun t132=>bf .eql 3 (s45.getD 0 undef) t132 fun t133=>za (fun K57=>gIf t133 true (ca zN #[] w47 fun t135 w61=>
 K57 [t135] w61) (K57 [undef] w47)) (fun s58 _d59 w60=>
 zb t133 (s58.getD 0 undef) fa_ fun t136=>K t136 w60)))))))))))
theorem Y4 {t0 t1 t2 : Value} {w : World} {K : VW} (h : jR t0 t1 t2 w K) : ze prog jJ #[t0,t1,t2] w K:=
 okC false (.s (.r (rz 2 0 2)) (.s (.s (.r (rz 3 0 9)) (.c (.s (.r (rz 2 0 2)) (.n)) (.n))) (.s (.r (rz 9 0 129)) (.s (.s (.r (rz 2 0 0)) (.c (.s (.r (ra 4 0 0 (.grp 34 true (ri 1 4 2) [35] (rz 2 5 0)))) (.n)) (.n))) (.s (.r (rz 11 0 129)) (.s (.s (.r (ra 3 0 0 (.grp 47 false (ri 5 3 0) [52] (rz 1 8 0)))) (.c (.s (.r (rz 1 0 0)) (.n)) (.n))) (.s (.s (.r (rz 2 0 0)) (.c (.s (.r (rz 2 0 2)) (.n)) (.n))) (.s (.s (.r (rz 1 0 0)) (.b (.lp [11] (.s (.s (.r (rz 9 0 4112)) (.c (.n) (.n))) (.s (.b (.s (.r (rz 13 0 2561)) (.s (.r (ra 3 0 0 (.grp 80 false (ri 6 3 32) [83,86] (.grp 86 false (ri 3 9 0) [89] (.grp 80 false (ri 2 12 0) [91] (.grp 91 false (ri 2 14 0) [93] (.grp 80 false (ri 2 16 0) [95] (rz 1 18 0)))))))) (.c (.s (.r (rz 1 0 0)) (.n)) (.n))))) (.r (rz 3 0 0))))))) (.s (.r (rz 8 0 33)) (.s (.s (.r (rz 2 0 0)) (.c (.s (.r (rz 1 0 0)) (.n)) (.n))) (.s (.r (rz 1 0 0)) (.s (.s (.r (rz 2 0 0)) (.b (.lp [16,17] (.s (.s (.r (rz 2 0 0)) (.c (.n) (.n))) (.s (.b (.s (.s (.r (ra 5 0 32 (.grp 116 false (ri 4 5 0) [120] (ra 2 9 0 (.grp 122 false (ri 4 11 0) [126] (rz 1 15 0)))))) (.c (.s (.r (rz 1 0 0)) (.n)) (.n))) (.r (rz 3 0 0)))) (.r (rz 5 0 64))))))) (.s (.r (ra 5 0 0 (.grp 134 true (ri 1 5 2) [135] (rz 2 6 0)))) (.n)))))))))))))) func6 rfl (by kernel_rfl) (by kernel_rfl) h
def jS (t0 t1 t2 : Value) (w : World) (K : VW) : Prop:=
 pw w (Instr.box 25 t0) fun t3 w1=>
 lo w1 25 t3 fun t26=>ca x8 #[t26] w1 fun t27 w2=>
 pp (Op.unary .not t27) fun t28=>zc t28 (ca zN #[] w2 fun t29 w3=>
 K t29 w3) (lo w2 25 t3 fun t31=>ca x5 #[t31,t1,t2] w2 fun t34 w4=>
 pe t34 0 fun t35=>pe t34 1 fun t36=>bt .neq 29 t36 (i6 0) fun t38=>zc t38 (pp (Builtin.len_ #[28] 3 #[t35]) fun t40=>bt .eql 3 t40 (i6 0) fun t41=>za (fun K5=>gIf t41 true (bt .eql 29 t36 (i6 2) fun t44=>K5 [t44] w4) (K5 [undef] w4)) (fun s6 _d7 w8=>
 zb t41 (s6.getD 0 undef) fa_ fun t45=>za (fun K9=>gIf t45 true (ca zN #[] w8 fun t47 w13=>
 K9 [t47] w13) (K9 [undef] w8)) (fun s10 _d11 w12=>
 zb t45 (s10.getD 0 undef) fa_ fun t48=>K t48 w12))) (fl w4 t3 25 1 23 fun t50=>px 23 t50 t1 fun t52=>fl w4 t52 38 6 36 fun t54=>pp (Builtin.len_ #[36] 3 #[t54]) fun t55=>ca yX #[t35,t2] w4 fun t58 w14=>
 pp (Op.unary .not t58) fun t59=>za (fun K15=>gIf t59 false (ca yy #[t35,t55] w14 fun t63 w19=>
 pp (Op.unary .not t63) fun t64=>K15 [t64] w19) (K15 [undef] w14)) (fun s16 _d17 w18=>
 zb t59 tr_ (s16.getD 0 undef) fun t65=>zc t65 (K fa_ w18) (fl w18 t3 25 1 23 fun t67=>px 23 t67 t1 fun t69=>fl w18 t69 38 6 36 fun t71=>pp (Builtin.len_ #[36] 3 #[t71]) fun t72=>pw w18 (Instr.makeSlice 28 t72 t72) fun t73 w20=>
 px 28 t73 t2 fun t76=>so w20 3 t76 (i6 1) fun w21=>zo [(i6 0)] w21 (fun s23 _d24 w25 K22=>
 pp (Builtin.len_ #[28] 3 #[t35]) fun t79=>bf .lss 3 (s23.getD 0 undef) t79 fun t80=>zc t80 (lo w25.drew 25 t3 fun t84=>xl w25.drew 28 t35 (s23.getD 0 undef) 3 fun t89=>ca xZ #[t84,t1,t89] w25.drew fun t90 w26=>
 pe t90 0 fun t91=>pe t90 1 fun t92=>bt .neq 29 t92 (i6 0) fun t94=>zc t94 (K fa_ w26) (zo [(i6 0)] w26 (fun s28 _d29 w30 K27=>
 pp (Builtin.len_ #[28] 3 #[t91]) fun t97=>bf .lss 3 (s28.getD 0 undef) t97 fun t98=>zc t98 (xl w30 28 t91 (s28.getD 0 undef) 3 fun t105=>ca yX #[t35,t105] w30 fun t106 w31=>
 pp (Op.unary .not t106) fun t107=>za (fun K32=>gIf t107 false (ca yy #[t91,t55] w31 fun t111 w36=>
 pp (Op.unary .not t111) fun t112=>K32 [t112] w36) (K32 [undef] w31)) (fun s33 _d34 w35=>
 zb t107 tr_ (s33.getD 0 undef) fun t113=>zc t113 (K fa_ w35) (bt .add 3 (s28.getD 0 undef) (i6 1) fun t100=>K27 [t100] w35))) (bt .add 3 (s23.getD 0 undef) (i6 1) fun t82=>K22 [t82] w30)))) (zo [(i6 0)] w25 (fun s38 _d39 w40 K37=>
 fl w40 t3 25 1 23 fun t116=>px 23 t116 t1 fun t118=>fl w40 t118 38 6 36 fun t120=>pp (Builtin.len_ #[36] 3 #[t120]) fun t121=>bf .lss 3 (s38.getD 0 undef) t121 fun t122=>zc t122 (za (fun K41=>
 lo w40 25 t3 fun t126=>ca km #[t126,t1,t2,(s38.getD 0 undef),(Value.slice Option.none 0 0)] w40 fun t130 w45=>
 pe t130 0 fun t131=>pe t130 1 fun t132=>pe t130 2 fun t133=>bt .neq 29 t133 (i6 0) fun t135=>za (fun K46=>gIf t135 false (ca yX #[t35,(s38.getD 0 undef)] w45 fun t140 w50=>
 bf .neq 4 t132 t140 fun t141=>K46 [t141] w50) (K46 [undef] w45)) (fun s47 _d48 w49=>
 zb t135 tr_ (s47.getD 0 undef) fun t142=>zc t142 (K fa_ w49) (pp (Op.unary .not t132) fun t144=>zc t144 (K41 [] w49) (lo w49 25 t3 fun t146=>ca vT #[t146,t1,t131] w49 fun t149 w51=>
 pe t149 0 fun t150=>pe t149 1 fun t151=>pe t149 2 fun t152=>bt .neq 3 t150 (i6 0) fun t154=>za (fun K52=>gIf t154 false (pp (Op.unary .not t151) fun t157=>K52 [t157] w51) (K52 [undef] w51)) (fun s53 _d54 w55=>
 zb t154 tr_ (s53.getD 0 undef) fun t158=>za (fun K56=>gIf t158 false (bt .neq 29 t152 (i6 0) fun t161=>K56 [t161] w55) (K56 [undef] w55)) (fun s57 _d58 w59=>
 zb t158 tr_ (s57.getD 0 undef) fun t162=>za (fun K60=>gIf t162 false (pp (Builtin.len_ #[28] 3 #[t131]) fun t165=>bt .eql 3 t165 (i6 0) fun t166=>K60 [t166] w59) (K60 [undef] w59)) (fun s61 _d62 w63=>
 zb t162 tr_ (s61.getD 0 undef) fun t167=>za (fun K64=>gIf t167 false (xl w63 28 t131 (i6 0) 3 fun t171=>bf .neq 3 t171 t2 fun t173=>K64 [t173] w63) (K64 [undef] w63)) (fun s65 _d66 w67=>
 zb t167 tr_ (s65.getD 0 undef) fun t174=>za (fun K68=>gIf t174 false (pp (Builtin.len_ #[28] 3 #[t131]) fun t178=>bt .sub 3 t178 (i6 1) fun t179=>xl w67 28 t131 t179 3 fun t181=>bf .neq 3 t181 (s38.getD 0 undef) fun t183=>K68 [t183] w67) (K68 [undef] w67)) (fun s69 _d70 w71=>
 zb t174 tr_ (s69.getD 0 undef) fun t184=>zc t184 (K fa_ w71) (pp (Builtin.len_ #[28] 3 #[t131]) fun t188=>px 28 t73 (s38.getD 0 undef) fun t189=>so w71 3 t189 t188 fun w72=>K41 [] w72)))))))))) (fun _s42 _d43 w44=>
 bt .add 3 (s38.getD 0 undef) (i6 1) fun t124=>K37 [t124] w44)) (zo [(i6 0)] w40 (fun s74 _d75 w76 K73=>
 pp (Builtin.len_ #[28] 3 #[t35]) fun t192=>bf .lss 3 (s74.getD 0 undef) t192 fun t193=>zc t193 (lo w76.drew 25 t3 fun t197=>xl w76.drew 28 t35 (s74.getD 0 undef) 3 fun t202=>ca xZ #[t197,t1,t202] w76.drew fun t203 w77=>
 pe t203 0 fun t204=>pe t203 1 fun _t205=>zo [(i6 0)] w77 (fun s79 _d80 w81 K78=>
 pp (Builtin.len_ #[28] 3 #[t204]) fun t208=>bf .lss 3 (s79.getD 0 undef) t208 fun t209=>zc t209 (xl w81.drew 28 t204 (s79.getD 0 undef) 3 fun t216=>xl w81.drew 28 t73 t216 3 fun t218=>xl w81.drew 28 t35 (s74.getD 0 undef) 3 fun t223=>xl w81.drew 28 t73 t223 3 fun t225=>bt .add 3 t225 (i6 1) fun t226=>bf .gtr 3 t218 t226 fun t227=>zc t227 (K fa_ w81.drew) (bt .add 3 (s79.getD 0 undef) (i6 1) fun t211=>K78 [t211] w81.drew)) (bt .add 3 (s74.getD 0 undef) (i6 1) fun t195=>K73 [t195] w81))) (ca zN #[] w76 fun t228 w82=>
 K t228 w82))))))))))
theorem Y5 {t0 t1 t2 : Value} {w : World} {K : VW} (h : jS t0 t1 t2 w K) : ze prog jK #[t0,t1,t2] w K:=
 okC false (.s (.r (rz 2 0 2)) (.s (.s (.r (rz 3 0 9)) (.c (.s (.r (rz 2 0 2)) (.n)) (.n))) (.s (.r (rz 9 0 129)) (.s (.s (.r (rz 2 0 0)) (.c (.s (.r (ra 4 0 0 (.grp 42 true (ri 2 4 0) [44] (ra 2 6 0 (.grp 46 true (ri 1 8 2) [47] (rz 2 9 0)))))) (.n)) (.n))) (.s (.r (rz 8 0 1028)) (.s (.s (.r (ra 5 0 32 (.grp 60 false (ri 4 5 32) [64] (rz 1 9 0)))) (.c (.s (.r (rz 1 0 0)) (.n)) (.n))) (.s (.r (rz 9 0 33796)) (.s (.r (rz 4 0 128)) (.s (.s (.r (rz 1 0 0)) (.b (.lp [11] (.s (.s (.r (rz 4 0 0)) (.c (.n) (.n))) (.s (.b (.s (.r (rz 12 0 9217)) (.s (.s (.r (rz 2 0 0)) (.c (.s (.r (rz 1 0 0)) (.n)) (.n))) (.s (.r (rz 1 0 0)) (.b (.lp [14] (.s (.s (.r (rz 4 0 0)) (.c (.n) (.n))) (.s (.b (.s (.r (ra 8 0 2304 (.grp 108 false (ri 4 8 32) [112] (rz 1 12 0)))) (.c (.s (.r (rz 1 0 0)) (.n)) (.n)))) (.r (rz 3 0 0)))))))))) (.r (rz 3 0 0))))))) (.s (.s (.r (rz 1 0 0)) (.b (.lp [15] (.s (.s (.r (rz 9 0 4112)) (.c (.n) (.n))) (.j [] (.b (.s (.r (rz 12 0 513)) (.s (.s (.r (ra 3 0 0 (.grp 136 false (ri 5 3 128) [141] (rz 1 8 0)))) (.c (.s (.r (rz 1 0 0)) (.n)) (.n))) (.s (.s (.r (rz 2 0 0)) (.c (.n) (.n))) (.s (.s (.r (rz 11 0 129)) (.s (.r (ra 3 0 0 (.grp 155 false (ri 2 3 0) [157] (ra 2 5 0 (.grp 159 false (ri 2 7 0) [161] (ra 2 9 0 (.grp 163 false (ri 3 11 0) [166] (ra 2 14 0 (.grp 168 false (ri 5 16 16) [173] (ra 2 21 0 (.grp 175 false (ri 8 23 1024) [183] (rz 1 31 0)))))))))))) (.c (.s (.r (rz 1 0 0)) (.n)) (.n)))) (.r (rz 6 0 2048))))))) (.r (rz 3 0 0))))))) (.s (.s (.r (rz 1 0 0)) (.b (.lp [22] (.s (.s (.r (rz 4 0 0)) (.c (.n) (.n))) (.s (.b (.s (.r (rz 12 0 9217)) (.s (.r (rz 1 0 0)) (.b (.lp [25] (.s (.s (.r (rz 4 0 0)) (.c (.n) (.n))) (.s (.b (.s (.r (rz 16 0 71307520)) (.c (.s (.r (rz 1 0 0)) (.n)) (.n)))) (.r (rz 3 0 0))))))))) (.r (rz 3 0 0))))))) (.s (.r (rz 2 0 2)) (.n))))))))))))) func9 rfl (by kernel_rfl) (by kernel_rfl) h
def jT (t0 t1 : Value) (w : World) (K : VW) : Prop:=
 pw w (Instr.box 25 t0) fun t2 w1=>
 lo w1 25 t2 fun t22=>ca x8 #[t22] w1 fun t23 w2=>
 pp (Op.unary .not t23) fun t24=>zc t24 (ca zN #[] w2 fun t25 w3=>
 K t25 w3) (lo w2 25 t2 fun t27=>ca qw #[t27,t1] w2 fun t29 w4=>
 pe t29 0 fun t30=>pe t29 1 fun t31=>bt .neq 29 t31 (i6 0) fun t33=>zc t33 (pp (Builtin.len_ #[28] 3 #[t30]) fun t35=>bt .eql 3 t35 (i6 0) fun t36=>za (fun K5=>gIf t36 true (ca zN #[] w4 fun t38 w9=>
 K5 [t38] w9) (K5 [undef] w4)) (fun s6 _d7 w8=>
 zb t36 (s6.getD 0 undef) fa_ fun t39=>K t39 w8)) (lo w4 25 t2 fun t41=>ca x5 #[t41,t1,(i6 0)] w4 fun t43 w10=>
 pe t43 0 fun t44=>pe t43 1 fun t45=>lo w10 25 t2 fun t47=>ca jf #[t47,t1] w10 fun t49 w11=>
 pe t49 0 fun t50=>pe t49 1 fun t51=>bt .neq 29 t45 (i6 0) fun t53=>za (fun K12=>gIf t53 false (bt .neq 29 t51 (i6 0) fun t56=>K12 [t56] w11) (K12 [undef] w11)) (fun s13 _d14 w15=>
 zb t53 tr_ (s13.getD 0 undef) fun t57=>za (fun K16=>gIf t57 false (pp (Builtin.len_ #[28] 3 #[t30]) fun t60=>pp (Builtin.len_ #[28] 3 #[t44]) fun t62=>bf .neq 3 t60 t62 fun t63=>K16 [t63] w15) (K16 [undef] w15)) (fun s17 _d18 w19=>
 zb t57 tr_ (s17.getD 0 undef) fun t64=>za (fun K20=>gIf t64 false (pp (Builtin.len_ #[28] 3 #[t30]) fun t67=>bt .eql 3 t67 (i6 0) fun t68=>K20 [t68] w19) (K20 [undef] w19)) (fun s21 _d22 w23=>
 zb t64 tr_ (s21.getD 0 undef) fun t69=>za (fun K24=>gIf t69 false (xl w23 28 t30 (i6 0) 3 fun t73=>bt .neq 3 t73 (i6 0) fun t74=>K24 [t74] w23) (K24 [undef] w23)) (fun s25 _d26 w27=>
 zb t69 tr_ (s25.getD 0 undef) fun t75=>za (fun K28=>gIf t75 false (fl w27 t2 25 1 23 fun t79=>px 23 t79 t1 fun t81=>fl w27 t81 38 6 36 fun t83=>pp (Builtin.len_ #[36] 3 #[t83]) fun t84=>ca yy #[t30,t84] w27 fun t85 w32=>
 pp (Op.unary .not t85) fun t86=>K28 [t86] w32) (K28 [undef] w27)) (fun s29 _d30 w31=>
 zb t75 tr_ (s29.getD 0 undef) fun t87=>zc t87 (K fa_ w31) (fl w31 t2 25 1 23 fun t89=>px 23 t89 t1 fun t91=>fl w31 t91 38 6 36 fun t93=>pp (Builtin.len_ #[36] 3 #[t93]) fun t94=>pw w31 (Instr.makeSlice 28 t94 t94) fun t95 w33=>
 zo [(i6 0)] w33 (fun s35 _d36 w37 K34=>
 pp (Builtin.len_ #[28] 3 #[t30]) fun t98=>bf .lss 3 (s35.getD 0 undef) t98 fun t99=>zc t99 (xl w37 28 t30 (s35.getD 0 undef) 3 fun t106=>ca yX #[t44,t106] w37 fun t107 w38=>
 pp (Op.unary .not t107) fun t108=>za (fun K39=>gIf t108 false (xl w38 28 t30 (s35.getD 0 undef) 3 fun t114=>xl w38 28 t95 t114 3 fun t116=>bt .neq 3 t116 (i6 0) fun t117=>K39 [t117] w38) (K39 [undef] w38)) (fun s40 _d41 w42=>
 zb t108 tr_ (s40.getD 0 undef) fun t118=>zc t118 (K fa_ w42) (xl w42 28 t30 (s35.getD 0 undef) 3 fun t123=>bt .add 3 (s35.getD 0 undef) (i6 1) fun t125=>px 28 t95 t123 fun t126=>so w42 3 t126 t125 fun w43=>bt .add 3 (s35.getD 0 undef) (i6 1) fun t101=>K34 [t101] w43))) (zo [(i6 0),(i6 0)] w37 (fun s45 _d46 w47 K44=>
 pp (Builtin.len_ #[28] 3 #[t30]) fun t129=>bf .lss 3 (s45.getD 1 undef) t129 fun t130=>zc t130 (lo w47.drew 25 t2 fun t134=>xl w47.drew 28 t30 (s45.getD 1 undef) 3 fun t139=>ca x6 #[t134,t1,t139] w47.drew fun t140 w48=>
 pe t140 0 fun t141=>pe t140 1 fun t142=>lo w48.drew 25 t2 fun t144=>xl w48.drew 28 t30 (s45.getD 1 undef) 3 fun t149=>ca xZ #[t144,t1,t149] w48.drew fun t150 w49=>
 pe t150 0 fun t151=>pe t150 1 fun t152=>bt .neq 29 t142 (i6 0) fun t154=>za (fun K50=>gIf t154 false (bt .neq 29 t152 (i6 0) fun t157=>K50 [t157] w49) (K50 [undef] w49)) (fun s51 _d52 w53=>
 zb t154 tr_ (s51.getD 0 undef) fun t158=>za (fun K54=>gIf t158 false (pp (Builtin.len_ #[28] 3 #[t95]) fun t162=>ca yy #[t141,t162] w53 fun t163 w58=>
 pp (Op.unary .not t163) fun t164=>K54 [t164] w58) (K54 [undef] w53)) (fun s55 _d56 w57=>
 zb t158 tr_ (s55.getD 0 undef) fun t165=>za (fun K59=>gIf t165 false (pp (Builtin.len_ #[28] 3 #[t95]) fun t169=>ca yy #[t151,t169] w57 fun t170 w63=>
 pp (Op.unary .not t170) fun t171=>K59 [t171] w63) (K59 [undef] w57)) (fun s60 _d61 w62=>
 zb t165 tr_ (s60.getD 0 undef) fun t172=>zc t172 (K fa_ w62) (zo [(i6 0)] w62 (fun s65 _d66 w67 K64=>
 pp (Builtin.len_ #[28] 3 #[t141]) fun t175=>bf .lss 3 (s65.getD 0 undef) t175 fun t176=>zc t176 (xl w67 28 t141 (s65.getD 0 undef) 3 fun t183=>xl w67 28 t95 t183 3 fun t185=>bt .eql 3 t185 (i6 0) fun t186=>za (fun K68=>gIf t186 false (xl w67 28 t141 (s65.getD 0 undef) 3 fun t192=>xl w67 28 t95 t192 3 fun t194=>bt .add 3 (s45.getD 1 undef) (i6 1) fun t196=>bf .gtr 3 t194 t196 fun t197=>K68 [t197] w67) (K68 [undef] w67)) (fun s69 _d70 w71=>
 zb t186 tr_ (s69.getD 0 undef) fun t198=>zc t198 (K fa_ w71) (bt .add 3 (s65.getD 0 undef) (i6 1) fun t178=>K64 [t178] w71))) (zo [(s45.getD 0 undef),(i6 0)] w67 (fun s73 _d74 w75 K72=>
 pp (Builtin.len_ #[28] 3 #[t151]) fun t201=>bf .lss 3 (s73.getD 1 undef) t201 fun t202=>zc t202 (za (fun K76=>
 zo [fa_,(i6 0)] w75 (fun s81 _d82 w83 K80=>
 pp (Builtin.len_ #[46] 3 #[t50]) fun t207=>bf .lss 3 (s81.getD 1 undef) t207 fun t208=>zc t208 (za (fun K84=>gIf (s81.getD 0 undef) false (xl w83.drew 46 t50 (s81.getD 1 undef) 52 fun t216=>xl w83.drew 28 t30 (s45.getD 1 undef) 3 fun t220=>xl w83.drew 28 t151 (s73.getD 1 undef) 3 fun t224=>pp (Instr.build 52 #[(0,t220),(1,t224)]) fun t225=>pq w83.drew (zU .eql 52 false t216 t225) fun t226=>K84 [t226] w83.drew) (K84 [undef] w83.drew)) (fun s85 _d86 w87=>
 zb (s81.getD 0 undef) tr_ (s85.getD 0 undef) fun t227=>bt .add 3 (s81.getD 1 undef) (i6 1) fun t210=>K80 [t227,t210] w87)) (xl w83 28 t151 (s73.getD 1 undef) 3 fun t233=>xl w83 28 t95 t233 3 fun t235=>bt .add 3 (s45.getD 1 undef) (i6 1) fun t237=>bf .leq 3 t235 t237 fun t238=>bf .neq 4 (s81.getD 0 undef) t238 fun t239=>zc t239 (K fa_ w83) (zc (s81.getD 0 undef) (bt .add 3 (s73.getD 0 undef) (i6 1) fun t242=>K76 [t242] w83) (K76 [(s73.getD 0 undef)] w83))))) (fun s77 _d78 w79=>
 bt .add 3 (s73.getD 1 undef) (i6 1) fun t204=>K72 [(s77.getD 0 undef),t204] w79)) (bt .add 3 (s45.getD 1 undef) (i6 1) fun t132=>K44 [(s73.getD 0 undef),t132] w75))))))))) (pp (Builtin.len_ #[46] 3 #[t50]) fun t245=>bf .eql 3 (s45.getD 0 undef) t245 fun t246=>za (fun K88=>gIf t246 true (ca zN #[] w47 fun t248 w92=>
 K88 [t248] w92) (K88 [undef] w47)) (fun s89 _d90 w91=>
 zb t246 (s89.getD 0 undef) fa_ fun t249=>K t249 w91)))))))))))))
theorem Y6 {t0 t1 : Value} {w : World} {K : VW} (h : jT t0 t1 w K) : ze prog jL #[t0,t1] w K:=
 okC false (.s (.r (rz 2 0 2)) (.s (.s (.r (rz 3 0 9)) (.c (.s (.r (rz 2 0 2)) (.n)) (.n))) (.s (.r (rz 8 0 33)) (.s (.s (.r (rz 2 0 0)) (.c (.s (.r (ra 4 0 0 (.grp 37 true (ri 1 4 2) [38] (rz 2 5 0)))) (.n)) (.n))) (.s (.r (rz 8 0 33)) (.s (.r (rz 8 0 33)) (.s (.s (.r (ra 3 0 0 (.grp 54 false (ri 2 3 0) [56] (ra 2 5 0 (.grp 58 false (ri 5 7 0) [63] (ra 2 12 0 (.grp 65 false (ri 3 14 0) [68] (ra 2 17 0 (.grp 70 false (ri 4 19 16) [74] (ra 2 23 0 (.grp 76 false (ri 10 25 135184) [86] (rz 1 35 0)))))))))))) (.c (.s (.r (rz 1 0 0)) (.n)) (.n))) (.s (.r (rz 9 0 33796)) (.s (.s (.r (rz 1 0 0)) (.b (.lp [11] (.s (.s (.r (rz 4 0 0)) (.c (.n) (.n))) (.s (.b (.s (.s (.r (ra 8 0 2304 (.grp 109 false (ri 8 8 4352) [117] (rz 1 16 0)))) (.c (.s (.r (rz 1 0 0)) (.n)) (.n))) (.r (rz 9 0 131328)))) (.r (rz 3 0 0))))))) (.s (.r (rz 1 0 0)) (.s (.s (.r (rz 1 0 0)) (.b (.lp [12,13] (.s (.s (.r (rz 4 0 0)) (.c (.n) (.n))) (.s (.b (.s (.r (rz 12 0 9217)) (.s (.r (rz 12 0 9217)) (.s (.s (.r (ra 3 0 0 (.grp 155 false (ri 2 3 0) [157] (ra 2 5 0 (.grp 159 false (ri 5 7 128) [164] (ra 2 12 0 (.grp 166 false (ri 5 14 128) [171] (rz 1 19 0)))))))) (.c (.s (.r (rz 1 0 0)) (.n)) (.n))) (.s (.s (.r (rz 1 0 0)) (.b (.lp [18] (.s (.s (.r (rz 4 0 0)) (.c (.n) (.n))) (.s (.b (.s (.r (ra 9 0 4352 (.grp 187 false (ri 10 9 4352) [197] (rz 1 19 0)))) (.c (.s (.r (rz 1 0 0)) (.n)) (.n)))) (.r (rz 3 0 0))))))) (.s (.r (rz 1 0 0)) (.b (.lp [12,19] (.s (.s (.r (rz 4 0 0)) (.c (.n) (.n))) (.j [12] (.b (.s (.r (rz 1 0 0)) (.s (.s (.r (rz 1 0 0)) (.b (.lp [20,21] (.s (.s (.r (rz 4 0 0)) (.c (.n) (.n))) (.s (.b (.r (ra 2 0 0 (.grp 212 false (ri 14 2 71319616) [226] (rz 2 16 0))))) (.r (rz 3 0 0))))))) (.s (.s (.r (rz 12 0 17408)) (.c (.s (.r (rz 1 0 0)) (.n)) (.n))) (.s (.r (rz 1 0 0)) (.c (.r (rz 3 0 0)) (.n))))))) (.r (rz 3 0 0)))))))))))) (.r (rz 3 0 0))))))) (.s (.r (ra 5 0 0 (.grp 247 true (ri 1 5 2) [248] (rz 2 6 0)))) (.n))))))))))))) func10 rfl (by kernel_rfl) (by kernel_rfl) h
def Y7 (t0 : Value) (w : World) (K : VW) : Prop:=
 pw w (Instr.box 25 t0) fun t1 w1=>
 fl w1 t1 25 0 22 fun t6=>pp (Builtin.len_ #[22] 3 #[t6]) fun t7=>bt .gtr 3 t7 (i6 40) fun t8=>za (fun K2=>gIf t8 false (fl w1 t1 25 1 23 fun t11=>pp (Builtin.len_ #[23] 3 #[t11]) fun t12=>bt .gtr 3 t12 (i6 8) fun t13=>K2 [t13] w1) (K2 [undef] w1)) (fun s3 _d4 w5=>
 zb t8 tr_ (s3.getD 0 undef) fun t14=>zc t14 (K fa_ w5) (zo [(i6 0)] w5 (fun s7 _d8 w9 K6=>
 fl w9 t1 25 0 22 fun t17=>pp (Builtin.len_ #[22] 3 #[t17]) fun t18=>bf .lss 3 (s7.getD 0 undef) t18 fun t19=>zc t19 (fl w9 t1 25 0 22 fun t23=>px 22 t23 (s7.getD 0 undef) fun t25=>fl w9 t25 95 1 93 fun t27=>pp (Builtin.len_ #[93] 3 #[t27]) fun t28=>bt .gtr 3 t28 (i6 20) fun t29=>zc t29 (K fa_ w9) (bt .add 3 (s7.getD 0 undef) (i6 1) fun t21=>K6 [t21] w9)) (zo [(i6 0)] w9 (fun s11 _d12 w13 K10=>
 fl w13 t1 25 1 23 fun t32=>pp (Builtin.len_ #[23] 3 #[t32]) fun t33=>bf .lss 3 (s11.getD 0 undef) t33 fun t34=>zc t34 (fl w13 t1 25 1 23 fun t38=>px 23 t38 (s11.getD 0 undef) fun t40=>fl w13 t40 38 6 36 fun t42=>pp (Builtin.len_ #[36] 3 #[t42]) fun t43=>bt .gtr 3 t43 (i6 120) fun t44=>za (fun K14=>gIf t44 false (fl w13 t1 25 1 23 fun t47=>px 23 t47 (s11.getD 0 undef) fun t49=>fl w13 t49 38 4 34 fun t51=>pp (Builtin.len_ #[34] 3 #[t51]) fun t52=>bt .gtr 3 t52 (i6 120) fun t53=>K14 [t53] w13) (K14 [undef] w13)) (fun s15 _d16 w17=>
 zb t44 tr_ (s15.getD 0 undef) fun t54=>zc t54 (K fa_ w17) (bt .add 3 (s11.getD 0 undef) (i6 1) fun t36=>K10 [t36] w17))) (K tr_ w13))))))
theorem Vv {t0 : Value} {w : World} {K : VW} (h : Y7 t0 w K) : ze prog x8 #[t0] w K:=
 okC false (.s (.r (rz 2 0 2)) (.s (.s (.r (ra 5 0 4 (.grp 9 false (ri 4 5 4) [13] (rz 1 9 0)))) (.c (.s (.r (rz 1 0 0)) (.n)) (.n))) (.s (.s (.r (rz 1 0 0)) (.b (.lp [3] (.s (.s (.r (rz 5 0 16)) (.c (.n) (.n))) (.s (.b (.s (.r (rz 8 0 1028)) (.c (.s (.r (rz 1 0 0)) (.n)) (.n)))) (.r (rz 3 0 0))))))) (.s (.s (.r (rz 1 0 0)) (.b (.lp [4] (.s (.s (.r (rz 5 0 16)) (.c (.n) (.n))) (.s (.b (.s (.r (ra 9 0 1028 (.grp 45 false (ri 8 9 1028) [53] (rz 1 17 0)))) (.c (.s (.r (rz 1 0 0)) (.n)) (.n)))) (.r (rz 3 0 0))))))) (.s (.r (rz 1 0 0)) (.n)))))) func12 rfl (by kernel_rfl) (by kernel_rfl) h
def Ym (w : World) (K : VW) : Prop:=
 pw w (Instr.buildSlice 28 2 #[(0,(i6 1)),(1,(i6 2))]) fun t22 w1=>
 ca qy #[t22] w1 fun t23 w2=>
 pw w2 (Instr.alloc 25 true (.tuple #[])) fun t1 w3=>
 so w3 25 t1 t23 fun w4=>lo w4 25 t1 fun t25=>ca jA #[t25,(i6 0),(i6 2)] w4 fun t26 w5=>
 pe t26 0 fun t27=>pe t26 1 fun t28=>lo w5 25 t1 fun t30=>ca x5 #[t30,(i6 0),(i6 1)] w5 fun t31 w6=>
 pe t31 0 fun t32=>pe t31 1 fun t33=>lo w6 25 t1 fun t35=>ca km #[t35,(i6 0),(i6 0),(i6 2),(Value.slice Option.none 0 0)] w6 fun t36 w7=>
 pe t36 0 fun t37=>pe t36 1 fun t38=>pe t36 2 fun t39=>lo w7 25 t1 fun t41=>ca qw #[t41,(i6 0)] w7 fun t42 w8=>
 pe t42 0 fun t43=>pe t42 1 fun t44=>lo w8 25 t1 fun t46=>ca x6 #[t46,(i6 0),(i6 2)] w8 fun t47 w9=>
 pe t47 0 fun t48=>pe t47 1 fun t49=>lo w9 25 t1 fun t51=>ca qx #[t51,(i6 0)] w9 fun t52 w10=>
 pe t52 0 fun t53=>pe t52 1 fun t54=>lo w10 25 t1 fun t56=>pw w10 (Instr.buildSlice 28 2 #[(0,(i6 0)),(1,(i6 2))]) fun t57 w11=>
 ca vT #[t56,(i6 0),t57] w11 fun t58 w12=>
 pe t58 0 fun t59=>pe t58 1 fun t60=>pe t58 2 fun t61=>pw w12 (Instr.buildSlice 28 1 #[(0,(i6 0))]) fun t63 w13=>
 ca qy #[t63] w13 fun t64 w14=>
 ca jf #[t64,(i6 0)] w14 fun t65 w15=>
 pe t65 0 fun t66=>pe t65 1 fun t67=>lo w15 25 t1 fun t69=>ca Zm #[t69,(i6 0),(i6 0),(i6 1)] w15 fun t70 w16=>
 pe t70 0 fun _t71=>pe t70 1 fun t72=>bt .eql 29 t28 (i6 0) fun t74=>za (fun K17=>gIf t74 true (pp (Builtin.len_ #[28] 3 #[t27]) fun t77=>bt .eql 3 t77 (i6 1) fun t78=>K17 [t78] w16) (K17 [undef] w16)) (fun s18 _d19 w20=>
 zb t74 (s18.getD 0 undef) fa_ fun t79=>za (fun K21=>gIf t79 true (xl w20 28 t27 (i6 0) 3 fun t83=>bt .eql 3 t83 (i6 1) fun t84=>K21 [t84] w20) (K21 [undef] w20)) (fun s22 _d23 w24=>
 zb t79 (s22.getD 0 undef) fa_ fun t85=>za (fun K25=>gIf t85 true (bt .eql 29 t33 (i6 0) fun t88=>K25 [t88] w24) (K25 [undef] w24)) (fun s26 _d27 w28=>
 zb t85 (s26.getD 0 undef) fa_ fun t89=>za (fun K29=>gIf t89 true (pp (Builtin.len_ #[28] 3 #[t32]) fun t92=>bt .eql 3 t92 (i6 2) fun t93=>K29 [t93] w28) (K29 [undef] w28)) (fun s30 _d31 w32=>
 zb t89 (s30.getD 0 undef) fa_ fun t94=>za (fun K33=>gIf t94 true (bt .eql 29 t39 (i6 0) fun t97=>K33 [t97] w32) (K33 [undef] w32)) (fun s34 _d35 w36=>
 zb t94 (s34.getD 0 undef) fa_ fun t98=>za (fun K37=>gIf t98 true (K37 [t38] w36) (K37 [undef] w36)) (fun s38 _d39 w40=>
 zb t98 (s38.getD 0 undef) fa_ fun t101=>za (fun K41=>gIf t101 true (pp (Builtin.len_ #[28] 3 #[t37]) fun t104=>bt .eql 3 t104 (i6 3) fun t105=>K41 [t105] w40) (K41 [undef] w40)) (fun s42 _d43 w44=>
 zb t101 (s42.getD 0 undef) fa_ fun t106=>za (fun K45=>gIf t106 true (bt .eql 29 t44 (i6 0) fun t109=>K45 [t109] w44) (K45 [undef] w44)) (fun s46 _d47 w48=>
 zb t106 (s46.getD 0 undef) fa_ fun t110=>za (fun K49=>gIf t110 true (pp (Builtin.len_ #[28] 3 #[t43]) fun t113=>bt .eql 3 t113 (i6 3) fun t114=>K49 [t114] w48) (K49 [undef] w48)) (fun s50 _d51 w52=>
 zb t110 (s50.getD 0 undef) fa_ fun t115=>za (fun K53=>gIf t115 true (bt .eql 29 t49 (i6 0) fun t118=>K53 [t118] w52) (K53 [undef] w52)) (fun s54 _d55 w56=>
 zb t115 (s54.getD 0 undef) fa_ fun t119=>za (fun K57=>gIf t119 true (pp (Builtin.len_ #[28] 3 #[t48]) fun t122=>bt .eql 3 t122 (i6 3) fun t123=>K57 [t123] w56) (K57 [undef] w56)) (fun s58 _d59 w60=>
 zb t119 (s58.getD 0 undef) fa_ fun t124=>za (fun K61=>gIf t124 true (bt .eql 29 t54 (i6 0) fun t127=>K61 [t127] w60) (K61 [undef] w60)) (fun s62 _d63 w64=>
 zb t124 (s62.getD 0 undef) fa_ fun t128=>za (fun K65=>gIf t128 true (xl w64 28 t53 (i6 0) 3 fun t132=>bt .eql 3 t132 (i6 (-1)) fun t133=>K65 [t133] w64) (K65 [undef] w64)) (fun s66 _d67 w68=>
 zb t128 (s66.getD 0 undef) fa_ fun t134=>za (fun K69=>gIf t134 true (xl w68 28 t53 (i6 2) 3 fun t138=>bt .eql 3 t138 (i6 1) fun t139=>K69 [t139] w68) (K69 [undef] w68)) (fun s70 _d71 w72=>
 zb t134 (s70.getD 0 undef) fa_ fun t140=>za (fun K73=>gIf t140 true (bt .eql 29 t61 (i6 0) fun t143=>K73 [t143] w72) (K73 [undef] w72)) (fun s74 _d75 w76=>
 zb t140 (s74.getD 0 undef) fa_ fun t144=>za (fun K77=>gIf t144 true (pp (Op.unary .not t60) fun t147=>K77 [t147] w76) (K77 [undef] w76)) (fun s78 _d79 w80=>
 zb t144 (s78.getD 0 undef) fa_ fun t148=>za (fun K81=>gIf t148 true (bt .eql 3 t59 (i6 1) fun t151=>K81 [t151] w80) (K81 [undef] w80)) (fun s82 _d83 w84=>
 zb t148 (s82.getD 0 undef) fa_ fun t152=>za (fun K85=>gIf t152 true (bt .eql 29 t67 (i6 0) fun t155=>K85 [t155] w84) (K85 [undef] w84)) (fun s86 _d87 w88=>
 zb t152 (s86.getD 0 undef) fa_ fun t156=>za (fun K89=>gIf t156 true (pp (Builtin.len_ #[46] 3 #[t66]) fun t159=>bt .eql 3 t159 (i6 1) fun t160=>K89 [t160] w88) (K89 [undef] w88)) (fun s90 _d91 w92=>
 zb t156 (s90.getD 0 undef) fa_ fun t161=>za (fun K93=>gIf t161 true (bt .eql 29 t72 (i6 2) fun t164=>K93 [t164] w92) (K93 [undef] w92)) (fun s94 _d95 w96=>
 zb t161 (s94.getD 0 undef) fa_ fun t165=>K t165 w96))))))))))))))))))))
theorem JD {w : World} {K : VW} (h : Ym  w K) : ze prog zN #[] w K:=
 okC false (.s (.r (rz 1 0 0)) (.s (.r (rz 4 0 170)) (.s (.r (rz 7 0 9)) (.s (.r (rz 7 0 9)) (.s (.r (rz 9 0 9)) (.s (.r (rz 7 0 9)) (.s (.r (rz 7 0 9)) (.s (.r (rz 7 0 9)) (.s (.r (rz 10 0 41)) (.s (.r (rz 8 0 42)) (.s (.r (rz 7 0 9)) (.s (.r (ra 3 0 0 (.grp 75 true (ri 3 3 0) [78] (ra 2 6 0 (.grp 80 true (ri 4 8 16) [84] (ra 2 12 0 (.grp 86 true (ri 2 14 0) [88] (ra 2 16 0 (.grp 90 true (ri 3 18 0) [93] (ra 2 21 0 (.grp 95 true (ri 2 23 0) [97] (ra 2 25 0 (.grp 99 true (ri 1 27 0) [100] (ra 2 28 0 (.grp 102 true (ri 3 30 0) [105] (ra 2 33 0 (.grp 107 true (ri 2 35 0) [109] (ra 2 37 0 (.grp 111 true (ri 3 39 0) [114] (ra 2 42 0 (.grp 116 true (ri 2 44 0) [118] (ra 2 46 0 (.grp 120 true (ri 3 48 0) [123] (ra 2 51 0 (.grp 125 true (ri 2 53 0) [127] (ra 2 55 0 (.grp 129 true (ri 4 57 16) [133] (ra 2 61 0 (.grp 135 true (ri 4 63 16) [139] (ra 2 67 0 (.grp 141 true (ri 2 69 0) [143] (ra 2 71 0 (.grp 145 true (ri 2 73 0) [147] (ra 2 75 0 (.grp 149 true (ri 2 77 0) [151] (ra 2 79 0 (.grp 153 true (ri 2 81 0) [155] (ra 2 83 0 (.grp 157 true (ri 3 85 0) [160] (ra 2 88 0 (.grp 162 true (ri 2 90 0) [164] (rz 2 92 0)))))))))))))))))))))))))))))))))))))))))) (.n))))))))))))) func13 rfl (by kernel_rfl) (by kernel_rfl) h
def Q2 (t0 t1 : Value) (w : World) (K : VW) : Prop:=
 zo [(i6 0)] w (fun s2 _d3 w4 K1=>
 pp (Builtin.len_ #[28] 3 #[t0]) fun t8=>bf .lss 3 (s2.getD 0 undef) t8 fun t9=>zc t9 (xl w4 28 t0 (s2.getD 0 undef) 3 fun t15=>bf .eql 3 t15 t1 fun t17=>zc t17 (K tr_ w4) (bt .add 3 (s2.getD 0 undef) (i6 1) fun t11=>K1 [t11] w4)) (K fa_ w4))
theorem aaU {t0 t1 : Value} {w : World} {K : VW} (h : Q2 t0 t1 w K) : ze prog yX #[t0,t1] w K:=
 okC false (.s (.r (rz 1 0 0)) (.s (.s (.r (rz 1 0 0)) (.b (.lp [5] (.s (.s (.r (rz 4 0 0)) (.c (.n) (.n))) (.s (.b (.s (.r (rz 6 0 64)) (.c (.s (.r (rz 1 0 0)) (.n)) (.n)))) (.r (rz 3 0 0))))))) (.s (.r (rz 1 0 0)) (.n)))) func33 rfl (by kernel_rfl) (by kernel_rfl) h
def ZO (t0 t1 : Value) (w : World) (K : VW) : Prop:=
 zo [(i6 0)] w (fun s2 _d3 w4 K1=>
 pp (Builtin.len_ #[28] 3 #[t0]) fun t8=>bf .lss 3 (s2.getD 0 undef) t8 fun t9=>zc t9 (xl w4 28 t0 (s2.getD 0 undef) 3 fun t15=>bt .lss 3 t15 (i6 0) fun t16=>za (fun K5=>gIf t16 false (xl w4 28 t0 (s2.getD 0 undef) 3 fun t21=>bf .geq 3 t21 t1 fun t23=>K5 [t23] w4) (K5 [undef] w4)) (fun s6 _d7 w8=>
 zb t16 tr_ (s6.getD 0 undef) fun t24=>zc t24 (K fa_ w8) (bt .add 3 (s2.getD 0 undef) (i6 1) fun t11=>K1 [t11] w8))) (K tr_ w4))
theorem Q3 {t0 t1 : Value} {w : World} {K : VW} (h : ZO t0 t1 w K) : ze prog yy #[t0,t1] w K:=
 okC false (.s (.r (rz 1 0 0)) (.s (.s (.r (rz 1 0 0)) (.b (.lp [5] (.s (.s (.r (rz 4 0 0)) (.c (.n) (.n))) (.s (.b (.s (.r (ra 6 0 64 (.grp 17 false (ri 6 6 64) [23] (rz 1 12 0)))) (.c (.s (.r (rz 1 0 0)) (.n)) (.n)))) (.r (rz 3 0 0))))))) (.s (.r (rz 1 0 0)) (.n)))) func51 rfl (by kernel_rfl) (by kernel_rfl) h
def Y8 (t0 : Value) (w : World) (K : VW) : Prop:=
 pw w (Instr.alloc 25 true (.tuple #[])) fun t2 w1=>
 pp (Instr.build 138 #[(0,(Value.int .u8 1))]) fun t5=>pw w1 (Instr.buildSlice 34 1 #[(0,t5)]) fun t6 w2=>
 pw w2 (Instr.buildSlice 35 1 #[(0,(Value.string { data:=#[] }))]) fun t7 w3=>
 pp (Instr.build 38 #[(4,t6),(5,t7)]) fun t8=>pw w3 (Instr.alloc 38 true (.tuple #[])) fun t3 w4=>
 so w4 38 t3 t8 fun w5=>zo [(i6 0)] w5 (fun s7 _d8 w9 K6=>
 pp (Builtin.len_ #[28] 3 #[t0]) fun t11=>bf .lss 3 (s7.getD 0 undef) t11 fun t12=>zc t12 (fl w9.drew t3 38 6 36 fun t16=>xl w9.drew 28 t0 (s7.getD 0 undef) 3 fun t20=>pp (Instr.build 87 #[(0,(Value.int .u8 13)),(10,t20)]) fun t21=>pw w9.drew (Instr.buildSlice 36 1 #[(0,t21)]) fun t22 w10=>
 Ext w9.drew w10∧
 pw w10 (Builtin.append_ #[36,36] 36 #[t16,t22]) fun t23 w11=>
 pf 38 t3 6 fun t24=>so w11 36 t24 t23 fun w12=>bt .add 3 (s7.getD 0 undef) (i6 1) fun t14=>K6 [t14] w12) (fl w9 t3 38 6 36 fun t26=>pp (Instr.build 87 #[(0,(Value.int .u8 14))]) fun t27=>pw w9 (Instr.buildSlice 36 1 #[(0,t27)]) fun t28 w13=>
 pw w13 (Builtin.append_ #[36,36] 36 #[t26,t28]) fun t29 w14=>
 pf 38 t3 6 fun t30=>so w14 36 t30 t29 fun w15=>lo w15 38 t3 fun t31=>pw w15 (Instr.buildSlice 23 1 #[(0,t31)]) fun t32 w16=>
 pp (Instr.build 25 #[(1,t32)]) fun t33=>so w16 25 t2 t33 fun w17=>pq w17 (ya 25 t2) fun r18=>K r18 w17))
theorem Vx {t0 : Value} {w : World} {K : VW} (h : Y8 t0 w K) : ze prog qy #[t0] w K:=
 okC false (.s (.r (rz 1 0 2)) (.s (.r (rz 6 0 2600)) (.s (.s (.r (rz 1 0 0)) (.b (.lp [4] (.s (.s (.r (rz 4 0 0)) (.c (.n) (.n))) (.s (.b (.r (rz 11 0 2278404))) (.r (rz 3 0 0))))))) (.s (.r (rz 7 0 8836)) (.s (.r (rz 4 0 137)) (.n)))))) func54 rfl (by kernel_rfl) (by kernel_rfl) h
end Go.Proofs.Tryz
end
section
namespace Go.Proofs
open Go.Sh Go.RowKit
set_option maxRecDepth 100000
set_option linter.unusedSimpArgs false
set_option linter.unusedVariables false
theorem kx {l : List Int} {x : Int} {v : Value} {w : World} {r : Gh} {K : Value→World→Prop} (hr : Holds r w) (hl : SlG 1 r zu v l) (hf : l.length≤1000000)
  (h : K (.bool (decide (x ∈ l))) w) : ze Tryz.prog Tryz.yX #[v,.int .i64 x] w K:=by
 refine Tryz.aaU ?_
 unfold Tryz.Q2
 obtain ⟨p,cap,rfl,_,_⟩:=hl.shape
 refine zh (ι:=Nat) (fun i=>[.int .i64 (i : Nat)]) (fun i w'=>w'=w∧i≤l.length∧x ∉ l.take i) (fun i=>l.length - i) 0 rfl ⟨rfl,Nat.zero_le _,by simp⟩ ?_
 rintro i d w' ⟨rfl,hi,hn⟩ K1 hK1
 simp only [List.getD_cons_zero]
 refine gg_ ?_
 refine zm (fun hlt=>?_) (fun hge=>?_)
 ·have hlt : i<l.length:=by omega
  obtain ⟨b,off,rfl,_,hc⟩:=zw hl hlt
  refine gg_ ?_
  refine zj (by rw [Int.toNat_natCast];exact hc _ hr) ?_
  refine gg_ ?_
  refine zm (fun he=>?_) (fun he=>?_)
  ·rw [decide_eq_true (by rw [← he];exact List.getElem_mem hlt)] at h
   exact h
  ·refine gg_ ?_
   refine hK1 (i+1) _ ⟨rfl,hlt,?_⟩ (by omega)
   rw [List.take_succ_eq_append_getElem hlt,List.mem_append,List.mem_singleton]
   exact fun h=>h.elim hn fun e=>he e.symm
 ·have : i=l.length:=by omega
  subst this
  rw [List.take_length] at hn
  rw [decide_eq_false hn] at h
  exact h
theorem xo {l : List Int} {n : Int} {v : Value} {w : World} {r : Gh} {K : Value→World→Prop} (hr : Holds r w) (hl : SlG 1 r zu v l) (hf : l.length≤1000000)
  (h : K (.bool (decide (∀ x ∈ l,0≤x∧x<n))) w) : ze Tryz.prog Tryz.yy #[v,.int .i64 n] w K:=by
 refine Tryz.Q3 ?_
 unfold Tryz.ZO
 obtain ⟨p,cap,rfl,_,_⟩:=hl.shape
 refine zh (ι:=Nat) (fun i=>[.int .i64 (i : Nat)]) (fun i w'=>w'=w∧i≤l.length∧∀ x ∈ l.take i,0≤x∧x<n) (fun i=>l.length - i) 0 rfl ⟨rfl,Nat.zero_le _,by simp⟩ ?_
 rintro i d w' ⟨rfl,hi,hn⟩ K1 hK1
 simp only [List.getD_cons_zero]
 refine gg_ ?_
 refine zm (fun hlt=>?_) (fun hge=>?_)
 ·have hlt : i<l.length:=by omega
  obtain ⟨b,off,rfl,_,hc⟩:=zw hl hlt
  refine gg_ ?_
  refine zj (by rw [Int.toNat_natCast];exact hc _ hr) ?_
  refine gg_ ?_
  refine zk (c:=decide (n≤l[i])) (fun _ K2 hK2=>?_) ?_
  ·refine gg_ ?_
   refine zj (by rw [Int.toNat_natCast];exact hc _ hr) ?_
   refine gg_ ?_
   exact hK2
  refine c_b (fun hb=>?_) (fun hb=>?_)
  ·simp only [Bool.or_eq_true,decide_eq_true_eq] at hb
   rw [decide_eq_false fun k=>by have:=k _ (List.getElem_mem hlt);omega] at h
   exact h
  ·simp only [Bool.or_eq_false_iff,decide_eq_false_iff_not] at hb
   refine gg_ ?_
   refine hK1 (i+1) _ ⟨rfl,hlt,?_⟩ (by omega)
   intro x hx
   rw [List.take_succ_eq_append_getElem hlt,List.mem_append,List.mem_singleton] at hx
   rcases hx with hx|rfl
   ·exact hn x hx
   ·omega
 ·have : i=l.length:=by omega
  subst this
  rw [List.take_length] at hn
  rw [decide_eq_true hn] at h
  exact h
end Go.Proofs
end
section
namespace Go.Proofs
open Go.Sh
set_option maxRecDepth 100000
set_option linter.unusedSimpArgs false
set_option linter.unusedVariables false
theorem vJ {u : UnD} {v : Value} {w : World} {r : Gh} {K : Value→World→Prop} (hr : Holds r w) (hu : UnG r v u) (h : ∀ (b : Bool) w',Ext w w'→K (.bool b) w') : ze Tryz.prog Tryz.x8 #[v] w K:=by
 refine Tryz.Vv ?_
 unfold Tryz.Y7
 obtain ⟨p0,cap0,vf,rfl,_,_,hst,hsl,hfn⟩:=hu
 obtain ⟨qf,capf,rfl,_,_⟩:=hfn.sl.shape
 have hfl : u.fs.length≤9223372036854775807:=hfn.few
 have hsl' : u.ss.length≤9223372036854775807:=hsl
 have S:=St.start hr
 refine S.box fun b1 w1 S=>?_
 have S : StX noX w r w1 [.cell b1 [.slice p0 u.ss.length cap0,.slice qf u.fs.length capf,.int .i64 u.mn] 25]:=S
 refine gg_ ?_
 refine zk (c:=decide (8<(u.fs.length : Int))) (fun _ K2 hK2=>by refine gg_ ?_;exact hK2) ?_
 refine c_b (fun _=>h _ _ S.ext) (fun _=>?_)
 refine zh (ι:=Nat) (fun i=>[.int .i64 (i : Nat)]) (fun i w'=>i≤u.ss.length∧StX noX w r w' _) (fun i=>u.ss.length - i) 0 rfl ⟨Nat.zero_le _,S⟩ ?_
 clear S
 rintro i d w2 ⟨hi,S⟩ K6 hK6
 rw [List.getD_cons_zero]
 refine gg_ ?_
 refine zm (fun hlt=>?_) (fun hge=>?_)
 ·have hlt : i<u.ss.length:=by omega
  obtain ⟨b,off,q,capq,rfl,hcell,_,_,_⟩:=Ze hst hlt
  refine gg_ ?_
  refine zj (by rw [Int.toNat_natCast];exact S.at hcell) ?_
  refine gg_ ?_
  refine c_b (fun _=>h _ _ S.ext) (fun _=>?_)
  refine gg_ ?_
  exact hK6 (i+1) _ ⟨hlt,S⟩ (by omega)
 refine zh (ι:=Nat) (fun i=>[.int .i64 (i : Nat)]) (fun i w'=>i≤u.fs.length∧StX noX w r w' _) (fun i=>u.fs.length - i) 0 rfl ⟨Nat.zero_le _,S⟩ ?_
 clear S hK6 K6 hge hi
 rintro i d w3 ⟨hi,S⟩ K7 hK7
 simp only [List.getD_cons_zero]
 refine gg_ ?_
 refine zm (fun hlt=>?_) (fun hge=>h _ _ S.ext)
 have hlt : i<u.fs.length:=by omega
 obtain ⟨bf,of,cf,rfl,hcf,hgc,hfo⟩:=hfn.sl.get (by decide) hlt
 generalize u.fs[i]=g at hgc
 obtain ⟨vo,vt,vn,vp,rfl,h1,h2,h3,h4⟩:=id hgc
 obtain ⟨qt,capt,rfl,_,hct⟩:=h2.sl.shape
 obtain ⟨qp,capp,rfl,_,_⟩:=h4.sl.shape
 have l4 : Ob r fun w=>w.cell? ⟨bf,of+i*7+4,none⟩=some (.slice qt g.tys.length capt):=hfo 4 _ rfl
 have l6 : Ob r fun w=>w.cell? ⟨bf,of+i*7+6,none⟩=some (.slice qp g.pts.length capp):=hfo 6 _ rfl
 refine gg_ ?_
 refine zj (by rw [Int.toNat_natCast];exact S.at l6) ?_
 refine gg_ ?_
 refine zk (c:=decide (120<(g.tys.length : Int))) (fun _ K2 hK2=>?_) ?_
 ·refine gg_ ?_
  refine zj (by rw [Int.toNat_natCast];exact S.at l4) ?_
  refine gg_ ?_
  exact hK2
 refine c_b (fun _=>h _ _ S.ext) (fun _=>?_)
 refine gg_ ?_
 exact hK7 (i+1) _ ⟨hlt,S⟩ (by omega)
end Go.Proofs
end
section
namespace Go.Proofs
open Go.Sh
set_option maxRecDepth 100000
set_option linter.unusedSimpArgs false
set_option linter.unusedVariables false
def yq (x : Int) : PtD:=⟨13,vv,Xk,Xk,[],ByteArray.empty,vv,false,0,0,x,0,0⟩
def yQ (l : List Int) : GrD:=⟨ByteArray.empty,0,[],0,[Jq],[ByteArray.empty],l.map yq ++ [exB]⟩
def yk (l : List Int) : UnD:=⟨[],[yQ l],0⟩
theorem ade : zg (yQ [1,2])=n3:=by decide
theorem adf : zg (yQ [0])=n1:=by decide
theorem ab0 : yZ (yk [1,2]) 0 (yQ [1,2])=true:=by
 have h1 : qH (yk [1,2]) (yQ [1,2]) 0 (yQ [1,2]).tys=true:=by
  show ((xk [] Jq&&_)&&true)=true
  rw [afF]
  kernel_rfl
 unfold yZ
 rw [h1]
 show (_ : Bool)=true
 kernel_rfl
theorem ab1 : yZ (yk [0]) 0 (yQ [0])=true:=by
 have h1 : qH (yk [0]) (yQ [0]) 0 (yQ [0]).tys=true:=by
  show ((xk [] Jq&&_)&&true)=true
  rw [afF]
  kernel_rfl
 unfold yZ
 rw [h1]
 show (_ : Bool)=true
 kernel_rfl
theorem adg (l : List Int) : yw (yk l) (yQ l) exB=true:=by
 have e : zC exB {} = true:=by
  rw [zC,ZY,show exB.sign=ByteArray.empty from rfl,Z3];kernel_rfl
 have : yw (yk l) (yQ l) exB=zC exB {}:=by kernel_rfl
 rw [this,e]
theorem abm {x : Int} (h : x=1∨x=2) : yw (yk [1,2]) (yQ [1,2]) (yq x)=true:=by
 have e : zC (yq x) {} = true:=by
  rw [zC,ZY,show (yq x).sign=ByteArray.empty from rfl,Z3];kernel_rfl
 rcases h with rfl|rfl
 ·have : yw (yk [1,2]) (yQ [1,2]) (yq 1)=(zC (yq 1) {} && true):=by kernel_rfl
  rw [this,e];rfl
 ·have : yw (yk [1,2]) (yQ [1,2]) (yq 2)=(zC (yq 2) {} && true):=by kernel_rfl
  rw [this,e];rfl
theorem afe : yw (yk [0]) (yQ [0]) (yq 0)=true:=by
 have e : zC (yq 0) {} = true:=by
  rw [zC,ZY,show (yq 0).sign=ByteArray.empty from rfl,Z3];kernel_rfl
 have : yw (yk [0]) (yQ [0]) (yq 0)=(zC (yq 0) {} && true):=by kernel_rfl
 rw [this,e];rfl
theorem adh : MayU (yk [1,2]):=by
 refine ⟨by show (zV []).2=0;rw [hst],by decide,by decide,by decide,by decide,fun i hi=>?_,fun g hg=>?_⟩
 ·have : i=0:=by have : (yk [1,2]).fs.length=1:=rfl;omega
  subst this
  exact ab0
 ·rw [List.mem_singleton.1 hg]
  intro p hp
  have hp : p ∈ [yq 1,yq 2,exB]:=hp
  simp only [List.mem_cons,List.not_mem_nil,or_false] at hp
  rcases hp with rfl|rfl|rfl
  ·exact abm (.inl rfl)
  ·exact abm (.inr rfl)
  ·exact adg _
theorem adi : MayU (yk [0]):=by
 refine ⟨by show (zV []).2=0;rw [hst],by decide,by decide,by decide,by decide,fun i hi=>?_,fun g hg=>?_⟩
 ·have : i=0:=by have : (yk [0]).fs.length=1:=rfl;omega
  subst this
  exact ab1
 ·rw [List.mem_singleton.1 hg]
  intro p hp
  have hp : p ∈ [yq 0,exB]:=hp
  simp only [List.mem_cons,List.not_mem_nil,or_false] at hp
  rcases hp with rfl|rfl
  ·exact afe
  ·exact adg _
theorem kh : fnE (yk [1,2]) 0=0:=by
 rw [fnE,Qe.2 adh];rfl
theorem aax : fnE (yk [0]) 0=0:=by
 rw [fnE,Qe.2 adi];rfl
end Go.Proofs
end
section
namespace Go.Proofs
open Go.Sh
set_option maxRecDepth 100000
set_option linter.unusedSimpArgs false
set_option linter.unusedVariables false
abbrev Z9 (x : Int) : List Value:=[.int .u8 13,.int .i64 0,.slice none 0 0,.int .u8 0,.int .i64 0,.int .i64 0,.slice none 0 0,.int .u8 0,.int .i64 0,.int .i64 0,.slice none 0 0,.slice none 0 0,.string ByteArray.empty,.int .i64 0,.slice none 0 0,.bool false,.int .i64 0,.int .i64 0,.int .i64 x,.int .i64 0,.int .i64 0]
def xG (l : List Int) : List Value:=l.flatMap fun x=>Z9 x
theorem aaV {l : List Int} {x : Int} : xG (l ++ [x])=xG l++Z9 x:=by rw [xG,List.flatMap_append];simp [xG]
theorem afQ {r : Gh} {x : Int} : PtG r (Z9 x) (yq x):=⟨_,_,_,_,_,rfl,zZ,zZ,zZ,zZ,zZ⟩
theorem age {r : Gh} : PtG r hl3 exB:=⟨_,_,_,_,_,rfl,zZ,zZ,zZ,zZ,zZ⟩
theorem aay {r : Gh} : ∀ {l : List Int},RowOf 21 (PtG r) (xG l++hl3) (l.map yq ++ [exB])
 |[]=>zG rfl age
 |x::l=>by
  have:=xw (c:=Z9 x) rfl afQ (aay (r:=r) (l:=l))
  rw [xG,List.flatMap_cons,List.append_assoc]
  exact this
abbrev j3 (bt bn : Nat) (v : Value) : List Value:=[.string ByteArray.empty,.int .i64 0,.slice none 0 0,.int .i64 0,.slice (some ⟨bt,0,none⟩) 1 1,.slice (some ⟨bn,0,none⟩) 1 1,v]
set_option maxHeartbeats 1000000 in
theorem Y9 {l : List Int} {v : Value} {w : World} {r : Gh} {K : Value→World→Prop} (hr : Holds r w) (hl : SlG 1 r zu v l) (hf : l.length≤100)
  (h : ∀ v' s w',Ext w w'→New w s w'→UnG s v' (yk l)→K v' w') : ze Tryz.prog Tryz.qy #[v] w K:=by
 refine Tryz.Vx ?_
 unfold Tryz.Y8
 obtain ⟨p,cap,rfl,_,_⟩:=hl.shape
 have S:=St.start hr
 refine S.al fun b2 w1 S=>?_
 refine zz (cs:=vz.toArray) (by kernel_rfl) ?_
 refine S.lit (e:=138) (cs:=vz) (by kernel_rfl) fun bt w2 S=>?_
 refine S.lit (e:=9) (cs:=[.string ByteArray.empty]) (by kernel_rfl) fun bn w3 S=>?_
 refine zz (cs:=(j3 bt bn (.slice none 0 0)).toArray) (by kernel_rfl) ?_
 refine S.al fun b3 w4 S=>?_
 refine S.stB (b:=b3) fun w5 S=>?_
 have S:=S.ownNil 87 21
 have S : StX noX w r w5 [.row (.slice none 0 0) 87 21 0 (xG []),.cell b3 (j3 bt bn (.slice none 0 0)) 38,.cell bn [.string ByteArray.empty] 9,.cell bt vz 138,.cell b2 [.slice none 0 0,.slice none 0 0,.int .i64 0] 25]:=S
 refine zh (ι:=Value × Nat) (fun i=>[.int .i64 (i.2 : Nat)]) (fun i w'=>i.2≤l.length∧StX noX w r w' [.row i.1 87 21 i.2 (xG (l.take i.2)),.cell b3 (j3 bt bn i.1) 38,.cell bn [.string ByteArray.empty] 9,.cell bt vz 138,.cell b2 [.slice none 0 0,.slice none 0 0,.int .i64 0] 25]) (fun i=>l.length - i.2) (.slice none 0 0,0) rfl ⟨Nat.zero_le _,S⟩ ?_
 repeat clear S
 rintro ⟨vp,i⟩ d w6 ⟨hi,S⟩ K6 hK6
 simp only at hi S ⊢
 rw [List.getD_cons_zero]
 refine gg_ ?_
 refine zm (fun hlt=>?_) (fun hge=>?_)
 ·have hlt : i<l.length:=by omega
  have S:=S.go (Ext.drew _)
  obtain ⟨b,off,hp,_,hc⟩:=zw hl hlt
  cases hp
  refine gg_ ?_
  refine zj (by rw [Int.toNat_natCast];exact S.at hc) ?_
  refine zz (cs:=(Z9 l[i]).toArray) (by kernel_rfl) ?_
  refine S.litU (e:=87) (cs:=Z9 l[i]) (by kernel_rfl) fun b7 w7 S=>?_
  refine S.ap (v:=vp) (m':=1) (Sl.blk (S.blk b7)) (fun v8 w8 S=>?_) (by omega)
  have S:=S.drop b7
  refine gg_ ?_
  refine S.st (b:=b3) (fun w9 S=>?_) (by simp) (S.row1 v8)
  refine gg_ ?_
  refine hK6 (v8,i+1) _ ⟨hlt,?_⟩ (by show l.length - (i+1)<l.length - i;omega)
  have e : xG (l.take (i+1))=xG (l.take i)++Z9 l[i]:=by rw [List.take_succ_eq_append_getElem hlt,aaV]
  show StX noX w r w9 [.row v8 87 21 (i+1) (xG (l.take (i+1))),_,_,_,_]
  rw [e]
  exact S
 have hie : i=l.length:=by omega
 clear hK6
 subst hie
 rw [List.take_length] at S
 refine gg_ ?_
 refine S.lit (e:=87) (cs:=hl3) (by kernel_rfl) fun b7 w7 S=>?_
 refine S.ap (v:=vp) (m':=1) (Sl.blk (S.blk b7)) (fun v8 w8 S=>?_) (by omega)
 have S:=S.drop b7
 refine gg_ ?_
 refine S.st (b:=b3) (fun w9 S=>?_) (by simp) (S.row1 v8)
 refine S.ldB (b:=b3) ?_ rfl
 have S : StX noX w r w9 [.row v8 87 21 (l.length+1) (xG l++hl3),.cell b3 (j3 bt bn v8) 38,.cell bn [.string ByteArray.empty] 9,.cell bt vz 138,.cell b2 [.slice none 0 0,.slice none 0 0,.int .i64 0] 25]:=S
 have S:=S.drop b3
 refine S.lit (e:=38) (cs:=j3 bt bn v8) (by kernel_rfl) fun bg w10 S=>?_
 refine zz (cs:=#[.slice none 0 0,.slice (some ⟨bg,0,none⟩) 1 1,.int .i64 0]) (by kernel_rfl) ?_
 refine S.stB (b:=b2) fun w11 S=>?_
 refine S.ceB (b:=b2) ?_ rfl
 have S:=S.drop b2
 have S:=S.swap
 obtain ⟨sp,S,hsp,_,ap⟩:=S.doneRow (aay (r:=nothing) (l:=l)) (by decide) (by simp)
 have ap : Above w sp:=fun b o ho=>(ap b o ho).resolve_right id
 obtain ⟨S,ht,at'⟩:=S.litNew bt (sz:=5) (R:=TyC nothing) (l:=[Jq]) (zG (c:=vz) rfl (show TyC nothing vz Jq from QN)) (by decide)
 obtain ⟨S,hn,an⟩:=S.litNew bn (sz:=1) (R:=adM) (l:=[ByteArray.empty]) (zG rfl rfl) (by decide)
 obtain ⟨qp,cp,rfl,_,_⟩:=hsp.shape
 have hz : ∀ {r : Gh} {α : Type} {sz : Nat} {R : List Value→α→Prop},SlB sz r R (.slice none 0 0) ([] : List α):=zZ
 have hfew : (l.map yq ++ [exB]).length≤1000000:=by rw [List.length_append,List.length_map,List.length_singleton];omega
 obtain ⟨S,hg,ag⟩:=S.litNew bg (sz:=7) (R:=GrG ((sp.or (Go.Sh.one bt vz 138)).or (Go.Sh.one bn [.string ByteArray.empty] 9))) (l:=[yQ l])
  (zG rfl ⟨_,_,_,_,rfl,hz,Xl (hl:=Nat.le_of_ble_eq_true rfl) (ht.up' inferInstance fun c x hx=>TyG.up hx),Xl (hl:=Nat.le_of_ble_eq_true rfl) hn.cells,Xl (hl:=hfew) (hsp.up' inferInstance fun c x hx=>PtG.up hx)⟩) (by decide)
 have S : StX noX w ((((r.or sp).or (Go.Sh.one bt vz 138)).or (Go.Sh.one bn [.string ByteArray.empty] 9)).or (Go.Sh.one bg (j3 bt bn (.slice qp (l.map yq ++ [exB]).length cp)) 38)) w11 []:=S
 have hg : SlG 7 (Go.Sh.one bg (j3 bt bn (.slice qp (l.map yq ++ [exB]).length cp)) 38) (GrG ((sp.or (Go.Sh.one bt vz 138)).or (Go.Sh.one bn [.string ByteArray.empty] 9))) (.slice (some ⟨bg,0,none⟩) 1 1) [yQ l]:=hg
 have ag : Above w (Go.Sh.one bg (j3 bt bn (.slice qp (l.map yq ++ [exB]).length cp)) 38):=ag
 exact h _ (((sp.or (Go.Sh.one bt vz 138)).or (Go.Sh.one bn [.string ByteArray.empty] 9)).or (Go.Sh.one bg (j3 bt bn (.slice qp (l.map yq ++ [exB]).length cp)) 38)) _ S.ext (S.newOf (((ap.or' at').or' an).or' ag)) ⟨none,0,_,rfl,fun _=>rfl,Nat.zero_le _,trivial,Nat.zero_le _,Xl (hl:=Nat.le_of_ble_eq_true rfl) (hg.up' inferInstance fun c x hx=>GrG.up hx)⟩
end Go.Proofs
end
section
namespace Go.Sh
open Go.RowKit Go.MapKept
set_option linter.unusedVariables false
def mpI (P : Program) (t : TypeId) : Option (TypeId × TypeId):=match P.underlying t with
 |some (.map k e)=>(match P.underlying k with|some (.int .i64)=>some (k,e)|_=>none)
 |_=>none
theorem aaz {P : Program} {t k e : TypeId} (h : mpI P t=some (k,e)) : P.underlying t=some (.map k e)∧P.underlying k=some (.int .i64):=by
 unfold mpI at h
 split at h
 ·rename_i k' e' h1
  split at h
  ·rename_i h2
   cases h;exact ⟨h1,h2⟩
  ·cases h
 ·cases h
def afR (m : MapEntry) (x : Int × Value) : Prop:=m.key = .int .i64 x.1∧m.val=x.2
inductive EntsI : List MapEntry→List (Int × Value)→Prop
 |nil : EntsI [] []
 |cons {m : MapEntry} {x : Int × Value} {l : List MapEntry} {M : List (Int × Value)} : afR m x→EntsI l M→EntsI (m::l) (x::M)
theorem EntsI.snoc {l : List MapEntry} {M : List (Int × Value)} {m : MapEntry} {x : Int × Value} (h : EntsI l M) (hm : afR m x) : EntsI (l ++ [m]) (M ++ [x]):=by
 induction h with
 |nil=>exact .cons hm .nil
 |cons h _ ih=>exact .cons h ih
def kD (M : List (Int × Value)) (o : Obj) : Prop:=∃ es c,o = .map es c∧EntsI es.toList M
theorem J8 {x : Int} {kd : IntKind} {l : List MapEntry} {M : List (Int × Value)} (h : EntsI l M) : ∀ {i : Nat},∃ o,Instr.findNow (.int kd) (.int .i64 x) l i=some o∧o.map (·.2)=M.lookup x:=by
 induction h with
 |nil=>intro i;exact ⟨none,rfl,rfl⟩
 |@cons m y l M hm h ih=>
  intro i
  obtain ⟨hk,hv⟩:=hm
  obtain ⟨y1,y2⟩:=y
  by_cases hx : x=y1
  ·subst hx
   refine ⟨some (i,m.val),?_,?_⟩
   ·rw [Instr.findNow,hk];simp [Instr.sameNow]
   ·rw [List.lookup_cons,show (x == x)=true by simp,hv];rfl
  ·obtain ⟨o,h1,h2⟩:=ih (i:=i+1)
   have hb : (x == y1)=false:=by simpa using hx
   refine ⟨o,?_,?_⟩
   ·rw [Instr.findNow,hk];simp [Instr.sameNow,hb,h1]
   ·rw [List.lookup_cons,hb,h2]
class aaA (b : Nat) (L : List Asr) (Q : outParam (Obj→Prop)) (f : outParam (Asr→List Asr)) : Prop where
 h : ∃ p q,L=p ++ .obj b Q::q∧∀ y,f y=p++y::q
instance {b : Nat} {Q : Obj→Prop} {L : List Asr} : aaA b (.obj b Q::L) Q fun y=>y::L:=⟨[],L,rfl,fun _=>rfl⟩
instance (priority:=low) {b : Nat} {Q : Obj→Prop} {x : Asr} {L : List Asr} {f : Asr→List Asr} [h : aaA b L Q f] : aaA b (x::L) Q fun y=>x::f y:=⟨by
 obtain ⟨p,q,h1,h2⟩:=h.h
 exact ⟨x::p,q,by rw [h1];rfl,fun c'=>by rw [h2];rfl⟩⟩
section
variable {P : Program} {X : Nat→Prop} {w0 w : World} {r : Gh} {L : List Asr} {t k e : TypeId} {b : Nat} {M : List (Int × Value)} {f : Asr→List Asr}
theorem StX.mkMapI (S : StX X w0 r w L) {K : Value→World→Prop} (h : ∀ b w',StX X w0 r w' (.obj b (kD [])::L)→K (.map (some b)) w') : opW P w (Instr.makeMap t none) K:=
 S.mkMap fun b w' S'=>h b w' ⟨S'.x,S'.holds,fun x hx=>by
  rcases List.mem_cons.1 hx with rfl|hx
  ·obtain ⟨o,h1,h2,rfl⟩:=S'.has _ List.mem_cons_self
   exact ⟨_,h1,h2,_,_,rfl,.nil⟩
  ·exact S'.has x (List.mem_cons_of_mem _ hx),fun x hx=>by
  rcases List.mem_cons.1 hx with rfl|hx
  ·exact S'.mine (.obj b (· = .map #[] 0)) List.mem_cons_self
  ·exact S'.mine x (List.mem_cons_of_mem _ hx),by
  have:=S'.apart
  rw [List.pairwise_cons] at this ⊢
  exact this⟩
theorem StX.mapAddI (S : StX X w0 r w L) {x : Int} {v : Value} [h0 : aaA b L (kD M) f] (ht : mpI P t=some (k,e)) (hn : M.lookup x=none) {K : World→Prop}
  (h : ∀ w',StX X w0 r w' (f (.obj b (kD (M ++ [(x,v)]))))→K w') : opU P w (Instr.mapUpdate t (.map (some b)) (.int .i64 x) v) K:=by
 obtain ⟨ht,hk⟩:=aaz ht
 obtain ⟨p,q,e1,e2⟩:=h0.h
 obtain ⟨o,hb,_,es,c,rfl,hE⟩:=S.has (.obj b (kD M)) (by rw [e1];simp)
 obtain ⟨o,h1,h2⟩:=J8 (x:=x) (kd:=.i64) hE (i:=0)
 have h3 : o=none:=by
  rw [hn] at h2
  cases o with
  |none=>rfl
  |some y=>cases h2
 subst h3
 have hf:=run_findKey (w:=w) hk h1
 refine ⟨{ w with heap:=w.heap.setIfInBounds b (.map (es.push { key:=.int .i64 x,val:=v,born:=c }) (c+1)) },?_,h _ ?_⟩
 ·simp [Instr.mapUpdate,run_underlying ht,MapKept.run_getObj_map hb,run_checkKey (w:=w) hk (k:=.int .i64 x) rfl false 9999,hf,MapKept.run_setObj_map _ hb,Result.andThen]
 ·obtain ⟨a1,a2⟩:=heap_set hb (o':=.map (es.push { key:=.int .i64 x,val:=v,born:=c }) (c+1))
  rw [e2]
  rw [e1] at S
  exact S.turn (x:=.obj b (kD M)) (y:=.obj b (kD (M ++ [(x,v)]))) ⟨rfl,rfl,rfl,by simp,fun k _ hk=>a2 k hk⟩ ⟨_,a1,rfl,_,_,rfl,by rw [Array.toList_push];exact hE.snoc ⟨rfl,rfl⟩⟩ fun k hk=>.inl hk
theorem StX.mapGetI (S : StX X w0 r w L) {x : Int} {z : Value} [h0 : aaA b L (kD M) f] (ht : mpI P t=some (k,e)) (hz : zr1 P e=some z) {K : Value→Prop} (h : K ((M.lookup x).getD z)) :
  opQ P w (Instr.lookup t (.map (some b)) (.int .i64 x) false) K:=by
 obtain ⟨ht,hk⟩:=aaz ht
 obtain ⟨p,q,e1,e2⟩:=h0.h
 obtain ⟨o,hb,_,es,c,rfl,hE⟩:=S.has (.obj b (kD M)) (by rw [e1];simp)
 obtain ⟨o,h1,h2⟩:=J8 (x:=x) (kd:=.i64) hE (i:=0)
 refine ⟨_,fun w' ex=>?_,h⟩
 have hb' : w'.heap[b]? = some (.map es c):=(ex.block b (Array.getElem?_eq_some_iff.1 hb).1).trans hb
 have hf:=run_findKey (w:=w') hk h1
 rw [← h2]
 cases o with
 |none=>simp [Instr.lookup,run_underlying ht,MapKept.run_getObj_map hb',run_checkKey (w:=w') hk (k:=.int .i64 x) rfl _ 9999,hf,JZ hz,Result.andThen]
 |some y=>simp [Instr.lookup,run_underlying ht,MapKept.run_getObj_map hb',run_checkKey (w:=w') hk (k:=.int .i64 x) rfl _ 9999,hf,Result.andThen]
end
end Go.Sh
end
section
namespace Go.Proofs
open Go.Sh Go.RowKit
set_option maxRecDepth 100000
set_option linter.unusedSimpArgs false
set_option linter.unusedVariables false
inductive WmG (s : Gh) : List (Int × Value)→zH→Prop
 |nil : WmG s [] []
 |cons {p : Int} {v : Value} {w : List Int} {E : List (Int × Value)} {M : zH} : SlG 1 s zu v w→w≠[]→WmG s E M→WmG s ((p,v)::E) ((p,w)::M)
theorem WmG.up {s t : Gh} {E : List (Int × Value)} {M : zH} (h : WmG s E M) [l : Le s t] : WmG t E M:=by
 induction h with
 |nil=>exact .nil
 |cons h1 h2 _ ih=>exact .cons h1.cells h2 ih
theorem WmG.snoc {s : Gh} {E : List (Int × Value)} {M : zH} {p : Int} {v : Value} {w : List Int} (h : WmG s E M) (h1 : SlG 1 s zu v w) (h2 : w≠[]) : WmG s (E ++ [(p,v)]) (M ++ [(p,w)]):=by
 induction h with
 |nil=>exact .cons h1 h2 .nil
 |cons a b _ ih=>exact .cons a b ih
theorem WmG.look {s : Gh} {E : List (Int × Value)} {M : zH} (h : WmG s E M) (p : Int) : (M.lookup p=none∧E.lookup p=none)∨∃ w b off cap,M.lookup p=some w∧w≠[]∧E.lookup p=some (.slice (some ⟨b,off,none⟩) w.length cap)∧SlG 1 s zu (.slice (some ⟨b,off,none⟩) w.length cap) w:=by
 induction h with
 |nil=>exact .inl ⟨rfl,rfl⟩
 |@cons p' v w E M h1 h2 _ ih=>
  by_cases e : p=p'
  ·subst e
   obtain ⟨q,cap,rfl,_,_⟩:=h1.shape
   obtain ⟨b,off,rfl,_,_⟩:=zw h1 (i:=0) (List.length_pos_iff.2 h2)
   exact .inr ⟨w,b,off,cap,by rw [List.lookup_cons];simp,h2,by rw [List.lookup_cons];simp,h1⟩
  ·have hb : (p == p')=false:=by simpa using e
   rw [List.lookup_cons,List.lookup_cons,hb]
   exact ih
theorem aec {wq : List Int} {st : zH × List Int} {p : Int} : st.1 <+: (zP wq st p).1:=by
 rw [zP];split
 ·exact List.prefix_refl _
 ·exact List.prefix_append _ _
theorem Xa {wq : List Int} : ∀ {l : List Int} {st : zH × List Int},st.1 <+: (l.foldl (zP wq) st).1
 |[],st=>List.prefix_refl _
 |p::l,st=>aec.trans Xa
theorem aed {n : zd} {so : List Int→List Int} {W : List Int} {s : Int} {M : zH} {l : List Int} {q : Int} {st : zH × List Int} : rndW n so W s M (l ++ [q]) st=if q≠s∧q ∈ W then rndW n so W s M l st else (so (nxt n q)).foldl (zP (getW M q)) (rndW n so W s M l st):=by
 rw [rndW,List.foldl_append];rfl
theorem abn {n : zd} {so : List Int→List Int} {W : List Int} {s : Int} {M : zH} : ∀ {l : List Int} {st : zH × List Int},st.1 <+: (rndW n so W s M l st).1
 |[],st=>List.prefix_refl _
 |q::l,st=>by
  rw [rndW,List.foldl_cons]
  refine List.IsPrefix.trans ?_ (abn (l:=l))
  split
  ·exact List.prefix_refl _
  ·exact Xa
theorem aee {M N : zH} {p : Int} (h : M <+: N) (hs : (M.lookup p).isSome=true) : N.lookup p=M.lookup p:=by
 obtain ⟨t,rfl⟩:=h
 rw [List.lookup_append]
 cases hm : M.lookup p with
 |none=>rw [hm] at hs;cases hs
 |some w=>rfl
theorem Ya : Zj sortI:=fun l=>⟨by
  have:=List.pairwise_mergeSort (le:=fun x y : Int=>decide (x≤y)) (by intro a b c h1 h2;simp only [decide_eq_true_eq] at *;omega) (by intro a b;simp only [Bool.or_eq_true,decide_eq_true_eq];omega) l
  exact this.imp fun h=>by simpa using h,
 fun x=>List.mem_mergeSort⟩
theorem mpW : mpI Tryz.prog 114=some (3,28):=by kernel_rfl
theorem aaB : zr1 Tryz.prog 28=some (.slice none 0 0):=by kernel_rfl
noncomputable def okW (u : UnD) (n a b : Int) (W : List Int) : Bool:=!((decide (fnE u n≠0) || !decide (∀ x ∈ [a,b],isN (netU u n) x)) || !decide (∀ x ∈ W,isN (netU u n) x))
set_option maxHeartbeats 4000000 in
theorem j4 {u : UnD} {n a b : Int} {W : List Int} {v vw : Value} {w : World} {r : Gh} {K : Value→World→Prop} (hr : Holds r w) (hu : UnG r v u) (hWs : SlG 1 r zu vw W) (hWf : W.length≤1000000)
  (h : ∀ v' s w',Ext w w'→New w s w'→SlG 1 s zu v' (if okW u n a b W=true then (xb (netU u n) a b W).getD [] else [])→K (.tuple #[v',.bool (okW u n a b W&&(xb (netU u n) a b W).isSome),.int .i64 (if okW u n a b W=true then 0 else 2)]) w') :
  ze Tryz.prog Tryz.km #[v,.int .i64 n,.int .i64 a,.int .i64 b,vw] w K:=by
 refine Tryz.aaR ?_
 unfold Tryz.QX
 have hu0:=hu
 obtain ⟨p0,cap0,vf,rfl,_,_,hst,hsl,hfn⟩:=hu
 obtain ⟨qf,capf,rfl,_,_⟩:=hfn.sl.shape
 have S:=St.start hr
 refine S.box fun b3 w1 S=>?_
 have S : StX noX w r w1 [.cell b3 [.slice p0 u.ss.length cap0,.slice qf u.fs.length capf,.int .i64 u.mn] 25]:=S
 refine S.ldB (b:=b3) ?_ rfl
 refine y5 S.holds hu0 fun vn sn w2 e2 n2 hnet=>?_
 obtain ⟨S,_,a2⟩:=S.tell e2 n2
 have S:=S.tl
 refine gS_ ?_
 refine ZG (c:=!decide (∀ x ∈ [a,b],isN (netU u n) x)) (fun w'=>StX noX w (r.or sn) w' []) (fun _=>S) (fun hb K2 hK2=>?_) fun w3 S=>?_
 ·have hE : fnE u n=0:=by simpa using hb
  obtain ⟨hlt,he,hF⟩:=zE hE
  obtain ⟨_,hN⟩:=hnet hE
  rw [← he] at hN
  refine S.lit (e:=3) (cs:=[.int .i64 a,.int .i64 b]) (by kernel_rfl) fun b5 w3 S=>?_
  obtain ⟨S,hs5,_⟩:=S.litNew b5 (sz:=1) (R:=zu) (l:=[a,b]) (xw (c:=[.int .i64 a]) rfl rfl (zG rfl rfl)) (by decide)
  have hs5 : SlG 1 (Go.Sh.one b5 [.int .i64 a,.int .i64 b] 3) zu (.slice (some ⟨b5,0,none⟩) 2 2) [a,b]:=hs5
  have S : StX noX w ((r.or sn).or (Go.Sh.one b5 [.int .i64 a,.int .i64 b] 3)) w3 []:=S
  refine Z4 S.holds hN.up hs5.cells (by simp) fun w4 e4=>?_
  have S:=S.go e4
  refine gp_ ?_
  exact hK2 _ (S.to _)
 refine kG (c:=!decide (∀ x ∈ W,isN (netU u n) x)) (fun hb K2 hK2=>?_) fun w4 e4=>?_
 ·rw [Bool.or_eq_false_iff] at hb
  have hE : fnE u n=0:=by simpa using hb.1
  obtain ⟨hlt,he,hF⟩:=zE hE
  obtain ⟨_,hN⟩:=hnet hE
  rw [← he] at hN
  refine Z4 S.holds hN.up hWs.cells hWf fun w5 e5=>?_
  refine gp_ ?_
  exact hK2 _ e5
 have S:=S.go e4
 have hok : okW u n a b W = !((decide (fnE u n≠0) || !decide (∀ x ∈ [a,b],isN (netU u n) x)) || !decide (∀ x ∈ W,isN (netU u n) x)):=rfl
 refine c_b (fun hb=>?_) (fun hb=>?_)
 ·rw [hb] at hok
  rw [hok] at h
  exact h _ nothing _ S.ext New.nothing SlG.nil
 rw [hb] at hok
 rw [hok] at h
 simp only [Bool.or_eq_false_iff,decide_eq_false_iff_not,Decidable.not_not,Bool.not_eq_false',decide_eq_true_eq,ne_eq] at hb
 obtain ⟨⟨hE,hab⟩,hWN⟩:=hb
 obtain ⟨hlt,he,hF⟩:=zE hE
 obtain ⟨_,hN⟩:=hnet hE
 rw [← he] at hN
 have hfew:=hF.few
 have haN:=hab a (by simp)
 have hbN:=hab b (by simp)
 generalize netU u n=nn at *
 clear hnet hE he hlt hst hfn hu0
 refine S.mkMapI fun bm w5 S=>?_
 refine S.lit (e:=3) (cs:=[.int .i64 a]) (by kernel_rfl) fun b6 w6 S=>?_
 obtain ⟨S,hs6,ha6⟩:=S.litNew b6 (sz:=1) (R:=zu) (l:=[a]) (zG rfl rfl) (by decide)
 refine S.mapAddI mpW (by rfl) fun w7 S=>?_
 refine S.lit (e:=3) (cs:=[.int .i64 a]) (by kernel_rfl) fun b7 w8 S=>?_
 obtain ⟨S,hs7,ha7⟩:=S.litNew b7 (sz:=1) (R:=zu) (l:=[a]) (zG rfl rfl) (by decide)
 have S : StX noX w ((r.or sn).or ((Go.Sh.one b6 [.int .i64 a] 3).or (Go.Sh.one b7 [.int .i64 a] 3))) w8 [.obj bm (kD [(a,.slice (some ⟨b6,0,none⟩) 1 1)])]:=S.reGh
 have hs6 : SlG 1 (Go.Sh.one b6 [.int .i64 a] 3) zu (.slice (some ⟨b6,0,none⟩) 1 1) [a]:=hs6
 have hs7 : SlG 1 (Go.Sh.one b7 [.int .i64 a] 3) zu (.slice (some ⟨b7,0,none⟩) 1 1) [a]:=hs7
 have ha0:=ha6.or' ha7
 have hE0 : WmG ((Go.Sh.one b6 [.int .i64 a] 3).or (Go.Sh.one b7 [.int .i64 a] 3)) [(a,.slice (some ⟨b6,0,none⟩) 1 1)] [(a,[a])]:=.cons hs6.cells (by simp) .nil
 have hl0 : SlG 1 ((Go.Sh.one b6 [.int .i64 a] 3).or (Go.Sh.one b7 [.int .i64 a] 3)) zu (.slice (some ⟨b7,0,none⟩) 1 1) [a]:=hs7.cells
 have hF0:=Fw.start (n:=nn) (W:=W) haN
 generalize (Go.Sh.one b6 [.int .i64 a] 3).or (Go.Sh.one b7 [.int .i64 a] 3)=s0 at S ha0 hE0 hl0
 clear hs6 hs7 ha6 ha7
 refine zh (ι:=Value × Gh × List (Int × Value) × zH × List Int × Nat) (fun i=>[i.1]) (fun i w'=>Fw nn W a i.2.2.2.2.2 i.2.2.2.1 i.2.2.2.2.1∧Above w i.2.1∧SlG 1 i.2.1 zu i.1 i.2.2.2.2.1∧WmG i.2.1 i.2.2.1 i.2.2.2.1∧i.2.2.2.2.1.length≤nn.length∧(i.2.2.2.2.1≠[]→i.2.2.2.2.2+1≤i.2.2.2.1.length)∧
   StX noX w ((r.or sn).or i.2.1) w' [.obj bm (kD i.2.2.1)])
  (fun i=>2*(nn.length - i.2.2.2.1.length)+(if i.2.2.2.2.1 = [] then 0 else 1)) (.slice (some ⟨b7,0,none⟩) 1 1,s0,[(a,.slice (some ⟨b6,0,none⟩) 1 1)],[(a,[a])],[a],0) rfl ⟨hF0,ha0,hl0,hE0,hF.pos,fun _=>Nat.le_refl _,S⟩ ?_
 repeat clear S
 clear hF0 ha0 hl0 hE0
 rintro ⟨vl,s,E,M,L,k⟩ d w9 ⟨hFw,ha,hL,hEM,hLf,hkM,S⟩ K18 hK18
 simp only at hFw ha hL hEM hLf hkM S ⊢
 rw [List.getD_cons_zero]
 have hMf:=hFw.few
 obtain ⟨pl,capl,rfl,_,_⟩:=hL.shape
 refine gg_ ?_
 have hnone : ∀ {K : Value→Prop},K (.bool (M.lookup b).isNone)→opQ Tryz.prog w9 (Instr.lookup 114 (.map (some bm)) (.int .i64 b) false) fun t57=>opP Tryz.prog (zU .eql 28 true t57 (.slice none 0 0)) K:=fun {K} hK=>by
  refine S.mapGetI mpW aaB ?_
  rcases hEM.look b with ⟨h1,h2⟩|⟨wl,bb,oo,cc,h1,_,h2,_⟩
  ·rw [h2,Option.getD_none]
   rw [h1] at hK
   refine gp_ ?_
   exact hK
  ·rw [h2,Option.getD_some]
   rw [h1] at hK
   refine gp_ ?_
   exact hK
 refine zi (c:=(M.lookup b).isNone) (fun _ K2 hK2=>hnone hK2) ?_
 clear hnone
 refine c_b (fun hgo=>?_) (fun hend=>?_)
 ·simp only [Bool.and_eq_true,decide_eq_true_eq] at hgo
  have hLne : L≠[]:=fun e=>by rw [e] at hgo;simp at hgo
  have hk1:=hkM hLne
  obtain ⟨hFw2,hlen2⟩:=hFw.next hF.ok Ya
  have hMf2:=hFw2.few
  refine gg_ ?_
  refine zh (ι:=Value × Nat × Gh × List (Int × Value)) (fun i=>[i.1,.int .i64 (i.2.1 : Nat)]) (fun i w'=>i.2.1≤L.length∧Above w i.2.2.1∧WmG i.2.2.1 i.2.2.2 (rndW nn sortI W a M (L.take i.2.1) (M,[])).1∧(rndW nn sortI W a M (L.take i.2.1) (M,[])).2.length≤2*i.2.1∧(∀ b o,s b o→i.2.2.1 b o)∧
    StX noX w ((r.or sn).or i.2.2.1) w' [.row i.1 3 1 (rndW nn sortI W a M (L.take i.2.1) (M,[])).2.length (ints (rndW nn sortI W a M (L.take i.2.1) (M,[])).2),.obj bm (kD i.2.2.2)])
   (fun i=>L.length - i.2.1) (.slice none 0 0,0,s,E) rfl ⟨Nat.zero_le _,ha,hEM,Nat.zero_le _,fun _ _ h=>h,S.ownNil 3 1⟩ ?_
  repeat clear S
  rintro ⟨vx,i,s2,E2⟩ d w10 ⟨hi,ha2',hEM2,hnl,hsub,S⟩ K26 hK26
  simp only at hi ha2' hEM2 hnl hsub S ⊢
  simp only [List.getD_cons_zero,List.getD_cons_succ]
  have leS : Le s s2:=⟨hsub⟩
  refine gg_ ?_
  refine zm (fun hlti=>?_) (fun hge=>?_)
  ·have hlti : i<L.length:=by omega
   obtain ⟨bl,ol,hpl,_,hcl⟩:=zw hL hlti
   subst hpl
   have htk : L.take (i+1)=L.take i ++ [L[i]]:=List.take_succ_eq_append_getElem hlti
   have hqL : L[i] ∈ L:=List.getElem_mem hlti
   obtain ⟨hqM,hql⟩:=hFw.lenL hqL
   have hqN:=(hFw.min _ _ hqM).1
   generalize L[i]=q at hcl htk hqL hqM hql hqN
   have q0:=hqN.1;have q1:=hqN.2
   have hpre : M <+: (rndW nn sortI W a M (L.take i) (M,[])).1:=abn (st:=(M,[]))
   refine zs (fun x w'=>∃ vx' s3 E3,x = [vx']∧Above w s3∧WmG s3 E3 (rndW nn sortI W a M (L.take (i+1)) (M,[])).1∧(rndW nn sortI W a M (L.take (i+1)) (M,[])).2.length≤2*(i+1)∧(∀ b o,s b o→s3 b o)∧
    StX noX w ((r.or sn).or s3) w' [.row vx' 3 1 (rndW nn sortI W a M (L.take (i+1)) (M,[])).2.length (ints (rndW nn sortI W a M (L.take (i+1)) (M,[])).2),.obj bm (kD E3)]) (fun K30 hK30=>?_) ?_
   ·refine gg_ ?_
    refine zj (by rw [Int.toNat_natCast];exact S.at hcl) ?_
    refine gg_ ?_
    refine zi (c:=decide (q ∈ W)) (fun _ K2 hK2=>kt S.holds hWs.cells (Nat.le_trans hWf (by decide)) hK2) ?_
    rw [htk,aed] at hK30
    refine c_b (fun hsk=>?_) (fun hsk=>?_)
    ·simp only [Bool.and_eq_true,decide_eq_true_eq] at hsk
     rw [if_pos hsk] at hK30
     exact hK30 _ _ ⟨vx,s2,E2,rfl,ha2',hEM2,by omega,hsub,S⟩
    ·rw [if_neg (by simpa using hsk)] at hK30
     generalize rndW nn sortI W a M (L.take i) (M,[])=st at hK30 hEM2 hnl S hpre
     obtain ⟨pn,capn,rfl,_,_⟩:=hN.sl.shape
     obtain ⟨bn,on,un,hpn,_,hcn,hun⟩:=qV hN (i:=q.toNat) (by omega)
     subst hpn
     have hnx : nxt nn q=nn[q.toNat]:=j6 hqN
     rw [hnx] at hK30
     have hn2 : nn[q.toNat].length≤2:=hF.nar _ (List.getElem_mem _)
     generalize nn[q.toNat]=ln at hK30 hun hn2
     refine gg_ ?_
     refine zj (S.at hcn) ?_
     refine XQ S hun.sl.cells (by omega) fun v78 w11 S=>?_
     refine Vn S (by omega) fun w12 S=>?_
     have hsl2 : (sortI ln).length=ln.length:=jt
     rw [← hsl2] at S
     obtain ⟨s5,T,hs5,_,ha5⟩:=S.doneRow xa (by decide) rfl
     repeat clear S
     obtain ⟨p78,c78,rfl,_,_⟩:=hs5.shape
     have S:=T
     clear T
     have ha5' : Above w s5:=fun b o ho=>(ha5 b o ho).resolve_right id
     refine gg_ ?_
     generalize sortI ln=l2 at hK30 hs5 hsl2
     have hMq : M.lookup q=some (getW M q):=(kW hFw.nod).1 hqM
     generalize getW M q=wq at hK30 hMq hql
     refine zh (ι:=Value × Nat × Gh × List (Int × Value)) (fun i=>[i.1,.int .i64 (i.2.1 : Nat)]) (fun j w'=>j.2.1≤l2.length∧Above w j.2.2.1∧WmG j.2.2.1 j.2.2.2 ((l2.take j.2.1).foldl (zP wq) st).1∧((l2.take j.2.1).foldl (zP wq) st).2.length≤2*i+j.2.1∧(∀ b o,s b o→j.2.2.1 b o)∧
       StX noX w (((r.or sn).or s5).or j.2.2.1) w' [.row j.1 3 1 ((l2.take j.2.1).foldl (zP wq) st).2.length (ints ((l2.take j.2.1).foldl (zP wq) st).2),.obj bm (kD j.2.2.2)])
      (fun j=>l2.length - j.2.1) (vx,0,s2,E2) rfl ⟨Nat.zero_le _,ha2',hEM2,hnl,hsub,S.less (fun b o x=>Or.elim x (fun x=>Or.elim x (fun x=>.inl (.inl x)) .inr) fun x=>.inl (.inr x)) (List.Sublist.refl _)⟩ ?_
     repeat clear S
     rintro ⟨vy,j,s6,E6⟩ d w13 ⟨hj,ha6,hEM6,hnl6,hsub6,S⟩ K41 hK41
     simp only at hj ha6 hEM6 hnl6 hsub6 S ⊢
     simp only [List.getD_cons_zero,List.getD_cons_succ]
     have leS6 : Le s s6:=⟨hsub6⟩
     refine gg_ ?_
     refine zm (fun hltj=>?_) (fun hgej=>?_)
     ·have hltj : j<l2.length:=by omega
      obtain ⟨b78,o78,hp78,_,hc78⟩:=zw hs5 hltj
      subst hp78
      have hst : (l2.take (j+1)).foldl (zP wq) st=zP wq ((l2.take j).foldl (zP wq) st) l2[j]:=by
       rw [List.take_succ_eq_append_getElem hltj,List.foldl_append];rfl
      have hpre6 : M <+: ((l2.take j).foldl (zP wq) st).1:=hpre.trans Xa
      generalize (l2.take j).foldl (zP wq) st=st6 at hst hEM6 hnl6 S hpre6
      generalize l2[j]=y at hst hc78
      refine zs (fun x w'=>∃ vy' s7 E7,x = [vy']∧Above w s7∧WmG s7 E7 (zP wq st6 y).1∧(zP wq st6 y).2.length≤2*i+(j+1)∧(∀ b o,s b o→s7 b o)∧
       StX noX w (((r.or sn).or s5).or s7) w' [.row vy' 3 1 (zP wq st6 y).2.length (ints (zP wq st6 y).2),.obj bm (kD E7)]) (fun K45 hK45=>?_) ?_
      ·refine gg_ ?_
       refine zj (by rw [Int.toNat_natCast];exact S.at hc78) ?_
       refine S.mapGetI mpW aaB ?_
       rcases hEM6.look y with ⟨h1,h2⟩|⟨wl,bb,oo,cc,h1,_,h2,_⟩
       ·rw [h2,Option.getD_none]
        have e : zP wq st6 y=(st6.1 ++ [(y,wq ++ [y])],st6.2 ++ [y]):=by rw [zP,h1];rfl
        rw [e] at hK45
        refine gp_ ?_
        refine c_t rfl ?_
        refine S.mapGetI mpW aaB ?_
        have hq6 : st6.1.lookup q=some wq:=by rw [aee hpre6 (by rw [hMq];rfl)];exact hMq
        rcases hEM6.look q with ⟨g1,_⟩|⟨wl,bb,oo,cc,g1,_,g2,g3⟩
        ·rw [hq6] at g1;cases g1
        rw [hq6] at g1
        cases g1
        rw [g2,Option.getD_some]
        refine XQ S g3.cells (by omega) fun v96 w14 S=>?_
        refine S.lit (e:=3) (cs:=[.int .i64 y]) (by kernel_rfl) fun b8 w15 S=>?_
        refine S.ap (v:=v96) (m':=1) (Sl.blk (S.blk b8)) (fun v99 w16 S=>?_) (by omega)
        have S:=S.drop b8
        have S : StX noX w (((r.or sn).or s5).or s6) w16 [.row v99 3 1 (wq ++ [y]).length (ints (wq ++ [y])),.row vy 3 1 st6.2.length (ints st6.2),.obj bm (kD E6)]:=by
         rw [kf,List.length_append];exact S
        obtain ⟨s7,S,hs7,_,ha7⟩:=S.doneRow xa (by decide) rfl
        have hE6n : E6.lookup y=none:=h2
        refine S.mapAddI mpW hE6n fun w17 S=>?_
        refine S.lit (e:=3) (cs:=[.int .i64 y]) (by kernel_rfl) fun b9 w18 S=>?_
        refine S.ap (v:=vy) (m':=1) (Sl.blk (S.blk b9)) (fun v5 w19 S=>?_) (by omega)
        have S:=S.drop b9
        refine hK45 _ _ ⟨v5,s6.or s7,E6 ++ [(y,v99)],rfl,ha6.or' fun b o ho=>(ha7 b o ho).resolve_right id,(hEM6.up.snoc hs7.cells (by simp)),by rw [List.length_append,List.length_singleton];omega,fun b o ho=>.inl (hsub6 b o ho),?_⟩
        have S:=S.reGh
        rw [List.length_append,kf];exact S
       ·rw [h2,Option.getD_some]
        have e : zP wq st6 y=st6:=by rw [zP,h1];rfl
        rw [e] at hK45
        refine gp_ ?_
        refine c_f rfl ?_
        exact hK45 _ _ ⟨vy,s6,E6,rfl,ha6,hEM6,by omega,hsub6,S⟩
      rintro x w14 ⟨vy',s7,E7,rfl,i1,i2,i3,i4,S⟩ d
      simp only [List.getD_cons_zero]
      refine gp_ ?_
      refine hK41 (vy',j+1,s7,E7) _ ⟨hltj,i1,?_,?_,i4,?_⟩ (by show l2.length - (j+1)<l2.length - j;omega)
      ·show WmG s7 E7 ((l2.take (j+1)).foldl (zP wq) st).1
       rw [hst];exact i2
      ·show ((l2.take (j+1)).foldl (zP wq) st).2.length≤2*i+(j+1)
       rw [hst];exact i3
      ·show StX noX w (((r.or sn).or s5).or s7) w14 [.row vy' 3 1 ((l2.take (j+1)).foldl (zP wq) st).2.length (ints ((l2.take (j+1)).foldl (zP wq) st).2),.obj bm (kD E7)]
       rw [hst];exact S
     have hje : j=l2.length:=by omega
     subst hje
     rw [List.take_length] at hEM6 hnl6 S
     clear hK41
     refine hK30 _ _ ⟨vy,s5.or s6,E6,rfl,ha5'.or' ha6,hEM6.up,by omega,fun b o ho=>.inr (hsub6 b o ho),S.reGh⟩
   rintro x w11 ⟨vx',s3,E3,rfl,i1,i2,i3,i4,S⟩ d
   simp only [List.getD_cons_zero]
   refine gp_ ?_
   exact hK26 (vx',i+1,s3,E3) _ ⟨hlti,i1,i2,i3,i4,S⟩ (by show L.length - (i+1)<L.length - i;omega)
  have hie : i=L.length:=by omega
  subst hie
  rw [List.take_length] at hEM2 hnl S
  clear hK26
  obtain ⟨s4,S,hs4,_,ha4⟩:=S.doneRow xa (by decide) rfl
  refine hK18 (vx,s2.or s4,E2,_,_,k+1) _ ⟨hFw2,ha2'.or' fun b o ho=>(ha4 b o ho).resolve_right id,hs4.cells,hEM2.up,(show (rndW nn sortI W a M L (M,[])).2.length≤nn.length by omega),fun hne=>?_,S.reGh⟩ ?_
  ·have : 0<(rndW nn sortI W a M L (M,[])).2.length:=List.length_pos_iff.2 hne
   show k+1+1≤(rndW nn sortI W a M L (M,[])).1.length
   omega
  ·show 2*(nn.length - (rndW nn sortI W a M L (M,[])).1.length)+(if (rndW nn sortI W a M L (M,[])).2 = [] then 0 else 1)<2*(nn.length - M.length)+(if L = [] then 0 else 1)
   rw [if_neg hLne]
   by_cases e : (rndW nn sortI W a M L (M,[])).2 = []
   ·rw [if_pos e];rw [e] at hlen2;simp only [List.length_nil] at hlen2;omega
   ·rw [if_neg e]
    have : 0<(rndW nn sortI W a M L (M,[])).2.length:=List.length_pos_iff.2 e
    omega
 have S:=S.go (Ext.drew _)
 have hfound:=hFw.found (t:=b) (by
  simp only [Bool.and_eq_false_iff,decide_eq_false_iff_not] at hend
  rcases hend with h1|h1
  ·refine .inl (List.length_eq_zero_iff.1 ?_);omega
  ·refine .inr ?_
   cases hl : M.lookup b with
   |none=>rw [hl] at h1;cases h1
   |some x=>rfl)
 refine S.mapGetI mpW aaB ?_
 refine S.mapGetI mpW aaB ?_
 rw [← hfound] at h
 rcases hEM.look b with ⟨h1,h2⟩|⟨wl,bb,oo,cc,h1,_,h2,h3⟩
 ·rw [h2,Option.getD_none]
  rw [h1] at h
  refine gg_ ?_
  exact h _ (sn.or s) _ S.ext (StX.newOf S.reGh (a2.or' ha)) SlG.nil
 ·rw [h2,Option.getD_some]
  rw [h1] at h
  refine gg_ ?_
  exact h _ (sn.or s) _ S.ext (StX.newOf S.reGh (a2.or' ha)) h3.cells
end Go.Proofs
end
section
namespace Go.Proofs
open Go.Sh
set_option maxRecDepth 100000
set_option linter.unusedSimpArgs false
set_option linter.unusedVariables false
theorem qI : netU (yk [1,2]) 0=n3:=ade
theorem agf : netU (yk [0]) 0=n1:=adf
theorem JE {q : Int} (h : isN n3 q) : okQ (yk [1,2]) 0 q=true:=by
 rw [okQ,kh,qI,decide_eq_true h];rfl
theorem afS : okW (yk [1,2]) 0 0 2 []=true:=by
 rw [okW,kh,qI];decide
theorem ags : okL (yk [1,2]) 0 0 1=false:=by
 rw [okL,kh,qI,Y0];decide
set_option maxHeartbeats 4000000 in
theorem z8 {w : World} {K : Value→World→Prop} (h : ∀ w',Ext w w'→K (.bool true) w') : ze Tryz.prog Tryz.zN #[] w K:=by
 refine Tryz.JD ?_
 unfold Tryz.Ym
 have S : StX noX w nothing w []:=St.start (fun _ _ h=>h.elim)
 refine S.lit (e:=3) (cs:=[.int .i64 1,.int .i64 2]) (by kernel_rfl) fun b1 w1 S=>?_
 obtain ⟨S,h1,_⟩:=S.litNew b1 (sz:=1) (R:=zu) (l:=[1,2]) (xw (c:=[.int .i64 1]) rfl rfl (zG rfl rfl)) (by decide)
 refine Y9 S.holds h1.cells (by decide) fun v2 s2 w2 e2 n2 hu=>?_
 obtain ⟨S,_,_⟩:=S.tell e2 n2
 refine S.al fun b0 w3 S=>?_
 obtain ⟨p0,cap0,vf,rfl,_,_,_,_,hfn⟩:=id hu
 obtain ⟨qf,capf,rfl,_,_⟩:=hfn.sl.shape
 refine S.stB (b:=b0) fun w4 S=>?_
 have S:=S.to s2
 have S : StX noX w s2 w4 [.cell b0 [.slice p0 0 cap0,.slice qf 1 capf,.int .i64 0] 25]:=S
 have hu : UnG s2 (.agg #[.slice p0 0 cap0,.slice qf 1 capf,.int .i64 0]) (yk [1,2]):=hu
 have i0 : isN n3 0:=⟨by decide,by decide⟩
 have i1 : isN n3 1:=⟨by decide,by decide⟩
 have i2 : isN n3 2:=⟨by decide,by decide⟩
 refine S.ldB (b:=b0) ?_ rfl
 refine Vu S.holds hu fun v5 s5 w5 e5 n5 h5=>?_
 rw [JE i2,if_pos rfl,qI,afI] at h5
 rw [JE i2,if_pos rfl]
 obtain ⟨S,_,_⟩:=S.tell e5 n5
 obtain ⟨p5,cp5,rfl,_,_⟩:=h5.shape
 obtain ⟨b5,o5,rfl,_,g5⟩:=zw h5 (i:=0) (by decide)
 refine gS_ ?_
 refine S.ldB (b:=b0) ?_ rfl
 refine vF S.holds hu.up fun v6 s6 w6 e6 n6 h6=>?_
 rw [JE i1,if_pos rfl,qI,afJ,show mkd [false,true,true] = [1,2] by decide] at h6
 rw [JE i1,if_pos rfl]
 obtain ⟨S,_,_⟩:=S.tell e6 n6
 obtain ⟨p6,cp6,rfl,_,_⟩:=h6.shape
 refine gS_ ?_
 refine S.ldB (b:=b0) ?_ rfl
 refine j4 S.holds hu.up SlG.nil (by decide) fun v7 s7 w7 e7 n7 h7=>?_
 rw [afS,if_pos rfl,qI,ada] at h7
 rw [afS,if_pos rfl,qI,ada]
 have h7 : SlG 1 s7 zu v7 [0,1,2]:=h7
 obtain ⟨S,_,_⟩:=S.tell e7 n7
 obtain ⟨p7,cp7,rfl,_,_⟩:=h7.shape
 refine gS_ ?_
 refine S.ldB (b:=b0) ?_ rfl
 refine Y2 S.holds hu.up fun v8 s8 w8 o b e8 n8 hw8 _ h8=>?_
 obtain ⟨st,hst,rfl,rfl⟩:=hw8 kh
 rw [qI] at hst
 obtain rfl:=hst.one ae5
 rw [kh]
 have h8 : SlG 1 s8 zu v8 [0,1,2]:=h8
 obtain ⟨S,_,_⟩:=S.tell e8 n8
 obtain ⟨p8,cp8,rfl,_,_⟩:=h8.shape
 refine gS_ ?_
 refine S.ldB (b:=b0) ?_ rfl
 refine vH S.holds hu.up fun v9 s9 w9 e9 n9 h9=>?_
 rw [JE i2,if_pos rfl,qI,Y1] at h9
 rw [JE i2,if_pos rfl]
 obtain ⟨S,_,_⟩:=S.tell e9 n9
 obtain ⟨p9,cp9,rfl,_,_⟩:=h9.shape
 refine gS_ ?_
 refine S.ldB (b:=b0) ?_ rfl
 refine Y3 S.holds hu.up fun va sa wa ea na ha=>?_
 rw [if_pos kh,qI] at ha
 rw [kh]
 have ha : SlG 1 sa zu va [yg n3 0,yg n3 1,yg n3 2]:=ha
 rw [ac8,ac9] at ha
 obtain ⟨S,_,_⟩:=S.tell ea na
 obtain ⟨pa,ca,rfl,_,_⟩:=ha.shape
 obtain ⟨ba,oa,rfl,_,ga0⟩:=zw ha (i:=0) (by decide)
 obtain ⟨ba2,oa2,hpa,_,ga2⟩:=zw ha (i:=2) (by decide)
 cases hpa
 refine gS_ ?_
 refine S.ldB (b:=b0) ?_ rfl
 refine S.lit (e:=3) (cs:=[.int .i64 0,.int .i64 2]) (by kernel_rfl) fun b10 w10 S=>?_
 obtain ⟨S,h10,_⟩:=S.litNew b10 (sz:=1) (R:=zu) (l:=[0,2]) (xw (c:=[.int .i64 0]) rfl rfl (zG rfl rfl)) (by decide)
 refine J7 S.holds hu.up h10.cells (by decide) fun w11 e11=>?_
 have S:=S.go e11
 rw [if_pos kh,qI,show isW n3 [0,2]=(1,false) by decide]
 refine gS_ ?_
 refine S.lit (e:=3) (cs:=[.int .i64 0]) (by kernel_rfl) fun b12 w12 S=>?_
 obtain ⟨S,h12,_⟩:=S.litNew b12 (sz:=1) (R:=zu) (l:=[0]) (zG rfl rfl) (by decide)
 refine Y9 S.holds h12.cells (by decide) fun v13 s13 w13 e13 n13 hu1=>?_
 obtain ⟨S,_,_⟩:=S.tell e13 n13
 refine XT S.holds hu1.up fun v14 s14 w14 o b e14 n14 hw14 _ h14=>?_
 obtain ⟨st,hst,rfl,rfl⟩:=hw14 aax
 rw [agf] at hst
 obtain rfl:=hst.one ae6
 rw [aax]
 have h14 : SlG 2 s14 YH v14 [(0,0)]:=h14
 obtain ⟨S,_,_⟩:=S.tell e14 n14
 obtain ⟨p14,cp14,rfl,_,_⟩:=h14.shape
 refine gS_ ?_
 refine S.ldB (b:=b0) ?_ rfl
 refine aaT S.holds hu.up fun v15 s15 w15 e15 n15 h15=>?_
 rw [ags,if_neg (by decide)]
 have S:=S.go e15
 refine gS_ ?_
 refine zi (c:=true) (fun _ K2 hK2=>by refine gg_ ?_;exact hK2) ?_
 refine zi (c:=true) (fun _ K2 hK2=>?_) ?_
 ·refine gg_ ?_
  refine s_c (by simp) ?_
  refine zj (v:=.int .i64 1) (by simpa using S.at g5) ?_
  refine gg_ ?_
  exact hK2
 refine zi (c:=true) (fun _ K2 hK2=>by refine gg_ ?_;exact hK2) ?_
 refine zi (c:=true) (fun _ K2 hK2=>by refine gg_ ?_;exact hK2) ?_
 refine zi (c:=true) (fun _ K2 hK2=>by refine gg_ ?_;exact hK2) ?_
 refine zi (c:=true) (fun _ K2 hK2=>by refine gg_ ?_;exact hK2) ?_
 refine zi (c:=true) (fun _ K2 hK2=>by refine gg_ ?_;exact hK2) ?_
 refine zi (c:=true) (fun _ K2 hK2=>by refine gg_ ?_;exact hK2) ?_
 refine zi (c:=true) (fun _ K2 hK2=>by refine gg_ ?_;exact hK2) ?_
 refine zi (c:=true) (fun _ K2 hK2=>by refine gg_ ?_;exact hK2) ?_
 refine zi (c:=true) (fun _ K2 hK2=>by refine gg_ ?_;exact hK2) ?_
 refine zi (c:=true) (fun _ K2 hK2=>by refine gg_ ?_;exact hK2) ?_
 refine zi (c:=true) (fun _ K2 hK2=>?_) ?_
 ·refine gg_ ?_
  refine s_c (by simp) ?_
  refine zj (v:=.int .i64 (-1)) (by simpa using S.at ga0) ?_
  refine gg_ ?_
  exact hK2
 refine zi (c:=true) (fun _ K2 hK2=>?_) ?_
 ·refine gg_ ?_
  refine s_c (by simp) ?_
  refine zj (v:=.int .i64 1) (by simpa using S.at ga2) ?_
  refine gg_ ?_
  exact hK2
 refine zi (c:=true) (fun _ K2 hK2=>by refine gg_ ?_;exact hK2) ?_
 refine zi (c:=true) (fun _ K2 hK2=>by refine gg_ ?_;exact hK2) ?_
 refine zi (c:=true) (fun _ K2 hK2=>by refine gg_ ?_;exact hK2) ?_
 refine zi (c:=true) (fun _ K2 hK2=>by refine gg_ ?_;exact hK2) ?_
 refine zi (c:=true) (fun _ K2 hK2=>by refine gg_ ?_;exact hK2) ?_
 refine zi (c:=true) (fun _ K2 hK2=>by refine gg_ ?_;exact hK2) ?_
 have:=h _ S.ext
 simpa using this
end Go.Proofs
end
section
namespace Go.Proofs
open Go.Sh
set_option maxRecDepth 100000
set_option linter.unusedSimpArgs false
set_option linter.unusedVariables false
theorem aef {u : UnD} {n : Int} : ((u.fs[n.toNat]?.map fun g=>(g.pts.length : Int)).getD 0)=(netU u n).length:=by
 rw [netU]
 cases u.fs[n.toNat]? with
 |none=>rfl
 |some g=>show (g.pts.length : Int)=(zg g).length;rw [yH]
theorem adj {u : UnD} {n q : Int} (h : okQ u n q=true) : fnE u n=0∧isN (netU u n) q:=by
 rw [okQ] at h
 simp only [Bool.not_eq_true',Bool.or_eq_false_iff,decide_eq_false_iff_not,Bool.not_eq_false',decide_eq_true_eq,Decidable.not_not] at h
 exact h
theorem Qm {u : UnD} {n : Int} {r : Gh} {qf : Option Addr} {capf : Nat} (hfn : SlB 7 r (GrG r) (.slice qf u.fs.length capf) u.fs) (h : fnE u n=0) :
  ∃ b off g x1 x2 x3 x4 y1 y2 y3 y4,qf=some ⟨b,off,none⟩∧u.fs[n.toNat]? = some g∧netU u n=zg g∧aeb (zg g)∧0≤n∧n<u.fs.length∧GrG r (grL g x1 x2 x3 x4 y1 y2 y3 y4) g∧(∀ j v,(grL g x1 x2 x3 x4 y1 y2 y3 y4)[j]? = some v→Ob r fun w=>w.cell? ⟨b,off+n.toNat*7+j,none⟩=some v):=by
 obtain ⟨hlt,he,hF⟩:=zE h
 obtain ⟨_,hn0,_⟩:=QT h
 obtain ⟨bf,of,cf,hp,hcf,hgc,hfo⟩:=hfn.sl.get (by decide) hlt
 have hgi : u.fs[n.toNat]? = some u.fs[n.toNat]:=List.getElem?_eq_getElem hlt
 rw [he] at hF
 generalize u.fs[n.toNat]=g at *
 obtain ⟨x1,x2,x3,x4,y1,y2,y3,y4,rfl,hg0⟩:=Xm hgc
 exact ⟨bf,of,g,x1,x2,x3,x4,y1,y2,y3,y4,hp,hgi,he,hF,hn0,by omega,hg0,hfo⟩
theorem Qn {n : zd} {l : List Int} (hs : l.Nodup) (h : ∀ x ∈ l,isN n x) : l.length≤n.length:=by
 have:=kv hs (b:=(List.range n.length).map Int.ofNat) fun x hx=>by
  have:=h x hx
  exact List.mem_map.2 ⟨x.toNat,List.mem_range.2 (by have h1:=this.1;have h2:=this.2;omega),by have h1:=this.1;show ((x.toNat : Nat) : Int)=x;omega⟩
 simpa using this
theorem aff {m : List Bool} : (mkd m).length≤m.length:=by
 rw [mkd,List.length_map]
 exact Nat.le_trans (List.length_filter_le ..) (by simp)
theorem abo {n : zd} {q : Int} : (abvL n q).length≤n.length:=Qn xz fun x hx=>(zx.1 hx).2.1
end Go.Proofs
end
section
namespace Go.Proofs.YtmkfelgocedohaaGreat.openG
open Go.Sh Go.ChangeShapes Go.WideShapes Go.ChangeAt Go.RowKit
set_option maxRecDepth 100000
set_option linter.unusedSimpArgs false
set_option linter.unusedVariables false
theorem own : ownKnob Tryz.prog.godebug=none:=by kernel_rfl
theorem JF : laidOutB Tryz.prog=true:=by kernel_rfl
theorem ab2 : mapsRowed Tryz.prog=true:=by kernel_rfl
theorem aeg : ((List.range Tryz.prog.types.size).all fun t=>match Tryz.prog.underlying t with|some (.slice e)=>decide (0<Tryz.prog.cellsOf e)|_=>true)=true:=by kernel_rfl
theorem qJ : Tryz.prog.underlying 3=some (.int .i64):=by kernel_rfl
theorem agt : Tryz.prog.underlying 2=some (.int .i64):=by kernel_rfl
theorem agu : Tryz.prog.underlying 153=some (.int .i64):=by kernel_rfl
theorem Q4 : Tryz.prog.underlying 4=some .bool:=by kernel_rfl
theorem agv : Tryz.prog.underlying 9=some .string:=by kernel_rfl
theorem uTk : Tryz.prog.underlying 136=some (.int .u8):=by kernel_rfl
theorem uOk : Tryz.prog.underlying 82=some (.int .u8):=by kernel_rfl
theorem uPo : Tryz.prog.underlying 78=some (.int .u8):=by kernel_rfl
theorem sTy : Tryz.prog.underlying 34=some (.slice 138)∧Tryz.prog.cellsOf 138=5:=⟨by kernel_rfl,by kernel_rfl⟩
theorem sFd : Tryz.prog.underlying 93=some (.slice 195)∧Tryz.prog.cellsOf 195=6:=⟨by kernel_rfl,by kernel_rfl⟩
theorem sSt : Tryz.prog.underlying 22=some (.slice 95)∧Tryz.prog.cellsOf 95=2:=⟨by kernel_rfl,by kernel_rfl⟩
theorem sGr : Tryz.prog.underlying 23=some (.slice 38)∧Tryz.prog.cellsOf 38=7:=⟨by kernel_rfl,by kernel_rfl⟩
theorem sOu : Tryz.prog.underlying 33=some (.slice 204)∧Tryz.prog.cellsOf 204=2:=⟨by kernel_rfl,by kernel_rfl⟩
theorem sSs : Tryz.prog.underlying 35=some (.slice 9)∧Tryz.prog.cellsOf 9=1:=⟨by kernel_rfl,by kernel_rfl⟩
theorem sPt : Tryz.prog.underlying 36=some (.slice 87)∧Tryz.prog.cellsOf 87=21:=⟨by kernel_rfl,by kernel_rfl⟩
theorem sOp : Tryz.prog.underlying 85=some (.slice 84)∧Tryz.prog.cellsOf 84=4:=⟨by kernel_rfl,by kernel_rfl⟩
theorem sSp : Tryz.prog.underlying 79=some (.slice 153)∧Tryz.prog.cellsOf 153=1:=⟨by kernel_rfl,by kernel_rfl⟩
theorem aTy : ∃ fs,Tryz.prog.underlying 138=some (.struct fs)∧fs.toList.map (·.type) = [136,4,3,3,34]:=yY (by kernel_rfl)
theorem aFd : ∃ fs,Tryz.prog.underlying 195=some (.struct fs)∧fs.toList.map (·.type) = [9,138]:=yY (by kernel_rfl)
theorem aSt : ∃ fs,Tryz.prog.underlying 95=some (.struct fs)∧fs.toList.map (·.type) = [9,93]:=yY (by kernel_rfl)
theorem aPl : ∃ fs,Tryz.prog.underlying 81=some (.struct fs)∧fs.toList.map (·.type) = [3,79]:=yY (by kernel_rfl)
theorem aOp : ∃ fs,Tryz.prog.underlying 84=some (.struct fs)∧fs.toList.map (·.type) = [82,2,81]:=yY (by kernel_rfl)
theorem aPt : ∃ fs,Tryz.prog.underlying 87=some (.struct fs)∧fs.toList.map (·.type) = [78,81,84,84,85,9,81,4,3,3,3,3,3]:=yY (by kernel_rfl)
theorem aOu : ∃ fs,Tryz.prog.underlying 204=some (.struct fs)∧fs.toList.map (·.type) = [3,3]:=yY (by kernel_rfl)
theorem aGr : ∃ fs,Tryz.prog.underlying 38=some (.struct fs)∧fs.toList.map (·.type) = [9,3,33,3,34,35,36]:=yY (by kernel_rfl)
theorem aUn : ∃ fs,Tryz.prog.underlying 25=some (.struct fs)∧fs.toList.map (·.type) = [22,23,3]:=yY (by kernel_rfl)
theorem afg : acr Tryz.prog [25,22,95,93,195,9,138,136,4,3,34,23,38,33,204,35,36,87,78,
 81,79,153,84,82,2,85]=true:=by kernel_rfl
theorem jl {α : Type} {f : α→Dat} {G : α→Prop} {d : Dat} {T e : TypeId} {n : Nat} (u : Tryz.prog.underlying T=some (.slice e)∧Tryz.prog.cellsOf e=n) (h : d.ok Tryz.prog T) (hf : ∀ x : Dat,SizeOf.sizeOf x<SizeOf.sizeOf d→x.ok Tryz.prog e→∃ t,x=f t∧G t) :
  ∃ l : List α,d = .sl n (l.map f)∧l.length≤maxLen∧∀ t ∈ l,G t:=by
 obtain ⟨es,rfl,hl,hk⟩:=afC u.1 h
 obtain ⟨l,rfl,hg⟩:=aaa (f:=f) (G:=G) es fun x hx=>hf x (by
  have:=List.sizeOf_lt_of_mem hx
  simp only [Dat.sl.sizeOf_spec];omega) (hk x hx)
 exact ⟨l,by rw [u.2],by simpa using hl,hg⟩
theorem agh : ∀ (n : Nat) (d : Dat),SizeOf.sizeOf d≤n→d.ok Tryz.prog 138→∃ t : TyD,d=t.dat:=by
 intro n
 induction n with
 |zero=>intro d h _;cases d<;>simp at h
 |succ n ih=>
  intro d hs h
  obtain ⟨ds,rfl,e0⟩:=kp aTy h
  obtain ⟨d0,ds,rfl,h0,e1⟩:=zp e0
  obtain ⟨d1,ds,rfl,h1,e2⟩:=zp e1
  obtain ⟨d2,ds,rfl,h2,e3⟩:=zp e2
  obtain ⟨d3,ds,rfl,h3,e4⟩:=zp e3
  obtain ⟨d4,ds,rfl,h4,e5⟩:=zp e4
  obtain rfl:=kq e5
  obtain ⟨k,rfl,_⟩:=ye uTk h0
  obtain ⟨m,rfl⟩:=V9 Q4 h1
  obtain ⟨re,rfl,_⟩:=ye qJ h2
  obtain ⟨st,rfl,_⟩:=ye qJ h3
  obtain ⟨l,rfl,_,_⟩:=jl (f:=TyD.dat) (G:=fun _=>True) sTy h4 fun x hx hk=>by
   obtain ⟨t,ht⟩:=ih x (by
    simp only [Dat.agg.sizeOf_spec,List.cons.sizeOf_spec] at hs
    omega) hk
   exact ⟨t,ht,trivial⟩
  exact ⟨.mk k m re st l,by rw [TyD.dat,TyD.dats_map]⟩
theorem adk {d : Dat} (h : d.ok Tryz.prog 138) : ∃ t : TyD,d=t.dat∧True:=by
 obtain ⟨t,ht⟩:=agh _ d (Nat.le_refl _) h
 exact ⟨t,ht,trivial⟩
theorem Xb {d : Dat} (h : d.ok Tryz.prog 9) : ∃ s : ByteArray,d = .str s∧True:=by
 obtain ⟨s,hs,_⟩:=aeL agv h
 exact ⟨s,hs,trivial⟩
theorem afh {n : Int} (h : (Lit.int .i64 n).wf=true) : aab n:=by have:=acs h;exact ⟨this.1,by omega⟩
theorem afT {d : Dat} (h : d.ok Tryz.prog 153) : ∃ n : Int,d=Dat.int .i64 n∧aab n:=by
 obtain ⟨n,hn,hw⟩:=ye agu h
 exact ⟨n,hn,afh hw⟩
theorem agi {d : Dat} (h : d.ok Tryz.prog 195) : ∃ f : ByteArray × TyD,d=V5 f∧True:=by
 obtain ⟨ds,rfl,e0⟩:=kp aFd h
 obtain ⟨d0,ds,rfl,h0,e1⟩:=zp e0
 obtain ⟨d1,ds,rfl,h1,e2⟩:=zp e1
 obtain rfl:=kq e2
 obtain ⟨s,rfl,_⟩:=Xb h0
 obtain ⟨t,rfl,_⟩:=adk h1
 exact ⟨(s,t),rfl,trivial⟩
theorem agj {d : Dat} (h : d.ok Tryz.prog 95) : ∃ s : StD,d=s.dat∧True:=by
 obtain ⟨ds,rfl,e0⟩:=kp aSt h
 obtain ⟨d0,ds,rfl,h0,e1⟩:=zp e0
 obtain ⟨d1,ds,rfl,h1,e2⟩:=zp e1
 obtain rfl:=kq e2
 obtain ⟨s,rfl,_⟩:=Xb h0
 obtain ⟨l,rfl,_,_⟩:=jl (f:=V5) (G:=fun _=>True) sFd h1 fun x _ hk=>agi hk
 exact ⟨⟨s,l⟩,rfl,trivial⟩
theorem ab3 {d : Dat} (h : d.ok Tryz.prog 81) : ∃ p : PlD,d=p.dat∧p.ok:=by
 obtain ⟨ds,rfl,e0⟩:=kp aPl h
 obtain ⟨d0,ds,rfl,h0,e1⟩:=zp e0
 obtain ⟨d1,ds,rfl,h1,e2⟩:=zp e1
 obtain rfl:=kq e2
 obtain ⟨n,rfl,_⟩:=ye qJ h0
 obtain ⟨l,rfl,hl,hg⟩:=jl (f:=Dat.int .i64) (G:=aab) sSp h1 fun x _ hk=>afT hk
 exact ⟨⟨n,l⟩,rfl,hl,hg⟩
theorem ab4 {d : Dat} (h : d.ok Tryz.prog 84) : ∃ o : OpD,d=o.dat∧o.ok:=by
 obtain ⟨ds,rfl,e0⟩:=kp aOp h
 obtain ⟨d0,ds,rfl,h0,e1⟩:=zp e0
 obtain ⟨d1,ds,rfl,h1,e2⟩:=zp e1
 obtain ⟨d2,ds,rfl,h2,e3⟩:=zp e2
 obtain rfl:=kq e3
 obtain ⟨k,rfl,_⟩:=ye uOk h0
 obtain ⟨n,rfl,_⟩:=ye agt h1
 obtain ⟨p,rfl,hp⟩:=ab3 h2
 exact ⟨⟨k,n,p⟩,rfl,hp⟩
theorem agk {d : Dat} (h : d.ok Tryz.prog 87) : ∃ p : PtD,d=p.dat∧p.ok:=by
 obtain ⟨ds,rfl,e0⟩:=kp aPt h
 obtain ⟨d0,ds,rfl,h0,e1⟩:=zp e0
 obtain ⟨d1,ds,rfl,h1,e2⟩:=zp e1
 obtain ⟨d2,ds,rfl,h2,e3⟩:=zp e2
 obtain ⟨d3,ds,rfl,h3,e4⟩:=zp e3
 obtain ⟨d4,ds,rfl,h4,e5⟩:=zp e4
 obtain ⟨d5,ds,rfl,h5,e6⟩:=zp e5
 obtain ⟨d6,ds,rfl,h6,e7⟩:=zp e6
 obtain ⟨d7,ds,rfl,h7,e8⟩:=zp e7
 obtain ⟨d8,ds,rfl,h8,e9⟩:=zp e8
 obtain ⟨d9,ds,rfl,h9,e10⟩:=zp e9
 obtain ⟨d10,ds,rfl,h10,e11⟩:=zp e10
 obtain ⟨d11,ds,rfl,h11,e12⟩:=zp e11
 obtain ⟨d12,ds,rfl,h12,e13⟩:=zp e12
 obtain rfl:=kq e13
 obtain ⟨op,rfl,_⟩:=ye uPo h0
 obtain ⟨to,rfl,g1⟩:=ab3 h1
 obtain ⟨a,rfl,g2⟩:=ab4 h2
 obtain ⟨b,rfl,g3⟩:=ab4 h3
 obtain ⟨l,rfl,hl,g4⟩:=jl (f:=OpD.dat) (G:=OpD.ok) sOp h4 fun x _ hk=>ab4 hk
 obtain ⟨s,rfl,_⟩:=Xb h5
 obtain ⟨fr,rfl,g6⟩:=ab3 h6
 obtain ⟨mu,rfl⟩:=V9 Q4 h7
 obtain ⟨fn,rfl,_⟩:=ye qJ h8
 obtain ⟨st,rfl,_⟩:=ye qJ h9
 obtain ⟨nx,rfl,_⟩:=ye qJ h10
 obtain ⟨el,rfl,_⟩:=ye qJ h11
 obtain ⟨tx,rfl,_⟩:=ye qJ h12
 exact ⟨⟨op,to,a,b,l,s,fr,mu,fn,st,nx,el,tx⟩,rfl,g1,g2,g3,⟨hl,g4⟩,g6⟩
theorem agl {d : Dat} (h : d.ok Tryz.prog 204) : ∃ x : Int × Int,d=abI x∧True:=by
 obtain ⟨ds,rfl,e0⟩:=kp aOu h
 obtain ⟨d0,ds,rfl,h0,e1⟩:=zp e0
 obtain ⟨d1,ds,rfl,h1,e2⟩:=zp e1
 obtain rfl:=kq e2
 obtain ⟨a,rfl,_⟩:=ye qJ h0
 obtain ⟨b,rfl,_⟩:=ye qJ h1
 exact ⟨(a,b),rfl,trivial⟩
theorem agm {d : Dat} (h : d.ok Tryz.prog 38) : ∃ g : GrD,d=g.dat∧g.ok:=by
 obtain ⟨ds,rfl,e0⟩:=kp aGr h
 obtain ⟨d0,ds,rfl,h0,e1⟩:=zp e0
 obtain ⟨d1,ds,rfl,h1,e2⟩:=zp e1
 obtain ⟨d2,ds,rfl,h2,e3⟩:=zp e2
 obtain ⟨d3,ds,rfl,h3,e4⟩:=zp e3
 obtain ⟨d4,ds,rfl,h4,e5⟩:=zp e4
 obtain ⟨d5,ds,rfl,h5,e6⟩:=zp e5
 obtain ⟨d6,ds,rfl,h6,e7⟩:=zp e6
 obtain rfl:=kq e7
 obtain ⟨s,rfl,_⟩:=Xb h0
 obtain ⟨lv,rfl,_⟩:=ye qJ h1
 obtain ⟨lo,rfl,g2,_⟩:=jl (f:=abI) (G:=fun _=>True) sOu h2 fun x _ hk=>agl hk
 obtain ⟨pn,rfl,_⟩:=ye qJ h3
 obtain ⟨lt,rfl,g4,_⟩:=jl (f:=TyD.dat) (G:=fun _=>True) sTy h4 fun x _ hk=>adk hk
 obtain ⟨ln,rfl,g5,_⟩:=jl (f:=Dat.str) (G:=fun _=>True) sSs h5 fun x _ hk=>Xb hk
 obtain ⟨lp,rfl,g6,hp⟩:=jl (f:=PtD.dat) (G:=PtD.ok) sPt h6 fun x _ hk=>agk hk
 exact ⟨⟨s,lv,lo,pn,lt,ln,lp⟩,rfl,g2,g4,g5,g6,hp⟩
theorem agn {d : Dat} (h : d.ok Tryz.prog 25) : ∃ u : UnD,d=u.dat∧u.ok:=by
 obtain ⟨ds,rfl,e0⟩:=kp aUn h
 obtain ⟨d0,ds,rfl,h0,e1⟩:=zp e0
 obtain ⟨d1,ds,rfl,h1,e2⟩:=zp e1
 obtain ⟨d2,ds,rfl,h2,e3⟩:=zp e2
 obtain rfl:=kq e3
 obtain ⟨ss,rfl,g0,_⟩:=jl (f:=StD.dat) (G:=fun _=>True) sSt h0 fun x _ hk=>agj hk
 obtain ⟨fs,rfl,g1,hg⟩:=jl (f:=GrD.dat) (G:=GrD.ok) sGr h1 fun x _ hk=>agm hk
 obtain ⟨mn,rfl,_⟩:=ye qJ h2
 exact ⟨⟨ss,fs,mn⟩,rfl,g0,g1,hg⟩
section
variable {H : Type} {enc : TypeId × Value→H} {W : World} {base : Nat} {v : Value} {d : DataW H} {p : List MemPlace}
theorem JG (hv : Value.okWide Tryz.prog W .any base 25 v) (h : DataW.Trod enc Tryz.prog W 0 (fun _=>true) true 25 v d p) : ∃ u : UnD,UnG (all W) v u:=by
 obtain ⟨fs,hu,_⟩:=aUn
 obtain ⟨cs,rfl,hsz⟩:=okWide_struct hu hv
 obtain ⟨fuel,hf⟩:=h
 obtain ⟨d,hr,hd⟩:=Zt afg fuel 25 _ _ (by simp) hf
 obtain ⟨u,rfl,hk⟩:=agn hd
 exact ⟨u,by simpa [Value.cells] using acw hr hk⟩
theorem vK (hv : Value.okWide Tryz.prog W .any base 3 v) (h : DataW.Trod enc Tryz.prog W 0 (fun _=>true) true 3 v d p) : ∃ n : Int,v = .int .i64 n∧-9223372036854775808≤n∧n≤9223372036854775807:=by
 obtain ⟨n,rfl,_,_,hw⟩:=open_int qJ hv h
 exact ⟨n,rfl,acs hw⟩
end
noncomputable def y6 (os : Os) : World:=World.holding Tryz.prog os ⟨#[],#[],[]⟩
end Go.Proofs.YtmkfelgocedohaaGreat.openG
end
section
namespace Go.Proofs.YtmkfelgocedohaaGreat.flowPoints
open Go.Sh Go.ChangeShapes Go.WideShapes Go.ChangeAt Go.RowKit openG
set_option maxRecDepth 100000
set_option linter.unusedVariables false
end Go.Proofs.YtmkfelgocedohaaGreat.flowPoints
end
section
namespace Go.Sh
section
variable {P : Program} {t : TypeId} {c : Bool} {a b a' b' : Int} {i j : IntKind}
def aaC (P : Program) (t : TypeId) : Bool:=
 !P.eqGuardType P.depth t&&(match P.underlying t with
 |some (.array n e)=>Nat.beq n 2&&(P.info? e).isSome&&Nat.beq (P.cellsOf e) 1&&(match P.underlying e with|some (.int _)=>true|_=>false)
 |_=>false)
class afU (P : Program) (t : TypeId) : Prop where
 h : aaC P t=true
theorem aeh (h : aaC P t=true) (w : World) : (Op.equalIn 10000 t (.agg #[.int i a,.int j b]) (.agg #[.int i a',.int j b'])).run P w = .ok (decide (a=a')&&decide (b=b')) w:=by
 unfold aaC at h
 simp only [Bool.and_eq_true,Bool.not_eq_true'] at h
 obtain ⟨h1,h3⟩:=h
 cases hu : P.underlying t with
 |none=>rw [hu] at h3;cases h3
 |some d=>
  rw [hu] at h3
  cases d<;>first|(cases h3;done)|skip
  rename_i n e
  simp only [Bool.and_eq_true] at h3
  obtain ⟨⟨⟨n2,hi⟩,hc⟩,he⟩:=h3
  have n2:=Nat.eq_of_beq_eq_true n2
  have hc:=Nat.eq_of_beq_eq_true hc
  subst n2
  obtain ⟨inf,hi⟩:=Option.isSome_iff_exists.1 hi
  have s1 : ∃ k,P.underlying e=some (.int k):=by
   revert he;cases P.underlying e with
   |none=>intro h;cases h
   |some d=>cases d<;>first|(intro h;cases h;done)|(intro _;exact ⟨_,rfl⟩)
  obtain ⟨k1,s1⟩:=s1
  rw [run_equalIn_array w 9999 _ _ hu hi,hc,show List.range 2 = [0,1] from rfl]
  simp only [Op.eqItems,Sem.run_bind]
  rw [ZS s1 (x:=.int i a) rfl,Result.andThen_ok,ZS s1 (x:=.int i a') rfl,Result.andThen_ok,run_equalIn_int w 9998 _ i k1 _ _ s1,Result.andThen_ok]
  by_cases ha : a=a'
  ·subst ha
   simp only [beq_self_eq_true,Bool.not_true,Bool.false_eq_true,if_false,Sem.run_bind,decide_true,Bool.true_and]
   rw [ZS s1 (x:=.int j b) rfl,Result.andThen_ok,ZS s1 (x:=.int j b') rfl,Result.andThen_ok,run_equalIn_int w 9998 _ j k1 _ _ s1,Result.andThen_ok]
   by_cases hb : b=b'
   ·subst hb;simp [pure]
   ·simp [hb,pure]
  ·simp [ha,pure]
theorem adl (h : aaC P t=true) : P.eqGuardType P.depth t=false:=by
 unfold aaC at h
 simp only [Bool.and_eq_true,Bool.not_eq_true'] at h
 exact h.1
instance [h : afU P t] : PStep P (zU .eql t c (.agg #[.int i a,.int j b]) (.agg #[.int i a',.int j b'])) (.bool (decide (a=a')&&decide (b=b'))):=.of fun _ k=>yo (fun w=>by
 rw [VX (adl h.h),run_eql_struct,aeh h.h];rfl) k
end
end Go.Sh
end
