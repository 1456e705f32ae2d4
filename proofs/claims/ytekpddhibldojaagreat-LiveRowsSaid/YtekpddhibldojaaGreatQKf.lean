/-
  Plain: shortest ways, the first of them by number; found level by level.
  Plain: a round of levels; the way that is found.
  Plain: the document's shortest way: how far it is to the end, then always the least that comes nearer.
  Plain: where one goes round: what reaches a point without going through another one.
  Plain: who lies above whom is a chain; right above.
  Plain: places in the order; two small nets, reckoned.
  Plain: what the statements of Flow ask of ways, of what lies above, of the order.
  Plain: which locals a point uses, which one ends there; where a local is live; why.
  Plain: where locals are live, as marks; a list of work; round and round.
  Plain: why a local is live; step by step; the least closed rows.
  Plain: marks as rows of bits.
  Rows of one's own as cells, and back; a row cut shorter.
  Shallow readings of functions. Made by a program (wip/gen/gen.py) out of the translation; the kernel checks each equality.
  Contracts: slices of numbers and of marks: Contains, Clone, Equal, Repeat, Reverse.
  Shallow readings of functions. Made by a program (wip/gen/gen.py) out of the translation; the kernel checks each equality.
  Contracts of flow: a net is told of a program; has, before, marked, reached.
  Contracts of flow: the net of a program; what is reached.
  Contract of flow: the walk.
  Contract of flow: who lies above whom. Rows of marks in memory.
  Contract of flow: (net).above.
  Contracts of flow: Before, Reach, Above, Order, Back. Made by a program (wip/gen/flowc.py).
  More of the seat's types, reckoned. Made by a program (wip/gen/gen.py).
  Shallow readings of functions. Made by a program (wip/gen/gen.py) out of the translation; the kernel checks each equality.
  Shallow readings of functions. Made by a program (wip/gen/gen.py) out of the translation; the kernel checks each equality.
  Contracts of live: of, point, assigns.
  A function value that is handed things one by one, and what it may write.
  Contracts of live: point, assigns; the locals that a point uses, handed one by one.
  Shallow readings of functions. Made by a program (wip/gen/gen.py) out of the translation; the kernel checks each equality.
  Contracts: rows of bits: May, New of bits; May, Is, List of the document's.
  Contracts of live: the locals that a point uses as an iterator; used, ends.
  Contracts of flow: Is, Right.
  Contracts of flow: Right, Loop.
  Contract of flow: Loop.
  Shallow readings of functions. Made by a program (wip/gen/gen.py) out of the translation; the kernel checks each equality.
  Contracts of loanwordref12: Next, in, rising, Before, reach, Reach.
  Contracts of loanwordref12: reach, Reach, Above.
  Contracts of loanwordref12: Reach, Above, Is.
  Contracts of loanwordref12: Is, Loop.
  Contract of loanwordref12: Right.
  Plain law: the walk's marks as two rows of truths, and the walk as a recursion.
  Contract of loanwordref12: walker.walk.
  Contract of loanwordref12: Walk.
  Shallow readings of functions. Made by a program (wip/gen/gen.py) out of the translation; the kernel checks each equality.
  Contracts of loanwordlaw12: in, same, inside.
  Contract of loanwordlaw12: fits.
  loanwordlaw12's small units: plain facts.
  Contract of loanwordlaw12: line.
  A map of numbers of one's own: made, filled, asked.
  Contract of flow: Way.
  Contract of loanwordlaw12: awake.
  loanwordlaw12.FlowPoints: whatever the program, the function, the points: the law returns true.
  Contract of loanwordref12: Way.
  loanwordlaw12.FlowWays: whatever the program, the function, the points, the list: the law returns true.
  loanwordlaw12.FlowAbove: whatever the program, the function, the point: the law returns true.
  Arrays of two numbers, compared.
  loanwordlaw12.FlowWhole: whatever the program, the function: the law returns true.
  loanwordlaw12.FlowReach: whatever the program, the function, the point: the law returns true.
  loanwordlaw12.FlowOrder: whatever the program, the function: the law returns true.
-/
import Derived.Test.YtekpddhibldojaaGreatQKe
import Derived.Test.YtekpddhibldojaaGreatQKa
import Derived.Test.YtekpddhibldojaaGreatQKc
import Derived.Test.YtekpddhibldojaaGreatQKb
import Derived.Test.YtekpddhibldojaaGreatQKd
import Derived.ChangeKeysEq
section
namespace Go.Proofs
set_option linter.unusedVariables false
set_option linter.unusedSimpArgs false
def ltL : List Int→List Int→Prop
 |x::a,y::b=>x<y∨(x=y∧ltL a b)
 |_,_=>False
def leL (a b : List Int) : Prop:=a=b∨ltL a b
theorem agr : ∀ {a : List Int},¬ ltL a a
 |[],h=>h
 |x::a,h=>by
  rcases h with h|⟨_,h⟩
  ·omega
  ·exact agr h
theorem JN : ∀ {a b c : List Int},ltL a b→ltL b c→ltL a c
 |x::a,y::b,z::c,h,k=>by
  rcases h with h|⟨rfl,h⟩
  ·rcases k with k|⟨rfl,k⟩
   ·exact .inl (by omega)
   ·exact .inl h
  ·rcases k with k|⟨rfl,k⟩
   ·exact .inl k
   ·exact .inr ⟨rfl,JN h k⟩
theorem leL.refl {a : List Int} : leL a a:=.inl rfl
theorem aia {a b c : List Int} (h : leL a b) (k : leL b c) : leL a c:=by
 rcases h with rfl|h
 ·exact k
 rcases k with rfl|k
 ·exact .inr h
 ·exact .inr (JN h k)
theorem aja {a b : List Int} (h : leL a b) (k : leL b a) : a=b:=by
 rcases h with rfl|h
 ·rfl
 rcases k with rfl|k
 ·rfl
 ·exact absurd (JN h k) agr
theorem acx : ∀ {a b x y : List Int},ltL a b→a.length=b.length→ltL (a++x) (b++y)
 |x::a,y::b,_,_,h,hl=>by
  rcases h with h|⟨rfl,h⟩
  ·exact .inl h
  ·exact .inr ⟨rfl,acx h (by simpa using hl)⟩
theorem ags : ∀ {a x y : List Int},ltL x y→ltL (a++x) (a++y)
 |[],_,_,h=>h
 |z::a,_,_,h=>.inr ⟨rfl,ags h⟩
theorem agt {a b x : List Int} (h : leL a b) (hl : a.length=b.length) : leL (a++x) (b++x):=by
 rcases h with rfl|h
 ·exact .inl rfl
 ·exact .inr (acx h hl)
def Stp (n : zK) (W : List Int) (s q p : Int) : Prop:=(q=s∨q ∉ W)∧p ∈ nxt n q
def Pth (n : zK) (W : List Int) (s : Int) : Int→List Int→Int→Prop
 |x,[],t=>x=t
 |x,y::r,t=>Stp n W s x y∧Pth n W s y r t
theorem Pth.app {n : zK} {W : List Int} {s : Int} : ∀ {a b : List Int} {x t : Int},Pth n W s x (a++b) t↔∃ m,Pth n W s x a m∧Pth n W s m b t
 |[],b,x,t=>⟨fun h=>⟨x,rfl,h⟩,fun ⟨m,h,k⟩=>by have h : x=m:=h;rw [h];exact k⟩
 |y::a,b,x,t=>by
  rw [List.cons_append,Pth,Pth.app (a:=a)]
  constructor
  ·rintro ⟨h,m,h1,h2⟩;exact ⟨m,⟨h,h1⟩,h2⟩
  ·rintro ⟨m,⟨h,h1⟩,h2⟩;exact ⟨h,m,h1,h2⟩
def Vw (n : zK) (W : List Int) (s : Int) (w : List Int) (p : Int) : Prop:=∃ r,w=s::r∧Pth n W s s r p
theorem Vw.base {n : zK} {W : List Int} {s : Int} : Vw n W s [s] s:=⟨[],rfl,rfl⟩
theorem Vw.snoc {n : zK} {W : List Int} {s q p : Int} {w : List Int} (h : Vw n W s w q) (k : Stp n W s q p) : Vw n W s (w ++ [p]) p:=by
 obtain ⟨r,rfl,h⟩:=h
 exact ⟨r ++ [p],rfl,Pth.app.2 ⟨q,h,k,rfl⟩⟩
theorem Vw.last {n : zK} {W : List Int} {s p : Int} {w : List Int} (h : Vw n W s w p) : (w = [s]∧p=s)∨∃ u q,w=u ++ [p]∧Vw n W s u q∧Stp n W s q p:=by
 obtain ⟨r,rfl,h⟩:=h
 rcases List.eq_nil_or_concat r with rfl|⟨u,y,rfl⟩
 ·exact .inl ⟨rfl,Eq.symm h⟩
 ·rw [List.concat_eq_append] at h ⊢
  obtain ⟨m,h1,h2,h3⟩:=Pth.app.1 h
  have h3 : y=p:=h3
  subst h3
  exact .inr ⟨s::u,m,rfl,⟨u,rfl,h1⟩,h2⟩
theorem Vw.pos {n : zK} {W : List Int} {s p : Int} {w : List Int} (h : Vw n W s w p) : 1≤w.length:=by
 obtain ⟨r,rfl,_⟩:=h;simp
def MinW (n : zK) (W : List Int) (s p : Int) (w : List Int) : Prop:=Vw n W s w p∧∀ w',Vw n W s w' p→w.length≤w'.length∧(w'.length=w.length→leL w w')
theorem MinW.one {n : zK} {W : List Int} {s p : Int} {w w' : List Int} (h : MinW n W s p w) (k : MinW n W s p w') : w=w':=by
 have h1:=h.2 w' k.1
 have h2:=k.2 w h.1
 have hl : w'.length=w.length:=by omega
 exact aja (h1.2 hl) (h2.2 hl.symm)
abbrev zW:=List (Int × List Int)
def getW (M : zW) (p : Int) : List Int:=(M.lookup p).getD []
theorem jB {M : zW} {p : Int} {w : List Int} : (M.map Prod.fst).Nodup→((p,w) ∈ M↔M.lookup p=some w):=by
 induction M with
 |nil=>intro _;simp
 |cons x M ih=>
  intro h
  obtain ⟨y,v⟩:=x
  have h':=List.nodup_cons.1 h
  have ih:=ih h'.2
  rw [List.lookup_cons,List.mem_cons]
  by_cases e : p=y
  ·subst e
   rw [show (p == p)=true by simp]
   simp only [Option.some.injEq,Prod.mk.injEq,true_and]
   constructor
   ·rintro (e|hm)
    ·exact e.symm
    ·exact absurd (List.mem_map.2 ⟨(p,w),hm,rfl⟩) h'.1
   ·rintro e;exact .inl e.symm
  ·rw [show (p == y)=false by simpa using e]
   simp only [Prod.mk.injEq,e,false_and,false_or]
   exact ih
theorem ajb {M : zW} {p q : Int} {w : List Int} : (M ++ [(q,w)]).lookup p=(M.lookup p).or (if p=q then some w else none):=by
 induction M with
 |nil=>
  rw [List.nil_append,List.lookup_cons]
  by_cases e : p=q
  ·simp [e]
  ·rw [show (p == q)=false by simpa using e];simp [e]
 |cons x M ih=>
  obtain ⟨y,v⟩:=x
  rw [List.cons_append,List.lookup_cons,List.lookup_cons,ih]
  split<;>rfl
def yf (wq : List Int) (st : zW × List Int) (p : Int) : zW × List Int:=if (st.1.lookup p).isSome then st else (st.1 ++ [(p,wq ++ [p])],st.2 ++ [p])
structure Fw (n : zK) (W : List Int) (s : Int) (k : Nat) (M : zW) (L : List Int) : Prop where
 min : ∀ p w,(p,w) ∈ M→isN n p∧MinW n W s p w∧w.length≤k+1
 nod : (M.map Prod.fst).Nodup
 all : ∀ p w,Vw n W s w p→w.length≤k+1→(M.lookup p).isSome=true
 lev : ∀ p,p ∈ L↔∃ w,(p,w) ∈ M∧w.length=k+1
 srt : L.Pairwise fun p p'=>ltL (getW M p) (getW M p')
theorem Fw.start {n : zK} {W : List Int} {s : Int} (hs : isN n s) : Fw n W s 0 [(s,[s])] [s]:=by
 refine ⟨fun p w h=>?_,by simp,fun p w h hl=>?_,fun p=>?_,by simp⟩
 ·simp only [List.mem_singleton,Prod.mk.injEq] at h
  obtain ⟨rfl,rfl⟩:=h
  refine ⟨hs,⟨.base,fun w' h'=>⟨h'.pos,fun hl=>?_⟩⟩,Nat.le_refl _⟩
  obtain ⟨r,rfl,_⟩:=h'
  have : r = []:=by simpa using hl
  subst this;exact .refl
 ·rcases h.last with ⟨_,rfl⟩|⟨u,q,rfl,h,_⟩
  ·simp
  ·have:=h.pos
   rw [List.length_append,List.length_singleton] at hl
   omega
 ·rw [List.mem_singleton]
  constructor
  ·rintro rfl;exact ⟨[p],by simp,rfl⟩
  ·rintro ⟨w,h,_⟩
   simp only [List.mem_singleton,Prod.mk.injEq] at h
   exact h.1
structure Md (n : zK) (W : List Int) (s : Int) (M0 : zW) (L : List Int) (cur : List Int→Prop) (M : zW) (nx : List Int) : Prop where
 app : ∃ N : zW,M=M0++N∧nx=N.map Prod.fst
 new : ∀ p w,(p,w) ∈ M→(p,w) ∈ M0∨(M0.lookup p=none∧(∃ q ∈ L,Stp n W s q p∧w=getW M0 q ++ [p])∧(∀ q ∈ L,Stp n W s q p→leL w (getW M0 q ++ [p])))
 nod : (M.map Prod.fst).Nodup
 srt : nx.Pairwise fun p p'=>ltL (getW M p) (getW M p')
 less : ∀ p ∈ nx,∀ x,cur x→ltL (getW M p) x
theorem acz {M : zW} {p : Int} {w : List Int} (hn : (M.map Prod.fst).Nodup) (h : (p,w) ∈ M) : getW M p=w:=by rw [getW,(jB hn).1 h];rfl
theorem aib {M : zW} {p : Int} (h : M.lookup p=none) : p ∉ M.map Prod.fst:=by
 intro hm
 obtain ⟨⟨y,w⟩,hx,e⟩:=List.mem_map.1 hm
 have e : y=p:=e
 subst e
 rw [List.lookup_eq_none_iff] at h
 have:=h _ hx
 simp at this
theorem ada {M : zW} {p : Int} (h : (M.lookup p).isSome=true) : ∃ w,(p,w) ∈ M:=by
 induction M with
 |nil=>cases h
 |cons x M ih=>
  obtain ⟨y,v⟩:=x
  rw [List.lookup_cons] at h
  by_cases e : p=y
  ·subst e;exact ⟨v,List.mem_cons_self⟩
  ·rw [show (p == y)=false by simpa using e] at h
   obtain ⟨w,hw⟩:=ih h
   exact ⟨w,List.mem_cons_of_mem _ hw⟩
theorem Md.mono {n : zK} {W : List Int} {s : Int} {M0 : zW} {L : List Int} {cur cur' : List Int→Prop} {M : zW} {nx : List Int} (h : Md n W s M0 L cur M nx) (hc : ∀ x,cur' x→cur x) : Md n W s M0 L cur' M nx:=
 ⟨h.app,h.new,h.nod,h.srt,fun p hp x hx=>h.less p hp x (hc x hx)⟩
theorem aic {M : zW} {N : zW} {p : Int} (h : (M.lookup p).isSome=true) : getW (M++N) p=getW M p:=by
 rw [getW,getW,List.lookup_append]
 cases hm : M.lookup p with
 |none=>rw [hm] at h;cases h
 |some w=>rfl
theorem ajM {M N : zW} {p : Int} (h : (M.lookup p).isSome=true) : ((M++N).lookup p).isSome=true:=by
 rw [List.lookup_append]
 cases hm : M.lookup p with
 |none=>rw [hm] at h;cases h
 |some w=>rfl
theorem Md.add {n : zK} {W : List Int} {s q p : Int} {M0 : zW} {L : List Int} {M : zW} {nx : List Int} {cur : List Int→Prop} (h : Md n W s M0 L cur M nx) (hc : cur (getW M0 q ++ [p]))
  (hq : q ∈ L) (hst : Stp n W s q p) (hmin : M.lookup p=none→∀ q' ∈ L,Stp n W s q' p→leL (getW M0 q ++ [p]) (getW M0 q' ++ [p])) :
  Md n W s M0 L (fun x=>cur x∧ltL (getW M0 q ++ [p]) x) (yf (getW M0 q) (M,nx) p).1 (yf (getW M0 q) (M,nx) p).2∧((yf (getW M0 q) (M,nx) p).1.lookup p).isSome=true∧(∀ x,(M.lookup x).isSome=true→((yf (getW M0 q) (M,nx) p).1.lookup x).isSome=true):=by
 rw [yf]
 cases hl : M.lookup p with
 |some w=>
  simp only [hl,Option.isSome_some,if_true]
  exact ⟨h.mono fun x hx=>hx.1,trivial,fun x hx=>hx⟩
 |none=>
  simp only [Option.isSome_none,Bool.false_eq_true,if_false,hl]
  have hnp:=aib hl
  have hnodM : ((M ++ [(p,getW M0 q ++ [p])]).map Prod.fst).Nodup:=by
   rw [List.map_append,List.nodup_append]
   refine ⟨h.nod,by simp,fun a ha b hb=>?_⟩
   simp only [List.map_cons,List.map_nil,List.mem_singleton] at hb
   subst hb
   intro e;subst e;exact hnp ha
  have hM0 : M0.lookup p=none:=by
   obtain ⟨N,e,_⟩:=h.app
   rw [e,List.lookup_append,Option.or_eq_none_iff] at hl
   exact hl.1
  have hold : ∀ x ∈ nx,getW (M ++ [(p,getW M0 q ++ [p])]) x=getW M x:=fun x hx=>by
   obtain ⟨N,e,e2⟩:=h.app
   rw [e2] at hx
   obtain ⟨⟨y,w⟩,hy,e3⟩:=List.mem_map.1 hx
   have e3 : y=x:=e3
   subst e3
   have hyM : (y,w) ∈ M:=by rw [e];exact List.mem_append_right _ hy
   exact aic (by rw [(jB h.nod).1 hyM];rfl)
  have hnew : getW (M ++ [(p,getW M0 q ++ [p])]) p=getW M0 q ++ [p]:=acz hnodM (by simp)
  refine ⟨⟨?_,fun p' w hm=>?_,hnodM,?_,fun p' hp' x hx=>?_⟩,?_,fun x hx=>ajM hx⟩
  ·obtain ⟨N,e,e2⟩:=h.app
   exact ⟨N ++ [(p,getW M0 q ++ [p])],by rw [e,List.append_assoc],by rw [e2];simp⟩
  ·rcases List.mem_append.1 hm with hm|hm
   ·exact h.new p' w hm
   ·simp only [List.mem_singleton,Prod.mk.injEq] at hm
    obtain ⟨rfl,rfl⟩:=hm
    exact .inr ⟨hM0,⟨q,hq,hst,rfl⟩,hmin hl⟩
  ·rw [List.pairwise_append]
   refine ⟨?_,by simp,fun a ha b hb=>?_⟩
   ·exact h.srt.imp_of_mem fun ha hb hh=>by rw [hold _ ha,hold _ hb];exact hh
   ·rw [List.mem_singleton.1 hb,hold a ha,hnew]
    exact h.less a ha _ hc
  ·rcases List.mem_append.1 hp' with hp'|hp'
   ·rw [hold p' hp'];exact h.less p' hp' x hx.1
   ·rw [List.mem_singleton.1 hp',hnew];exact hx.2
  ·rw [ajb,if_pos rfl,hl];rfl
theorem Md.adds {n : zK} {W : List Int} {s q : Int} {M0 : zW} {L : List Int} (hq : q ∈ L) : ∀ {l : List Int} {M : zW} {nx : List Int} {cur : List Int→Prop},Md n W s M0 L cur M nx→(∀ p ∈ l,Stp n W s q p)→l.Pairwise (·≤·)→(∀ p ∈ l,cur (getW M0 q ++ [p])∨(M.lookup p).isSome=true)→
  (∀ p ∈ l,M.lookup p=none→∀ q' ∈ L,Stp n W s q' p→leL (getW M0 q ++ [p]) (getW M0 q' ++ [p]))→
  Md n W s M0 L (fun x=>cur x∧∀ p ∈ l,ltL (getW M0 q ++ [p]) x) (l.foldl (yf (getW M0 q)) (M,nx)).1 (l.foldl (yf (getW M0 q)) (M,nx)).2∧(∀ p ∈ l,((l.foldl (yf (getW M0 q)) (M,nx)).1.lookup p).isSome=true)∧
  (∀ x,(M.lookup x).isSome=true→((l.foldl (yf (getW M0 q)) (M,nx)).1.lookup x).isSome=true)
 |[],M,nx,cur,h,_,_,_,_=>⟨h.mono fun x hx=>hx.1,by simp,fun x hx=>hx⟩
 |p::l,M,nx,cur,h,hst,hs,hc,hmin=>by
  have hs':=List.pairwise_cons.1 hs
  rw [List.foldl_cons]
  have key : Md n W s M0 L (fun x=>cur x∧ltL (getW M0 q ++ [p]) x) (yf (getW M0 q) (M,nx) p).1 (yf (getW M0 q) (M,nx) p).2∧((yf (getW M0 q) (M,nx) p).1.lookup p).isSome=true∧(∀ x,(M.lookup x).isSome=true→((yf (getW M0 q) (M,nx) p).1.lookup x).isSome=true):=by
   rcases hc p List.mem_cons_self with hcp|hl
   ·exact h.add hcp hq (hst p List.mem_cons_self) (hmin p List.mem_cons_self)
   ·rw [yf]
    simp only [hl,if_true]
    exact ⟨h.mono fun x hx=>hx.1,trivial,fun x hx=>hx⟩
  obtain ⟨h1,h2,h3⟩:=key
  obtain ⟨k1,k2,k3⟩:=Md.adds hq (l:=l) h1 (fun x hx=>hst x (List.mem_cons_of_mem _ hx)) hs'.2 (fun x hx=>by
   rcases hc x (List.mem_cons_of_mem _ hx) with hcx|hlx
   ·have hle:=hs'.1 x hx
    by_cases e : x=p
    ·subst e;exact .inr h2
    ·exact .inl ⟨hcx,ags (.inl (by omega))⟩
   ·exact .inr (h3 x hlx)) (fun x hx hl=>hmin x (List.mem_cons_of_mem _ hx) (by
    cases hm : M.lookup x with
    |none=>rfl
    |some w=>have:=h3 x (by rw [hm];rfl);rw [hl] at this;cases this))
  refine ⟨k1.mono fun x hx=>⟨⟨hx.1,hx.2 p List.mem_cons_self⟩,fun y hy=>hx.2 y (List.mem_cons_of_mem _ hy)⟩,fun x hx=>?_,fun x hx=>k3 x (h3 x hx)⟩
  rcases List.mem_cons.1 hx with rfl|hx
  ·exact k3 _ h2
  ·exact k2 x hx
end Go.Proofs
end
section
namespace Go.Proofs
set_option linter.unusedVariables false
set_option linter.unusedSimpArgs false
def rndW (n : zK) (so : List Int→List Int) (W : List Int) (s : Int) (M : zW) (L : List Int) (st : zW × List Int) : zW × List Int:=
 L.foldl (fun st q=>if q≠s∧q ∈ W then st else (so (nxt n q)).foldl (yf (getW M q)) st) st
def abG (so : List Int→List Int) : Prop:=∀ l,(so l).Pairwise (·≤·)∧∀ x,x ∈ so l↔x ∈ l
theorem Fw.lenL {n : zK} {W : List Int} {s : Int} {k : Nat} {M : zW} {L : List Int} (h : Fw n W s k M L) {q : Int} (hq : q ∈ L) : (q,getW M q) ∈ M∧(getW M q).length=k+1:=by
 obtain ⟨w,hw,hl⟩:=(h.lev q).1 hq
 rw [acz h.nod hw];exact ⟨hw,hl⟩
theorem Fw.rnd {n : zK} {so : List Int→List Int} (hso : abG so) {W : List Int} {s : Int} {k : Nat} {M0 : zW} {L : List Int} (h : Fw n W s k M0 L) : ∀ {rest : List Int} {M : zW} {nx : List Int},(∃ done,L=done++rest∧∀ q ∈ done,∀ p,Stp n W s q p→(M.lookup p).isSome=true)→
  Md n W s M0 L (fun x=>∃ q ∈ rest,∃ p,x=getW M0 q ++ [p]) M nx→(∀ x,(M0.lookup x).isSome=true→(M.lookup x).isSome=true)→
  Md n W s M0 L (fun _=>False) (rndW n so W s M0 rest (M,nx)).1 (rndW n so W s M0 rest (M,nx)).2∧∀ q ∈ L,∀ p,Stp n W s q p→((rndW n so W s M0 rest (M,nx)).1.lookup p).isSome=true
 |[],M,nx,hd,hm,_=>by
  obtain ⟨done,e,hd⟩:=hd
  rw [List.append_nil] at e
  subst e
  exact ⟨hm.mono fun x hx=>hx.elim,hd⟩
 |q::rest,M,nx,hd,hm,h0=>by
  obtain ⟨done,e,hd⟩:=hd
  have hqL : q ∈ L:=by rw [e];simp
  have hsrt : ∀ q' ∈ rest,ltL (getW M0 q) (getW M0 q'):=fun q' hq'=>by
   have:=h.srt
   rw [e,List.pairwise_append] at this
   exact (List.pairwise_cons.1 this.2.1).1 q' hq'
  have hlen : ∀ q' ∈ L,(getW M0 q').length=k+1:=fun q' hq'=>(h.lenL hq').2
  have e' : L=(done ++ [q])++rest:=by rw [e];simp
  have hrL : ∀ q' ∈ rest,q' ∈ L:=fun q' hq'=>by rw [e];simp [hq']
  rw [rndW,List.foldl_cons]
  by_cases hsk : q≠s∧q ∈ W
  ·rw [if_pos hsk]
   refine Fw.rnd hso h (rest:=rest) ⟨done ++ [q],e',fun q' hq' p hp=>?_⟩ (hm.mono fun x ⟨q',hq',p,e⟩=>⟨q',List.mem_cons_of_mem _ hq',p,e⟩) h0
   rcases List.mem_append.1 hq' with hq'|hq'
   ·exact hd q' hq' p hp
   ·obtain rfl:=List.mem_singleton.1 hq'
    rcases hp.1 with h1|h1
    ·exact absurd h1 hsk.1
    ·exact absurd hsk.2 h1
  ·rw [if_neg hsk]
   have hst : ∀ p ∈ so (nxt n q),Stp n W s q p:=fun p hp=>by
    refine ⟨?_,((hso _).2 p).1 hp⟩
    by_cases e1 : q=s
    ·exact .inl e1
    ·exact .inr fun hw=>hsk ⟨e1,hw⟩
   obtain ⟨k1,k2,k3⟩:=Md.adds hqL (l:=so (nxt n q)) hm hst (hso _).1 (fun p hp=>.inl ⟨q,List.mem_cons_self,p,rfl⟩) fun p hp hl q' hq' hst'=>by
    rw [e] at hq'
    rcases List.mem_append.1 hq' with hq'|hq'
    ·have:=hd q' hq' p hst'
     rw [hl] at this;cases this
    rcases List.mem_cons.1 hq' with rfl|hq'
    ·exact .refl
    ·exact agt (.inr (hsrt q' hq')) (by rw [hlen q hqL,hlen q' (hrL q' hq')])
   refine Fw.rnd hso h (rest:=rest) ⟨done ++ [q],e',fun q' hq' p hp=>?_⟩ (k1.mono fun x ⟨q',hq',p,e⟩=>⟨⟨q',List.mem_cons_of_mem _ hq',p,e⟩,fun p' hp'=>?_⟩) fun x hx=>k3 x (h0 x hx)
   ·rcases List.mem_append.1 hq' with hq'|hq'
    ·exact k3 p (hd q' hq' p hp)
    ·obtain rfl:=List.mem_singleton.1 hq'
     exact k2 p (((hso _).2 p).2 hp.2)
   ·rw [e]
    exact acx (hsrt q' hq') (by rw [hlen q hqL,hlen q' (hrL q' hq')])
theorem Fw.next {n : zK} (hn : qP n) {so : List Int→List Int} (hso : abG so) {W : List Int} {s : Int} {k : Nat} {M : zW} {L : List Int} (h : Fw n W s k M L) :
  Fw n W s (k+1) (rndW n so W s M L (M,[])).1 (rndW n so W s M L (M,[])).2∧M.length+(rndW n so W s M L (M,[])).2.length=(rndW n so W s M L (M,[])).1.length:=by
 obtain ⟨hm,hall⟩:=Fw.rnd hso h (rest:=L) (M:=M) (nx:=[]) ⟨[],rfl,fun q hq=>by cases hq⟩ ⟨⟨[],by simp,rfl⟩,fun p w hp=>.inl hp,h.nod,.nil,fun p hp=>by cases hp⟩ fun x hx=>hx
 generalize (rndW n so W s M L (M,[])).1=M' at *
 generalize (rndW n so W s M L (M,[])).2=nx at *
 obtain ⟨N,eN,eN2⟩:=hm.app
 have hlast : ∀ p w,Vw n W s w p→w.length≤k+2→M.lookup p=none→∃ u q,w=u ++ [p]∧Vw n W s u q∧Stp n W s q p∧q ∈ L∧u.length=k+1∧leL (getW M q) u:=fun p w hw hl hno=>by
  rcases hw.last with ⟨rfl,rfl⟩|⟨u,q,rfl,hu,hst⟩
  ·have:=h.all _ _ hw (by simp);rw [hno] at this;cases this
  ·rw [List.length_append,List.length_singleton] at hl
   obtain ⟨wq,hwq⟩:=ada (h.all q u hu (by omega))
   obtain ⟨_,hmq,hlq⟩:=h.min q wq hwq
   have h1:=hmq.2 u hu
   have hlt : ¬ wq.length≤k:=fun hle=>by
    have:=h.all p (wq ++ [p]) (hmq.1.snoc hst) (by rw [List.length_append,List.length_singleton];omega)
    rw [hno] at this;cases this
   have hul : u.length=k+1:=by omega
   refine ⟨u,q,rfl,hu,hst,(h.lev q).2 ⟨wq,hwq,by omega⟩,hul,?_⟩
   rw [acz h.nod hwq]
   exact h1.2 (by omega)
 have hNnew : ∀ p w,(p,w) ∈ N→M.lookup p=none∧w.length=k+2:=fun p w hp=>by
  have hpM : (p,w) ∈ M':=by rw [eN];exact List.mem_append_right _ hp
  have hno : M.lookup p=none:=by
   cases hl : M.lookup p with
   |none=>rfl
   |some v=>
    have h1:=(jB h.nod).2 hl
    have h2:=hm.nod
    rw [eN,List.map_append,List.nodup_append] at h2
    exact absurd rfl (h2.2.2 p (List.mem_map.2 ⟨_,h1,rfl⟩) p (List.mem_map.2 ⟨_,hp,rfl⟩))
  rcases hm.new p w hpM with h1|⟨_,⟨q,hq,hst,rfl⟩,_⟩
  ·rw [(jB h.nod).1 h1] at hno;cases hno
  ·exact ⟨hno,by rw [List.length_append,(h.lenL hq).2];rfl⟩
 refine ⟨⟨fun p w hp=>?_,hm.nod,fun p w hw hl=>?_,fun p=>?_,hm.srt⟩,by rw [eN,eN2];simp⟩
 ·rcases hm.new p w hp with h1|⟨hno,⟨q,hq,hst,rfl⟩,hle⟩
  ·obtain ⟨a,b,c⟩:=h.min p w h1
   exact ⟨a,b,by omega⟩
  ·obtain ⟨hqM,hql⟩:=h.lenL hq
   obtain ⟨hqN,hqm,_⟩:=h.min q _ hqM
   have hl2 : (getW M q ++ [p]).length=k+2:=by rw [List.length_append,hql];rfl
   refine ⟨X5 hn hst.2,⟨hqm.1.snoc hst,fun w' hw'=>?_⟩,by omega⟩
   have hge : k+2≤w'.length:=by
    refine Nat.le_of_not_lt fun hlt=>?_
    have:=h.all p w' hw' (by omega)
    rw [hno] at this;cases this
   refine ⟨by omega,fun he=>?_⟩
   obtain ⟨u,q',rfl,hu,hst',hq',hul,hlu⟩:=hlast p w' hw' (by omega) hno
   exact aia (hle q' hq' hst') (agt hlu (by rw [(h.lenL hq').2,hul]))
 ·cases hno : M.lookup p with
  |some v=>rw [eN];exact ajM (by rw [hno];rfl)
  |none=>
   obtain ⟨u,q,rfl,hu,hst,hq,_,_⟩:=hlast p w hw hl hno
   exact hall q hq p hst
 ·rw [eN2]
  constructor
  ·intro hp
   obtain ⟨⟨y,w⟩,hy,e⟩:=List.mem_map.1 hp
   have e : y=p:=e
   subst e
   exact ⟨w,by rw [eN];exact List.mem_append_right _ hy,(hNnew y w hy).2⟩
  ·rintro ⟨w,hw,hl⟩
   rw [eN] at hw
   rcases List.mem_append.1 hw with hw|hw
   ·have:=(h.min p w hw).2.2;omega
   ·exact List.mem_map.2 ⟨_,hw,rfl⟩
theorem Fw.few {n : zK} {W : List Int} {s : Int} {k : Nat} {M : zW} {L : List Int} (h : Fw n W s k M L) : M.length≤n.length:=by
 have hsub : ∀ x ∈ (M.map Prod.fst).map Int.toNat,x ∈ List.range n.length:=fun x hx=>by
  obtain ⟨p,hp,rfl⟩:=List.mem_map.1 hx
  obtain ⟨⟨y,w⟩,hy,rfl⟩:=List.mem_map.1 hp
  have:=(h.min y w hy).1
  have h0:=this.1;have h1:=this.2
  exact List.mem_range.2 (by show y.toNat<_;omega)
 have hnd : ((M.map Prod.fst).map Int.toNat).Nodup:=by
  rw [List.Nodup,List.pairwise_map]
  refine h.nod.imp_of_mem fun {a b} ha hb hab e=>?_
  obtain ⟨⟨y,w⟩,hy,rfl⟩:=List.mem_map.1 ha
  obtain ⟨⟨z,v⟩,hz,rfl⟩:=List.mem_map.1 hb
  have h1:=(h.min y w hy).1.1
  have h2:=(h.min z v hz).1.1
  dsimp only at e hab
  omega
 have : ∀ {a b : List Nat},a.Nodup→(∀ x ∈ a,x ∈ b)→a.length≤b.length:=by
  intro a
  induction a with
  |nil=>intro b _ _;exact Nat.zero_le _
  |cons x a ih=>
   intro b hn hs
   have hn':=List.nodup_cons.1 hn
   have hx:=hs x List.mem_cons_self
   have:=ih (b:=b.erase x) hn'.2 fun y hy=>by
    have hne : y≠x:=fun e=>hn'.1 (e ▸ hy)
    exact (List.mem_erase_of_ne hne).2 (hs y (List.mem_cons_of_mem _ hy))
   rw [List.length_erase_of_mem hx] at this
   have hp : 0<b.length:=List.length_pos_of_mem hx
   rw [List.length_cons];omega
 have:=this hnd hsub
 simpa using this
theorem Fw.end {n : zK} {W : List Int} {s : Int} {k : Nat} {M : zW} (h : Fw n W s k M []) {p : Int} {w : List Int} (hw : Vw n W s w p) : (M.lookup p).isSome=true:=by
 obtain ⟨m,hm⟩ : ∃ m,w.length=m:=⟨_,rfl⟩
 induction m generalizing p w with
 |zero=>have:=hw.pos;omega
 |succ m ih=>
  rcases hw.last with ⟨rfl,rfl⟩|⟨u,q,rfl,hu,hst⟩
  ·exact h.all _ _ hw (by simp)
  ·rw [List.length_append,List.length_singleton] at hm
   obtain ⟨wq,hwq⟩:=ada (ih hu (by omega))
   obtain ⟨_,hmq,hlq⟩:=h.min q wq hwq
   have hne : wq.length≠k+1:=fun e=>by
    have:=(h.lev q).2 ⟨wq,hwq,e⟩
    cases this
   exact h.all p (wq ++ [p]) (hmq.1.snoc hst) (by rw [List.length_append,List.length_singleton];omega)
noncomputable def wayE (n : zK) (s t : Int) (W : List Int) : Option (List Int):=by
 classical exact if h : ∃ w,MinW n W s t w then some h.choose else none
theorem JO {n : zK} {W : List Int} {s t : Int} {w : List Int} : wayE n s t W=some w↔MinW n W s t w:=by
 rw [wayE]
 constructor
 ·intro h
  split at h
  ·rename_i hx;cases h;exact hx.choose_spec
  ·cases h
 ·intro h
  rw [dif_pos ⟨w,h⟩]
  congr 1
  exact MinW.one (Exists.choose_spec (⟨w,h⟩ : ∃ w,MinW n W s t w)) h
theorem aid {n : zK} {W : List Int} {s t : Int} (h : ∀ w,¬ Vw n W s w t) : wayE n s t W=none:=by
 cases hw : wayE n s t W with
 |none=>rfl
 |some w=>exact absurd (JO.1 hw).1 (h w)
theorem Fw.found {n : zK} {W : List Int} {s t : Int} {k : Nat} {M : zW} {L : List Int} (h : Fw n W s k M L) (he : L = []∨(M.lookup t).isSome=true) : M.lookup t=wayE n s t W:=by
 cases hl : M.lookup t with
 |some w=>exact (JO.2 (h.min t w ((jB h.nod).2 hl)).2.1).symm
 |none=>
  rcases he with rfl|he
  ·refine (aid fun w hw=>?_).symm
   have:=h.end hw
   rw [hl] at this;cases this
  ·rw [hl] at he;cases he
end Go.Proofs
end
section
namespace Go.Proofs
set_option linter.unusedVariables false
set_option linter.unusedSimpArgs false
end Go.Proofs
end
section
namespace Go.Proofs
set_option linter.unusedVariables false
set_option linter.unusedSimpArgs false
end Go.Proofs
end
section
namespace Go.Proofs
set_option linter.unusedVariables false
set_option linter.unusedSimpArgs false
end Go.Proofs
end
section
namespace Go.Proofs
set_option linter.unusedVariables false
set_option linter.unusedSimpArgs false
theorem abH : ∀ {l m : List Int},l.Pairwise (· < ·)→m.Pairwise (· < ·)→(∀ x,x ∈ l↔x ∈ m)→l=m
 |[],[],_,_,_=>rfl
 |[],y::m,_,_,h=>absurd ((h y).2 List.mem_cons_self) (by simp)
 |x::l,[],_,_,h=>absurd ((h x).1 List.mem_cons_self) (by simp)
 |x::l,y::m,hl,hm,h=>by
  have hl':=List.pairwise_cons.1 hl
  have hm':=List.pairwise_cons.1 hm
  have hxy : x=y:=by
   rcases List.mem_cons.1 ((h x).1 List.mem_cons_self) with e|h1
   ·exact e
   rcases List.mem_cons.1 ((h y).2 List.mem_cons_self) with e|h2
   ·exact e.symm
   have:=hl'.1 y h2;have:=hm'.1 x h1;omega
  subst hxy
  rw [abH hl'.2 hm'.2 fun z=>?_]
  constructor
  ·intro hz
   rcases List.mem_cons.1 ((h z).1 (List.mem_cons_of_mem _ hz)) with e|hz'
   ·have:=hl'.1 z hz;omega
   ·exact hz'
  ·intro hz
   rcases List.mem_cons.1 ((h z).2 (List.mem_cons_of_mem _ hz)) with e|hz'
   ·have:=hm'.1 z hz;omega
   ·exact hz'
end Go.Proofs
end
section
namespace Go.Proofs
set_option linter.unusedVariables false
set_option linter.unusedSimpArgs false
theorem Fw.runs {n : zK} (hn : qP n) {so : List Int→List Int} (hso : abG so) {W : List Int} {s : Int} : ∀ (m : Nat) {k : Nat} {M : zW} {L : List Int},Fw n W s k M L→k+1≤M.length→n.length - M.length≤m→∃ k M,Fw n W s k M []∧∀ p w,(p,w) ∈ M→w.length≤n.length
 |m,k,M,L,h,hk,hm=>by
  obtain ⟨h2,hl⟩:=h.next hn hso
  have f2:=h2.few
  generalize (rndW n so W s M L (M,[])).1=M' at *
  generalize (rndW n so W s M L (M,[])).2=L' at *
  by_cases e : L' = []
  ·subst e
   refine ⟨_,_,h2,fun p w hp=>?_⟩
   have h3:=(h2.min p w hp).2.2
   have h4 : w.length≠k+1+1:=fun e=>by
    have:=(h2.lev p).2 ⟨w,hp,e⟩
    cases this
   rw [List.length_nil] at hl
   omega
  ·have : 0<L'.length:=List.length_pos_iff.2 e
   cases m with
   |zero=>omega
   |succ m=>exact Fw.runs hn hso m h2 (by omega) (by omega)
theorem akg {n : zK} (hn : qP n) {so : List Int→List Int} (hso : abG so) {W : List Int} {s t : Int} (hs : isN n s) : ((wayE n s t W).getD []).length≤n.length:=by
 cases hw : wayE n s t W with
 |none=>exact Nat.zero_le _
 |some w=>
  obtain ⟨k,M,hF,hf⟩:=Fw.runs hn hso n.length (Fw.start (W:=W) hs) (Nat.le_refl _) (by omega)
  rw [← hF.found (.inl rfl)] at hw
  exact hf t w ((jB hF.nod).2 hw)
end Go.Proofs
end
section
namespace Go.Proofs
set_option linter.unusedVariables false
set_option linter.unusedSimpArgs false
def kW (o : OpD) : Bool:=decide (o.k=3)||decide (o.k=4)
def xr (p : PtD) : Bool:=decide (1≤p.op)&&decide (p.op≤8)
def kk (l : List OpD) : List Int:=(l.filter kW).map fun o=>o.pl.l
def zF (p : PtD) : List Int:=kk (p.a::p.b::p.args)++((if p.op=4 then [p.fr.l] else [])++(if p.op=14∨(xr p=true∧-1 ∈ p.to.ps) then [p.to.l] else []))
def Zh (p : PtD) (x : Int) : Bool:=((refOps p).any fun o=>kW o&&decide (o.pl.l=x))||((decide (p.op=4)&&decide (p.fr.l=x))||(decide (p.op=14)&&decide (x=0))||((xr p&&decide (-1 ∈ p.to.ps))&&decide (p.to.l=x)))
theorem afa {l : List OpD} {x : Int} : x ∈ kk l↔∃ o ∈ l,kW o=true∧o.pl.l=x:=by
 rw [kk,List.mem_map]
 constructor
 ·rintro ⟨o,ho,rfl⟩
  rw [List.mem_filter] at ho
  exact ⟨o,ho.1,ho.2,rfl⟩
 ·rintro ⟨o,ho,h1,rfl⟩
  exact ⟨o,List.mem_filter.2 ⟨ho,h1⟩,rfl⟩
theorem abI {p : PtD} {o : OpD} (h : kW o=true) : o ∈ refOps p↔o ∈ p.a::p.b::p.args:=by
 have hk : o.k≠0:=by
  rw [kW,Bool.or_eq_true,decide_eq_true_eq,decide_eq_true_eq] at h
  omega
 rw [refOps]
 simp only [List.mem_append,List.mem_cons]
 constructor
 ·rintro ((h1|h1)|h1)
  ·split at h1
   ·rw [List.mem_singleton] at h1;exact .inl h1
   ·cases h1
  ·split at h1
   ·rw [List.mem_singleton] at h1;exact .inr (.inl h1)
   ·cases h1
  ·exact .inr (.inr h1)
 ·rintro (h1|h1|h1)
  ·subst h1;exact .inl (.inl (by rw [if_pos hk];simp))
  ·subst h1;exact .inl (.inr (by rw [if_pos hk];simp))
  ·exact .inr h1
theorem Qq {u : UnD} {g : GrD} {p : PtD} (h : zR u g p=true) {x : Int} : Zh p x=decide (x ∈ zF p):=by
 rw [Bool.eq_iff_iff,decide_eq_true_eq,Zh,zF]
 simp only [Bool.or_eq_true,Bool.and_eq_true,decide_eq_true_eq,List.any_eq_true,List.mem_append,afa]
 refine or_congr ?_ ?_
 ·constructor
  ·rintro ⟨o,ho,h1,h2⟩;exact ⟨o,(abI h1).1 ho,h1,h2⟩
  ·rintro ⟨o,ho,h1,h2⟩;exact ⟨o,(abI h1).2 ho,h1,h2⟩
 ·rw [or_assoc]
  refine or_congr ?_ ?_
  ·split
   ·rename_i h4;simp [h4,eq_comm]
   ·rename_i h4;simp [h4]
  ·have h14 : p.op=14→p.to.l=0:=fun h14=>by
    have h2:=jA h
    rw [ptG] at h2
    simp only [h14,Int.reduceEq,if_false,if_true,or_true] at h2
    have hz : yR p.to=true:=by
     simp only [zB,x9,List.all_cons,Bool.and_eq_true,id] at h2
     simpa using h2.1
    rw [yR] at hz
    simp only [Bool.and_eq_true,decide_eq_true_eq] at hz
    exact hz.1
   split
   ·rename_i hc
    rw [List.mem_singleton]
    rcases hc with hc|hc
    ·rw [h14 hc]
     simp only [hc,true_and]
     constructor
     ·rintro (e|⟨⟨e,_⟩,_⟩)
      ·exact e
      ·rw [xr,hc] at e;simp at e
     ·exact .inl
    ·constructor
     ·rintro (⟨e,_⟩|⟨_,e⟩)
      ·rw [xr,e] at hc;simp at hc
      ·exact e.symm
     ·intro e;exact .inr ⟨hc,e.symm⟩
   ·rename_i hc
    simp only [List.not_mem_nil,iff_false]
    rintro (⟨e,_⟩|⟨e,_⟩)
    ·exact hc (.inl e)
    ·exact hc (.inr e)
def ZN (p : PtD) : Option Int:=if p.op=11 then some p.fr.l else if xr p=true∧p.to.ps = [] then some p.to.l else none
def yh (p : PtD) : Option Int:=match ZN p with|some x=>if x ∈ zF p then none else some x|none=>none
def ad9 (p : PtD) (x : Int) : Bool:=(((xr p&&decide (p.to.ps.length=0))&&decide (p.to.l=x))||(decide (p.op=11)&&decide (p.fr.l=x))) && !Zh p x
theorem afb {u : UnD} {g : GrD} {p : PtD} (h : zR u g p=true) {x : Int} : ad9 p x=decide (yh p=some x):=by
 rw [ad9,Qq h,Bool.eq_iff_iff,decide_eq_true_eq]
 simp only [Bool.or_eq_true,Bool.and_eq_true,decide_eq_true_eq,Bool.not_eq_true',decide_eq_false_iff_not]
 have hl : ZN p=some x↔((xr p=true∧p.to.ps.length=0)∧p.to.l=x)∨p.op=11∧p.fr.l=x:=by
  rw [ZN]
  split
  ·rename_i h11
   have : xr p=false:=by rw [xr,h11];rfl
   simp [h11,this]
  ·rename_i h11
   split
   ·rename_i hc
    simp [h11,hc.1,hc.2]
   ·rename_i hc
    simp only [reduceCtorEq,h11,false_and,or_false,false_iff]
    rintro ⟨⟨h1,h2⟩,_⟩
    exact hc ⟨h1,List.eq_nil_of_length_eq_zero h2⟩
 rw [← hl,yh]
 constructor
 ·rintro ⟨h1,h2⟩
  rw [h1];exact if_neg h2
 ·intro h1
  cases he : ZN p with
  |none=>rw [he] at h1;cases h1
  |some y=>
   rw [he] at h1
   simp only at h1
   split at h1
   ·cases h1
   ·rename_i hy;cases h1;exact ⟨rfl,hy⟩
def YH (g : GrD) (q : Int) : List Int:=match g.pts[q.toNat]? with|some p=>zF p|none=>[]
def ZO (g : GrD) (q : Int) : Option Int:=match g.pts[q.toNat]? with|some p=>yh p|none=>none
def Usd (g : GrD) (x q : Int) : Prop:=x ∈ YH g q
def z7 (g : GrD) (x q : Int) : Prop:=ZO g q=some x
instance {g : GrD} {x q : Int} : Decidable (Usd g x q):=inferInstanceAs (Decidable (_ ∈ _))
instance {g : GrD} {x q : Int} : Decidable (z7 g x q):=inferInstanceAs (Decidable (_=_))
inductive Lvd (g : GrD) (x : Int) : Int→Prop
 |use {q : Int} : isN (zh g) q→Usd g x q→Lvd g x q
 |step {q p : Int} : isN (zh g) q→¬ z7 g x q→p ∈ nxt (zh g) q→Lvd g x p→Lvd g x q
theorem Lvd.isN {g : GrD} {x q : Int} (h : Lvd g x q) : isN (zh g) q:=by cases h<;>assumption
end Go.Proofs
end
section
namespace Go.Proofs
set_option linter.unusedVariables false
set_option linter.unusedSimpArgs false
def isL (g : GrD) (x : Int) : Prop:=0≤x∧x<(g.tys.length : Int)
theorem YI {ss : List StD} {tys : List TyD} {p : PlD} (h : (zm ss tys p).2.2=true) : 0≤p.l∧p.l<(tys.length : Int):=by
 unfold zm at h
 split at h
 ·rename_i s hs
  by_cases h0 : p.l<0
  ·rw [if_pos h0] at hs;cases hs
  ·rw [if_neg h0] at hs
   cases ht : tys[p.l.toNat]? with
   |none=>rw [ht] at hs;cases hs
   |some t=>
    have:=(List.getElem?_eq_some_iff.1 ht).1
    omega
 ·cases h
theorem afc {u : UnD} {g : GrD} {p : PtD} (h : zR u g p=true) (ho : p.op=4∨p.op=10∨p.op=11) : (zm u.ss g.tys p.fr).2.2=true:=by
 have h2:=jA h
 cases hf : (zm u.ss g.tys p.fr).2.2 with
 |true=>rfl
 |false=>
  rw [ptG] at h2
  rcases ho with hc|hc|hc<;>simp [hc,hf] at h2
theorem ajc {u : UnD} {g : GrD} {p : PtD} (hM : MayU u) (hpos : 1≤g.tys.length) (h : zR u g p=true) : ∀ x ∈ zF p,isL g x:=fun x hx=>by
 rw [zF,List.mem_append,List.mem_append,afa] at hx
 rcases hx with ⟨o,ho,h1,rfl⟩|hx|hx
 ·have hk : o.k=3∨o.k=4:=by rw [kW,Bool.or_eq_true,decide_eq_true_eq,decide_eq_true_eq] at h1;exact h1
  have hg:=ah6 h o (by
   rw [aeV,List.mem_filter,ag5,decide_eq_true_eq]
   exact ⟨ho,by omega⟩)
  rw [zr] at hg
  have hs : (zm u.ss g.tys o.pl).2.2=true:=by
   rcases hk with hk|hk
   ·rw [if_neg (by omega),if_neg (by omega),if_pos hk] at hg
    simp only [Bool.and_eq_true] at hg
    exact hg.1.1
   ·rw [if_neg (by omega),if_neg (by omega),if_neg (by omega),if_pos hk] at hg
    simp only [Bool.and_eq_true] at hg
    exact hg.1.1.1
  exact YI hs
 ·split at hx
  ·rename_i h4
   rw [List.mem_singleton.1 hx]
   exact YI (afc h (.inl h4))
  ·cases hx
 ·split at hx
  ·rename_i hc
   rw [List.mem_singleton.1 hx]
   by_cases ha : xr p=true
   ·rw [xr,Bool.and_eq_true,decide_eq_true_eq,decide_eq_true_eq] at ha
    exact YI (aeT h ha)
   ·have h14 : p.op=14:=hc.resolve_right fun h=>ha h.1
    have h2:=jA h
    rw [ptG] at h2
    simp only [h14,Int.reduceEq,if_false,if_true,or_true] at h2
    have hz : yR p.to=true:=by
     simp only [zB,x9,List.all_cons,Bool.and_eq_true,id] at h2
     simpa using h2.1
    rw [yR,Bool.and_eq_true,decide_eq_true_eq] at hz
    exact ⟨by omega,by omega⟩
  ·cases hx
structure GrF (g : GrD) : Prop where
 uses : ∀ p ∈ g.pts,∀ x ∈ zF p,isL g x
 few : g.tys.length≤512
theorem ajd {g : GrD} (hG : GrF g) {q x : Int} (h : x ∈ YH g q) : isL g x:=by
 rw [YH] at h
 split at h
 ·rename_i p hp
  exact hG.uses p (List.mem_of_getElem? hp) x h
 ·cases h
noncomputable def lvM (g : GrD) (x : Int) : List Bool:=by
 classical exact (List.range (zh g).length).map fun (i : Nat)=>decide (Lvd g x i)
theorem xM {g : GrD} {x : Int} : (lvM g x).length=(zh g).length:=by simp [lvM]
theorem abJ {g : GrD} {x q : Int} (hq : isN (zh g) q) : mk' (lvM g x) q=true↔Lvd g x q:=by
 have q0:=hq.1;have q1:=hq.2
 rw [mk',lvM,List.getD_eq_getElem?_getD,List.getElem?_map,List.getElem?_range (by omega)]
 simp [show ((q.toNat : Nat) : Int)=q by omega]
abbrev yX:=List (List Bool)
def km (R : yX) (x : Int) : List Bool:=R.getD x.toNat []
def mkR (R : yX) (x q : Int) : Bool:=mk' (km R x) q
def ZP (R : yX) (x q : Int) : yX:=R.set x.toNat (xH (km R x) q)
def xw (R : yX) : Nat:=(R.map off).sum
theorem aje {R : yX} {x q : Int} : (ZP R x q).length=R.length:=List.length_set
theorem afd {R : yX} {x q y : Int} (hx : 0≤x) (hx2 : x<R.length) (hy : 0≤y) : km (ZP R x q) y=if y=x then xH (km R x) q else km R y:=by
 rw [km,ZP,List.getD_eq_getElem?_getD,List.getElem?_set]
 by_cases h : y=x
 ·subst h;rw [if_pos rfl,if_pos (by omega),if_pos rfl];rfl
 ·rw [if_neg (by omega),if_neg h,km,List.getD_eq_getElem?_getD]
theorem afe : ∀ {l : List Nat} {k v : Nat},k<l.length→(l.set k v).sum+l.getD k 0=l.sum+v
 |[],_,_,h=>absurd h (Nat.not_lt_zero _)
 |a::l,0,v,_=>by simp;omega
 |a::l,k+1,v,h=>by
  have:=afe (l:=l) (k:=k) (v:=v) (by simpa using h)
  simp only [List.set_cons_succ,List.sum_cons,List.getD_cons_succ]
  omega
theorem ajf {R : yX} {x q : Int} (hx : 0≤x) (hx2 : x<R.length) (hq : q.toNat<(km R x).length) (h : mkR R x q=false) : xw (ZP R x q)+1=xw R:=by
 have h1:=agp hq h
 have h2:=afe (l:=R.map off) (k:=x.toNat) (v:=off (xH (km R x) q)) (by rw [List.length_map];omega)
 have h3 : (R.map off).getD x.toNat 0=off (km R x):=by
  rw [List.getD_eq_getElem?_getD,List.getElem?_map,km,List.getD_eq_getElem?_getD,List.getElem?_eq_getElem (by omega)];rfl
 rw [h3] at h2
 rw [xw,ZP,List.map_set]
 show ((R.map off).set x.toNat (off (xH (km R x) q))).sum+1=(R.map off).sum
 omega
def kF (st : yX × List (Int × Int)) (w : Int × Int) : yX × List (Int × Int):=if mkR st.1 w.2 w.1 then st else (ZP st.1 w.2 w.1,st.2 ++ [w])
structure Wk (g : GrD) (PU : Int→Int→Prop) (PE : Int→Int→Int→Prop) (R : yX) (T : List (Int × Int)) : Prop where
 len : R.length=g.tys.length
 rlen : ∀ x,isL g x→(km R x).length=(zh g).length
 sound : ∀ x q,isL g x→isN (zh g) q→mkR R x q=true→Lvd g x q
 todo : ∀ w ∈ T,isL g w.2∧isN (zh g) w.1∧mkR R w.2 w.1=true
 base : ∀ x q,isL g x→isN (zh g) q→Usd g x q→mkR R x q=true∨PU x q
 back : ∀ x p q,isL g x→isN (zh g) p→mkR R x p=true→isN (zh g) q→p ∈ nxt (zh g) q→¬ z7 g x q→(p,x) ∈ T∨mkR R x q=true∨PE x p q
theorem Wk.start {g : GrD} : Wk g (fun x q=>Usd g x q) (fun _ _ _=>False) (List.replicate g.tys.length (List.replicate (zh g).length false)) []:=by
 have hrow : ∀ x,isL g x→km (List.replicate g.tys.length (List.replicate (zh g).length false)) x=List.replicate (zh g).length false:=fun x hx=>by
  have:=hx.1;have:=hx.2
  rw [km,List.getD_eq_getElem?_getD,List.getElem?_replicate,if_pos (by omega)];rfl
 have hno : ∀ x q,isL g x→mkR (List.replicate g.tys.length (List.replicate (zh g).length false)) x q=false:=fun x q hx=>by
  rw [mkR,hrow x hx,mk',List.getD_eq_getElem?_getD,List.getElem?_replicate]
  split<;>rfl
 refine ⟨List.length_replicate,fun x hx=>by rw [hrow x hx,List.length_replicate],fun x q hx hq h=>?_,fun w hw=>(by cases hw),fun x q hx hq h=>.inr h,fun x p q hx hp h=>?_⟩
 ·rw [hno x q hx] at h;cases h
 ·rw [hno x p hx] at h;cases h
theorem Wk.mono {g : GrD} {PU PU' : Int→Int→Prop} {PE PE' : Int→Int→Int→Prop} {R : yX} {T : List (Int × Int)} (h : Wk g PU PE R T) (hu : ∀ x q,isL g x→isN (zh g) q→Usd g x q→PU x q→PU' x q∨mkR R x q=true)
  (he : ∀ x p q,isL g x→isN (zh g) q→p ∈ nxt (zh g) q→¬ z7 g x q→PE x p q→PE' x p q∨mkR R x q=true) : Wk g PU' PE' R T:=
 ⟨h.len,h.rlen,h.sound,h.todo,fun x q hx hq hh=>(h.base x q hx hq hh).elim .inl fun k=>(hu x q hx hq hh k).symm,fun x p q hx hp hm hq hpq hE=>by
  rcases h.back x p q hx hp hm hq hpq hE with k|k|k
  ·exact .inl k
  ·exact .inr (.inl k)
  ·rcases he x p q hx hq hpq hE k with k|k
   ·exact .inr (.inr k)
   ·exact .inr (.inl k)⟩
theorem Wk.add {g : GrD} {PU : Int→Int→Prop} {PE : Int→Int→Int→Prop} {R : yX} {T : List (Int × Int)} (h : Wk g PU PE R T) {x q : Int} (hx : isL g x) (hq : isN (zh g) q) (hl : Lvd g x q) :
  Wk g PU PE (kF (R,T) (q,x)).1 (kF (R,T) (q,x)).2∧mkR (kF (R,T) (q,x)).1 x q=true∧(∀ y p,isL g y→isN (zh g) p→mkR R y p=true→mkR (kF (R,T) (q,x)).1 y p=true)∧
   (kF (R,T) (q,x)).2.length+xw (kF (R,T) (q,x)).1=T.length+xw R:=by
 rw [kF]
 dsimp only
 by_cases hm : mkR R x q=true
 ·rw [if_pos hm]
  exact ⟨h,hm,fun y p _ _ h=>h,rfl⟩
 ·rw [if_neg hm]
  have x0:=hx.1;have x1:=hx.2;have q0:=hq.1;have q1:=hq.2
  have hlx:=h.rlen x hx
  have hRl:=h.len
  have hmk : ∀ y p,isL g y→isN (zh g) p→mkR (ZP R x q) y p=(decide (y=x∧p=q)||mkR R y p):=fun y p hy hp=>by
   rw [mkR,afd x0 (by omega) hy.1]
   by_cases e : y=x
   ·subst e
    rw [if_pos rfl,ah8 q0 (by omega) hp.1]
    simp [mkR]
   ·rw [if_neg e];simp [e,mkR]
  dsimp only
  refine ⟨⟨by rw [aje];exact hRl,fun y hy=>?_,fun y p hy hp hh=>?_,fun w hw=>?_,fun y p hy hp hh=>?_,fun y p r hy hp hh hr hpr hE=>?_⟩,?_,fun y p hy hp hh=>?_,?_⟩
  ·rw [afd x0 (by omega) hy.1]
   split
   ·rw [ae7];exact hlx
   ·exact h.rlen y hy
  ·rw [hmk y p hy hp,Bool.or_eq_true,decide_eq_true_eq] at hh
   rcases hh with ⟨rfl,rfl⟩|hh
   ·exact hl
   ·exact h.sound y p hy hp hh
  ·rcases List.mem_append.1 hw with hw|hw
   ·obtain ⟨h1,h2,h3⟩:=h.todo w hw
    exact ⟨h1,h2,by rw [hmk _ _ h1 h2,h3,Bool.or_true]⟩
   ·rw [List.mem_singleton.1 hw]
    exact ⟨hx,hq,by rw [hmk _ _ hx hq];simp⟩
  ·rcases h.base y p hy hp hh with k|k
   ·exact .inl (by rw [hmk _ _ hy hp,k,Bool.or_true])
   ·exact .inr k
  ·rw [hmk y p hy hp,Bool.or_eq_true,decide_eq_true_eq] at hh
   rcases hh with ⟨rfl,rfl⟩|hh
   ·exact .inl (List.mem_append_right _ (List.mem_singleton.2 rfl))
   ·rcases h.back y p r hy hp hh hr hpr hE with k|k|k
    ·exact .inl (List.mem_append_left _ k)
    ·exact .inr (.inl (by rw [hmk _ _ hy hr,k,Bool.or_true]))
    ·exact .inr (.inr k)
  ·rw [hmk _ _ hx hq];simp
  ·rw [hmk _ _ hy hp,hh,Bool.or_true]
  ·have:=ajf x0 (by omega) (by rw [hlx];omega) (Bool.eq_false_iff.2 hm)
   rw [List.length_append,List.length_singleton]
   omega
theorem Wk.pop {g : GrD} {PU : Int→Int→Prop} {R : yX} {T : List (Int × Int)} {p x : Int} (h : Wk g PU (fun _ _ _=>False) R (T ++ [(p,x)])) :
  Wk g PU (fun y r q=>y=x∧r=p∧q ∈ ahd (zh g) p) R T∧isL g x∧isN (zh g) p∧Lvd g x p:=by
 obtain ⟨h1,h2,h3⟩:=h.todo (p,x) (by simp)
 refine ⟨⟨h.len,h.rlen,h.sound,fun w hw=>h.todo w (List.mem_append_left _ hw),h.base,fun y r q hy hr hh hq hpq hE=>?_⟩,h1,h2,h.sound _ _ h1 h2 h3⟩
 rcases h.back y r q hy hr hh hq hpq hE with k|k|k
 ·rcases List.mem_append.1 k with k|k
  ·exact .inl k
  ·cases List.mem_singleton.1 k
   exact .inr (.inr ⟨rfl,rfl,acw.2 ⟨hq,hpq⟩⟩)
 ·exact .inr (.inl k)
 ·exact k.elim
theorem Wk.end {g : GrD} (hn : qP (zh g)) {R : yX} (h : Wk g (fun _ _=>False) (fun _ _ _=>False) R []) {x : Int} (hx : isL g x) : km R x=lvM g x:=by
 refine ac9 (by rw [h.rlen x hx,xM]) fun q q0 q1=>?_
 rw [h.rlen x hx] at q1
 have hq : isN (zh g) q:=⟨q0,q1⟩
 rw [Bool.eq_iff_iff,abJ hq]
 constructor
 ·exact h.sound x q hx hq
 ·intro hl
  clear q0 q1 hq
  induction hl with
  |use hN hu=>exact (h.base x _ hx hN hu).elim id False.elim
  |@step q p hN he hp hl ih=>
   rcases h.back x p q hx (Lvd.isN hl) ih hN hp he with k|k|k
   ·cases k
   ·exact k
   ·exact k.elim
theorem akh {g : GrD} (hn : qP (zh g)) {R : yX} (h : Wk g (fun _ _=>False) (fun _ _ _=>False) R []) : R=(List.range g.tys.length).map fun (x : Nat)=>lvM g x:=by
 refine List.ext_getElem (by rw [h.len];simp) fun x h1 h2=>?_
 rw [List.length_map,List.length_range] at h2
 have:=h.end hn (x:=(x : Int)) ⟨by omega,by omega⟩
 rw [km,List.getD_eq_getElem?_getD,Int.toNat_natCast,List.getElem?_eq_getElem h1] at this
 simpa using this
def xd (g : GrD) (x : Int) (m : List Bool) (q : Int) : Bool:=decide (Usd g x q)||(!decide (z7 g x q)&&(nxt (zh g) q).any fun p=>mk' m p)
structure Rnd (g : GrD) (x : Int) (m : List Bool) : Prop where
 len : m.length=(zh g).length
 sound : ∀ q,isN (zh g) q→mk' m q=true→Lvd g x q
theorem Rnd.start {g : GrD} {x : Int} : Rnd g x (List.replicate (zh g).length false):=⟨List.length_replicate,fun q hq h=>by
 rw [mk',List.getD_eq_getElem?_getD,List.getElem?_replicate] at h
 split at h<;>cases h⟩
theorem Rnd.must {g : GrD} (hn : qP (zh g)) {x q : Int} {m : List Bool} (h : Rnd g x m) (hq : isN (zh g) q) (hm : xd g x m q=true) : Lvd g x q:=by
 rw [xd,Bool.or_eq_true,decide_eq_true_eq,Bool.and_eq_true,List.any_eq_true,Bool.not_eq_true',decide_eq_false_iff_not] at hm
 rcases hm with hm|⟨he,p,hp,hm⟩
 ·exact .use hq hm
 ·exact .step hq he hp (h.sound p (X5 hn hp) hm)
theorem Rnd.set {g : GrD} (hn : qP (zh g)) {x q : Int} {m : List Bool} (h : Rnd g x m) (hq : isN (zh g) q) (hm : xd g x m q=true) : Rnd g x (xH m q):=
 ⟨by rw [ae7];exact h.len,fun p hp hh=>by
  have q0:=hq.1;have q1:=hq.2;have hl:=h.len
  rw [ah8 q0 (by omega) hp.1,Bool.or_eq_true,decide_eq_true_eq] at hh
  rcases hh with rfl|hh
  ·exact h.must hn hq hm
  ·exact h.sound p hp hh⟩
theorem Rnd.end {g : GrD} {x : Int} {m : List Bool} (h : Rnd g x m) (hf : ∀ q,isN (zh g) q→xd g x m q=true→mk' m q=true) : m=lvM g x:=by
 refine ac9 (by rw [h.len,xM]) fun q q0 q1=>?_
 rw [h.len] at q1
 have hq : isN (zh g) q:=⟨q0,q1⟩
 rw [Bool.eq_iff_iff,abJ hq]
 constructor
 ·exact h.sound q hq
 ·intro hl
  clear q0 q1 hq
  induction hl with
  |use hN hu=>exact hf _ hN (by rw [xd,decide_eq_true hu];rfl)
  |@step q p hN he hp hl ih=>
   refine hf _ hN ?_
   rw [xd,decide_eq_false he,Bool.not_false,Bool.true_and,List.any_eq_true.2 ⟨p,hp,ih⟩,Bool.or_true]
end Go.Proofs
end
section
namespace Go.Proofs
set_option linter.unusedVariables false
set_option linter.unusedSimpArgs false
def ptsW (g : GrD) (P : Int→Prop) [DecidablePred P] : List Int:=((List.range (zh g).length).filter fun (p : Nat)=>decide (P (p : Int))).map Int.ofNat
theorem aff {g : GrD} {P : Int→Prop} [DecidablePred P] {p : Int} : p ∈ ptsW g P↔isN (zh g) p∧P p:=by
 rw [ptsW,List.mem_map]
 constructor
 ·rintro ⟨i,hi,rfl⟩
  rw [List.mem_filter,List.mem_range,decide_eq_true_eq] at hi
  exact ⟨⟨Int.natCast_nonneg i,by have:=hi.1;show ((i : Nat) : Int)<_;omega⟩,hi.2⟩
 ·rintro ⟨h1,h2⟩
  have h0:=h1.1;have h3:=h1.2
  have e : ((p.toNat : Nat) : Int)=p:=by omega
  exact ⟨p.toNat,by rw [List.mem_filter,List.mem_range,decide_eq_true_eq,e];exact ⟨by omega,h2⟩,e⟩
theorem afg {g : GrD} {P : Int→Prop} [DecidablePred P] : (ptsW g P).length≤(zh g).length:=by
 rw [ptsW,List.length_map]
 exact Nat.le_trans (List.length_filter_le ..) (by simp)
def ltB : List Int→List Int→Bool
 |x::a,y::b=>decide (x<y)||(decide (x=y)&&ltB a b)
 |_,_=>false
def ahe (b : Option (List Int)) (w : List Int) : Bool:=match b with|none=>true|some v=>decide (w.length<v.length)||(decide (w.length=v.length)&&ltB w v)
noncomputable def vU (n : zK) (W : List Int) (q : Int) (stop : Bool) (b : Option (List Int)) (p : Int) : Option (List Int):=
 if p≠q∧stop=true then b else match wayE n q p W with|some w=>if ahe b w=true then some w else b|none=>b
noncomputable def afh (g : GrD) (x q : Int) : Option (List Int):=(ptsW g (Usd g x)).foldl (vU (zh g) (ptsW g (z7 g x)) q (decide (z7 g x q))) none
noncomputable def xx (g : GrD) (q : Int) : List Bool:=(List.range g.tys.length).map fun (x : Nat)=>mk' (lvM g x) q
theorem afi {g : GrD} {q : Int} : (xx g q).length=g.tys.length:=by simp [xx]
noncomputable def ahf (g : GrD) (q : Int) : List Int:=mkd (xx g q)
theorem afZ {g : GrD} (hn : qP (zh g)) {x q : Int} (hq : isN (zh g) q) (h : xd g x (lvM g x) q=true) : mk' (lvM g x) q=true:=by
 rw [abJ hq]
 rw [xd,Bool.or_eq_true,decide_eq_true_eq,Bool.and_eq_true,List.any_eq_true,Bool.not_eq_true',decide_eq_false_iff_not] at h
 rcases h with h|⟨he,p,hp,h⟩
 ·exact .use hq h
 ·exact .step hq he hp ((abJ (X5 hn hp)).1 h)
end Go.Proofs
end
section
namespace Go.Proofs
open Go.Sh Go.BM
set_option linter.unusedVariables false
set_option linter.unusedSimpArgs false
def yj (m : List Bool) : List (BitVec 64):=xJ (fun x y=>x ||| y) (List.replicate ((m.length+63) / 64) 0#64) (mkd m)
theorem aie {m : List Bool} : agT m.length (mkd m):=fun k hk=>by
 obtain ⟨h1,h2⟩:=acv.1 hk
 have:=alE h2
 omega
theorem agu {n : Nat} (h : n≤1032) : BM.May n (List.replicate ((n+63) / 64) 0#64):=by
 have:=ahB (W:=(n : Int)) (by omega) (by omega)
 rwa [Int.toNat_natCast] at this
theorem afj {m : List Bool} (h : m.length≤1032) : BM.May m.length (yj m):=VM (h:=fun a b=>a||b) aen (by simp) _ _ (agu h) aie
theorem ajg {m : List Bool} (h : m.length≤1032) (k : Nat) : bit (yj m) k=m.getD k false:=by
 rw [yj,aa0 _ _ (agu h) aie,ahC,Bool.false_or,Bool.eq_iff_iff,decide_eq_true_eq,acv]
 rw [mk',Int.toNat_natCast]
 exact ⟨fun h=>h.2,fun h=>⟨by omega,h⟩⟩
theorem qw {m : List Bool} : (yj m).length=(m.length+63) / 64:=by rw [yj,vK,List.length_replicate]
def xZ (W : Nat) (ws : List (BitVec 64)) : List Bool:=(List.range W).map fun k=>bit ws k
theorem afk {W : Nat} {ws : List (BitVec 64)} : (xZ W ws).length=W:=by simp [xZ]
theorem afl {W : Nat} {ws : List (BitVec 64)} {k : Nat} (h : k<W) : (xZ W ws).getD k false=bit ws k:=by
 rw [xZ,List.getD_eq_getElem?_getD,List.getElem?_map,List.getElem?_range h];rfl
theorem aki {W : Nat} {ws : List (BitVec 64)} {q : Int} (h0 : 0≤q) (h : q<W) : mk' (xZ W ws) q=bit ws q.toNat:=afl (by omega)
theorem aaJ {m : List Bool} (h : m.length≤1032) : xZ m.length (yj m)=m:=by
 refine List.ext_getElem afk fun k h1 h2=>?_
 have:=afl (ws:=yj m) h2
 rw [ajg h,List.getD_eq_getElem?_getD,List.getD_eq_getElem?_getD,List.getElem?_eq_getElem h1,List.getElem?_eq_getElem h2] at this
 exact this
end Go.Proofs
end
section
namespace Go.Sh
open Go.RowKit
section
variable {P : Program} {X : Nat→Prop} {w0 w : World} {r : Gh} {L : List Asr} {e : TypeId} {sz m : Nat} {xs : List Value} {g : Asr→List Asr}
theorem StX.cutRow {p : Option Addr} {cap n : Nat} (S : StX X w0 r w L) [h : kY (.slice p m cap) L e sz m xs g] (hn : n≤m) : StX X w0 r w (g (.row (.slice p n cap) e sz n (xs.take (n*sz)))):=by
 obtain ⟨pp,qq,h2,h3⟩:=h.h
 have hr:=S.has (.row (.slice p m cap) e sz m xs) (by rw [h2];simp)
 rw [h3]
 rw [h2] at S
 rcases qD hr with ⟨hv,h0,hx⟩|⟨b,cap',c,hv,hb,B,hm,hM,hc,ht⟩
 ·cases hv
  have : n=0:=by omega
  subst this
  subst hx
  refine S.turn (x:=.row (.slice none 0 0) e sz 0 []) (y:=.row (.slice none 0 0) e sz 0 ([].take (0*sz))) (ExtBut.refl _ _) ?_ fun k hk=>.inl hk
  simpa using hr
 ·cases hv
  refine S.turn (x:=.row (.slice (some ⟨b,0,none⟩) m cap) e sz m xs) (y:=.row (.slice (some ⟨b,0,none⟩) n cap) e sz n (xs.take (n*sz))) (ExtBut.refl _ _) ?_ fun k hk=>.inl hk
  have:=Z6 (base:=0) (e:=e) (size:=sz) (n:=n) (Nat.zero_le _) B (by omega) hM hc
  rw [← ht,List.take_take,Nat.min_eq_left (Nat.mul_le_mul_right _ hn)]
  exact this
end
end Go.Sh
end
section
namespace Go.Proofs.Tryz
open Go.Sh
set_option maxRecDepth 100000
def qg (t0 t1 : Value) (w : World) (K : VW) : Prop:=
 ca xX #[t0,t1] w fun t7 w1=>
 bt .geq 3 t7 (i6 0) fun t8=>K t8 w1
theorem ZQ {t0 t1 : Value} {w : World} {K : VW} (h : qg t0 t1 w K) : zd prog xo #[t0,t1] w K:=
 okC false (.s (.r (rz 1 0 0)) (.s (.r (rz 5 0 32)) (.n))) func59 rfl (by kernel_rfl) (by kernel_rfl) h
def jh (t0 t1 : Value) (w : World) (K : VW) : Prop:=
 pp (Builtin.len_ #[32] 3 #[t0]) fun t7=>zo [(i6 0)] w (fun s2 _d3 w4 K1=>
 bf .lss 3 (s2.getD 0 undef) t7 fun t9=>zc t9 (xl w4 32 t0 (s2.getD 0 undef) 3 fun t15=>bf .eql 3 t1 t15 fun t16=>zc t16 (K (s2.getD 0 undef) w4) (bt .add 3 (s2.getD 0 undef) (i6 1) fun t18=>K1 [t18] w4)) (K (i6 (-1)) w4))
theorem YV {t0 t1 : Value} {w : World} {K : VW} (h : jh t0 t1 w K) : zd prog xX #[t0,t1] w K:=
 okC false (.s (.r (rz 1 0 0)) (.s (.s (.r (rz 3 0 0)) (.b (.lp [8] (.s (.r (rz 1 0 0)) (.s (.c (.n) (.n)) (.s (.b (.s (.r (rz 2 0 0)) (.s (.r (rz 6 0 256)) (.c (.s (.r (rz 2 0 0)) (.n)) (.n))))) (.r (rz 2 0 0)))))))) (.s (.r (rz 1 0 0)) (.n)))) func81 rfl (by kernel_rfl) (by kernel_rfl) h
end Go.Proofs.Tryz
end
section
namespace Go.Proofs
open Go.Sh Go.RowKit
set_option maxRecDepth 100000
set_option linter.unusedSimpArgs false
set_option linter.unusedVariables false
def JP (c : List Value) (x : Bool) : Prop:=c = [.bool x]
def bls (m : List Bool) : List Value:=m.map Value.bool
theorem X6 {m : List Bool} : (bls m).length=m.length:=List.length_map _
theorem Xo {m : List Bool} : RowOf 1 JP (bls m) m:=⟨by rw [X6,Nat.mul_one],fun j hj=>by
 rw [Nat.mul_one,bls,← List.map_drop,← List.map_take,List.drop_eq_getElem_cons hj];rfl⟩
theorem yO {l : List Int} : RowOf 1 zU (ints l) l:=⟨by rw [jx,Nat.mul_one],fun j hj=>by
 rw [Nat.mul_one,ints,← List.map_drop,← List.map_take,List.drop_eq_getElem_cons hj];rfl⟩
theorem afm {α : Type} {r : Gh} {V : α→Value} {p : Option Addr} {n cap : Nat} {l : List α} (h : SlG 1 r (fun c x=>c = [V x]) (.slice p n cap) l) {i : Nat} (hi : i<l.length) :
  ∃ b off,p=some ⟨b,off,none⟩∧n=l.length∧Ob r fun w=>w.cell? ⟨b,off+i,none⟩=some (V l[i]):=by
 have hsh:=h.shape
 obtain ⟨p',cap',e,_,_⟩:=hsh
 obtain ⟨b,off,c,hE,hc,hcc,hcl⟩:=h.get (by decide) hi
 obtain rfl : c=_:=hcc
 cases e
 cases hE
 refine ⟨b,off,rfl,rfl,?_⟩
 have:=hcl 0 _ rfl
 rwa [show off+i*1+0=off+i by omega] at this
theorem yr {r : Gh} {p : Option Addr} {n cap : Nat} {l : List Int} (h : SlG 1 r zU (.slice p n cap) l) {i : Nat} (hi : i<l.length) : ∃ b off,p=some ⟨b,off,none⟩∧n=l.length∧Ob r fun w=>w.cell? ⟨b,off+i,none⟩=some (.int .i64 l[i]):=afm (V:=Value.int .i64) h hi
theorem Vn {r : Gh} {p : Option Addr} {n cap : Nat} {l : List Bool} (h : SlG 1 r JP (.slice p n cap) l) {i : Nat} (hi : i<l.length) : ∃ b off,p=some ⟨b,off,none⟩∧n=l.length∧Ob r fun w=>w.cell? ⟨b,off+i,none⟩=some (.bool l[i]):=afm (V:=Value.bool) h hi
theorem af0 {l : List Int} {x : Int} {v : Value} {w : World} {r : Gh} {K : Value→World→Prop} (hr : Holds r w) (hl : SlG 1 r zU v l) (hf : l.length≤maxLen)
  (h : ∀ i : Int,(0≤i↔x ∈ l)→K (.int .i64 i) w) : zd Tryz.prog Tryz.xX #[v,.int .i64 x] w K:=by
 refine Tryz.YV ?_
 unfold Tryz.jh
 obtain ⟨p,cap,rfl,_,_⟩:=hl.shape
 have hf : l.length≤9223372036854775807:=hf
 refine gp_ ?_
 refine zi (ι:=Nat) (fun i=>[.int .i64 (i : Nat)]) (fun i w'=>w'=w∧i≤l.length∧x ∉ l.take i) (fun i=>l.length - i) 0 rfl ⟨rfl,Nat.zero_le _,by simp⟩ ?_
 rintro i d w' ⟨rfl,hi,hn⟩ K1 hK1
 simp only [List.getD_cons_zero]
 refine gp_ ?_
 refine zk (fun hlt=>?_) (fun hge=>?_)
 ·have hlt : i<l.length:=by omega
  obtain ⟨b,off,rfl,_,hc⟩:=yr hl hlt
  refine gp_ ?_
  refine zg (by rw [Int.toNat_natCast];exact hc _ hr) ?_
  refine gp_ ?_
  refine zk (fun he=>?_) (fun he=>?_)
  ·exact h _ ⟨fun _=>by rw [he];exact List.getElem_mem hlt,fun _=>Int.natCast_nonneg _⟩
  ·refine gp_ ?_
   refine hK1 (i+1) _ ⟨rfl,hlt,?_⟩ (by omega)
   rw [List.take_succ_eq_append_getElem hlt,List.mem_append,List.mem_singleton]
   exact fun h=>h.elim hn he
 ·have : i=l.length:=by omega
  subst this
  rw [List.take_length] at hn
  exact h _ ⟨fun h=>by omega,fun h=>absurd h hn⟩
theorem acA {l : List Int} {x : Int} {v : Value} {w : World} {r : Gh} {K : Value→World→Prop} (hr : Holds r w) (hl : SlG 1 r zU v l) (hf : l.length≤maxLen)
  (h : K (.bool (decide (x ∈ l))) w) : zd Tryz.prog Tryz.xo #[v,.int .i64 x] w K:=by
 refine Tryz.ZQ ?_
 unfold Tryz.qg
 refine af0 hr hl hf fun i hi=>?_
 refine gp_ ?_
 have e : decide (0≤i)=decide (x ∈ l):=by
  rw [decide_eq_decide];exact hi
 rw [e];exact h
theorem V2 {l : List Int} {v : Value} {w0 w : World} {r : Gh} {L : List Asr} {X : Nat→Prop} {K : Value→World→Prop} (S : StX X w0 r w L) (hl : SlG 1 r zU v l) (hf : l.length≤1000000)
  (h : ∀ v' w',StX X w0 r w' (.row v' 3 1 l.length (ints l)::L)→K v' w') : zd Tryz.prog Tryz.xY #[v] w K:=by
 obtain ⟨p,cap,rfl,hp,_⟩:=hl.shape
 by_cases h0 : l = []
 ·subst h0
  cases p with
  |none=>
   have:=hp rfl;subst this
   refine Calls.mono (Any.slices_Clone_int_nil Tryz.JK 0 0 w) ?_
   rintro e w' ⟨rfl,rfl⟩
   exact ⟨_,rfl,h _ _ (S.ownNil 3 1)⟩
  |some a=>
   refine Calls.mono (Any.slices_Clone_int_zero Tryz.JK a cap w) ?_
   rintro e w' ⟨v',rfl,ho,_,hB⟩
   have hE : Ext w w':=⟨hB.os,hB.tape,hB.output,hB.size,hB.block⟩
   exact ⟨_,rfl,h _ _ (S.take hE ho)⟩
 ·obtain ⟨b,off,rfl,_,_⟩:=yr hl (i:=0) (List.length_pos_iff.2 h0)
  refine Calls.mono (Any.slices_Clone_int Tryz.JK b off l.length cap l w (Nat.le_refl _) (by omega) fun j hj=>?_) ?_
  ·obtain ⟨b',off',hE,_,hc⟩:=yr hl hj
   cases hE
   rw [S.at hc,List.getD_eq_getElem?_getD,List.getElem?_eq_getElem hj];rfl
  rintro e w' ⟨v',rfl,ho,_,hB⟩
  have hE : Ext w w':=⟨hB.os,hB.tape,hB.output,hB.size,hB.block⟩
  rw [List.take_length] at ho
  exact ⟨_,rfl,h _ _ (S.take hE ho)⟩
end Go.Proofs
end
section
namespace Go.Proofs.Tryz
open Go.Sh
set_option maxRecDepth 100000
def abK (t0 t1 t2 t3 t4 : Value) (w : World) (K : VW) : Prop:=
 pw w (Instr.box 25 t0) fun t5 w1=>
 lo w1 25 t5 fun t23=>ca Jb #[t23,t1] w1 fun t25 w2=>
 pe t25 0 fun t26=>pe t25 1 fun t27=>bt .neq 29 t27 (i6 0) fun t29=>za (fun K3=>gIf t29 false (pw w2 (Instr.buildSlice 32 2 #[(0,t2),(1,t3)]) fun t34 w7=>
 ca qG #[t26,t34] w7 fun t35 w8=>
 pp (Op.unary .not t35) fun t36=>K3 [t36] w8) (K3 [undef] w2)) (fun s4 _d5 w6=>
 zb t29 tr_ (s4.getD 0 undef) fun t37=>za (fun K9=>gIf t37 false (ca qG #[t26,t4] w6 fun t41 w13=>
 pp (Op.unary .not t41) fun t42=>K9 [t42] w13) (K9 [undef] w6)) (fun s10 _d11 w12=>
 zb t37 tr_ (s10.getD 0 undef) fun t43=>zc t43 (K (.tuple #[(Value.slice Option.none 0 0),fa_,(i6 2)]) w12) (pw w12 (Instr.makeMap 120 none) fun t44 w14=>
 pw w14 (Instr.buildSlice 32 1 #[(0,t2)]) fun t47 w15=>
 pu w15 (Instr.mapUpdate 120 t44 t2 t47) fun w16=>pw w16 (Instr.buildSlice 32 1 #[(0,t2)]) fun t50 w17=>
 zo [t50] w17 (fun s19 _d20 w21 K18=>
 pp (Builtin.len_ #[32] 3 #[(s19.getD 0 undef)]) fun t52=>bt .gtr 3 t52 (i6 0) fun t53=>za (fun K22=>gIf t53 true (pq w21 (Instr.lookup 120 t44 t3 false) fun t57=>bt .eql 32 t57 (Value.slice Option.none 0 0) fun t58=>K22 [t58] w21) (K22 [undef] w21)) (fun s23 _d24 w25=>
 zb t53 (s23.getD 0 undef) fa_ fun t59=>zc t59 (pp (Builtin.len_ #[32] 3 #[(s19.getD 0 undef)]) fun t61=>zo [(Value.slice Option.none 0 0),(i6 0)] w25 (fun s27 _d28 w29 K26=>
 bf .lss 3 (s27.getD 1 undef) t61 fun t63=>zc t63 (za (fun K30=>
 xl w29 32 (s19.getD 0 undef) (s27.getD 1 undef) 3 fun t65=>bf .neq 3 t65 t2 fun t68=>za (fun K34=>gIf t68 true (ca xo #[t4,t65] w29 fun t72 w38=>
 K34 [t72] w38) (K34 [undef] w29)) (fun s35 _d36 w37=>
 zb t68 (s35.getD 0 undef) fa_ fun t73=>zc t73 (K30 [(s27.getD 0 undef)] w37) (xl w37 116 t26 t65 32 fun t77=>ca xY #[t77] w37 fun t78 w39=>
 ca ke #[t78] w39 fun _t80 w40=>
 pp (Builtin.len_ #[32] 3 #[t78]) fun t82=>zo [(s27.getD 0 undef),(i6 0)] w40 (fun s42 _d43 w44 K41=>
 bf .lss 3 (s42.getD 1 undef) t82 fun t84=>zc t84 (za (fun K45=>
 xl w44 32 t78 (s42.getD 1 undef) 3 fun t86=>pq w44 (Instr.lookup 120 t44 t86 false) fun t89=>bt .eql 32 t89 (Value.slice Option.none 0 0) fun t90=>zc t90 (pq w44 (Instr.lookup 120 t44 t65 false) fun t95=>ca xY #[t95] w44 fun t96 w49=>
 pw w49 (Instr.buildSlice 32 1 #[(0,t86)]) fun t98 w50=>
 pw w50 (Builtin.append_ #[32,32] 32 #[t96,t98]) fun t99 w51=>
 pu w51 (Instr.mapUpdate 120 t44 t86 t99) fun w52=>pw w52 (Instr.buildSlice 32 1 #[(0,t86)]) fun t102 w53=>
 pw w53 (Builtin.append_ #[32,32] 32 #[(s42.getD 0 undef),t102]) fun t103 w54=>
 K45 [t103] w54) (K45 [(s42.getD 0 undef)] w44)) (fun s46 _d47 w48=>
 bt .add 3 (s42.getD 1 undef) (i6 1) fun t104=>K41 [(s46.getD 0 undef),t104] w48)) (K30 [(s42.getD 0 undef)] w44))))) (fun s31 _d32 w33=>
 bt .add 3 (s27.getD 1 undef) (i6 1) fun t105=>K26 [(s31.getD 0 undef),t105] w33)) (K18 [(s27.getD 0 undef)] w29))) (pq w25.drew (Instr.lookup 120 t44 t3 false) fun t109=>pq w25.drew (Instr.lookup 120 t44 t3 false) fun t112=>bt .neq 32 t112 (Value.slice Option.none 0 0) fun t113=>K (.tuple #[t109,t113,(i6 0)]) w25.drew))))))
theorem af1 {t0 t1 t2 t3 t4 : Value} {w : World} {K : VW} (h : abK t0 t1 t2 t3 t4 w K) : zd prog Qc #[t0,t1,t2,t3,t4] w K:=
 okC false (.s (.r (rz 4 0 2)) (.s (.r (rz 8 0 33)) (.s (.s (.r (ra 3 0 0 (.grp 30 false (ri 6 3 640) [36] (ra 2 9 0 (.grp 38 false (ri 4 11 32) [42] (rz 1 15 0)))))) (.c (.s (.r (rz 3 0 0)) (.n)) (.n))) (.s (.r (rz 7 0 642)) (.s (.r (rz 3 0 8)) (.s (.b (.lp [15] (.s (.s (.r (ra 4 0 0 (.grp 54 true (ri 4 4 16) [58] (rz 1 8 0)))) (.c (.n) (.n))) (.b (.s (.r (rz 1 0 0)) (.s (.s (.r (rz 3 0 0)) (.b (.lp [16,62] (.s (.r (rz 1 0 0)) (.s (.c (.n) (.n)) (.j [16] (.b (.s (.r (rz 3 0 4)) (.s (.s (.r (ra 4 0 0 (.grp 69 true (ri 3 4 32) [72] (rz 1 7 0)))) (.c (.n) (.n))) (.s (.r (rz 6 0 576)) (.s (.r (rz 2 0 8)) (.s (.r (rz 3 0 0)) (.b (.lp [16,83] (.s (.r (rz 1 0 0)) (.s (.c (.n) (.n)) (.j [16] (.b (.s (.r (rz 3 0 4)) (.s (.r (rz 4 0 16)) (.c (.s (.r (rz 10 0 690432)) (.r (rz 5 0 160))) (.n))))) (.r (rz 2 0 0))))))))))))) (.r (rz 2 0 0)))))))) (.r (rz 2 0 0)))))))) (.s (.r (rz 10 0 1040)) (.n)))))))) func40 rfl (by kernel_rfl) (by kernel_rfl) h
def adb (t0 t1 : Value) (w : World) (K : VW) : Prop:=
 pw w (Instr.box 25 t0) fun t2 w1=>
 bt .lss 3 t1 (i6 0) fun t10=>za (fun K2=>gIf t10 false (fl w1 t2 25 1 23 fun t14=>pp (Builtin.len_ #[23] 3 #[t14]) fun t15=>bf .geq 3 t1 t15 fun t16=>K2 [t16] w1) (K2 [undef] w1)) (fun s3 _d4 w5=>
 zb t10 tr_ (s3.getD 0 undef) fun t17=>za (fun K6=>gIf t17 false (lo w5 25 t2 fun t19=>ca Zc #[t19] w5 fun t20 w10=>
 pp (Op.unary .not t20) fun t21=>K6 [t21] w10) (K6 [undef] w5)) (fun s7 _d8 w9=>
 zb t17 tr_ (s7.getD 0 undef) fun t22=>zc t22 (K (.tuple #[(Value.slice Option.none 0 0),(i6 2)]) w9) (fl w9 t2 25 1 23 fun t24=>px 23 t24 t1 fun t26=>fl w9 t26 43 6 41 fun t28=>pp (Builtin.len_ #[41] 3 #[t28]) fun t29=>zo [(Value.slice Option.none 0 0),(i6 0)] w9 (fun s12 _d13 w14 K11=>
 bf .lss 3 (s12.getD 1 undef) t29 fun t31=>zc t31 (za (fun K15=>
 xl w14 41 t28 (s12.getD 1 undef) 64 fun t33=>pw w14 (Instr.alloc 64 true (.tuple #[])) fun t8 w19=>
 so w19 64 t8 t33 fun w20=>fl w20 t8 64 0 55 fun t42=>bt .eql 55 t42 (Value.int .u8 14) fun t43=>zc t43 (pw w20 (Instr.buildSlice 116 1 #[(0,(Value.slice Option.none 0 0))]) fun t45 w21=>
 pw w21 (Builtin.append_ #[116,116] 116 #[(s12.getD 0 undef),t45]) fun t46 w22=>
 K15 [t46] w22) (fl w20 t8 64 0 55 fun t49=>bt .eql 55 t49 (Value.int .u8 12) fun t50=>za (fun K23=>gIf t50 true (fl w20 t8 64 11 3 fun t53=>fl w20 t8 64 10 3 fun t55=>bf .neq 3 t53 t55 fun t56=>K23 [t56] w20) (K23 [undef] w20)) (fun s24 _d25 w26=>
 zb t50 (s24.getD 0 undef) fa_ fun t57=>zc t57 (fl w26 t8 64 10 3 fun t60=>fl w26 t8 64 11 3 fun t62=>pw w26 (Instr.buildSlice 32 2 #[(0,t60),(1,t62)]) fun t63 w27=>
 pw w27 (Instr.buildSlice 116 1 #[(0,t63)]) fun t64 w28=>
 pw w28 (Builtin.append_ #[116,116] 116 #[(s12.getD 0 undef),t64]) fun t65 w29=>
 K15 [t65] w29) (fl w26 t8 64 10 3 fun t36=>pw w26 (Instr.buildSlice 32 1 #[(0,t36)]) fun t37 w30=>
 pw w30 (Instr.buildSlice 116 1 #[(0,t37)]) fun t38 w31=>
 pw w31 (Builtin.append_ #[116,116] 116 #[(s12.getD 0 undef),t38]) fun t39 w32=>
 K15 [t39] w32)))) (fun s16 _d17 w18=>
 bt .add 3 (s12.getD 1 undef) (i6 1) fun t66=>K11 [(s16.getD 0 undef),t66] w18)) (K (.tuple #[(s12.getD 0 undef),(i6 0)]) w14)))))
theorem ahg {t0 t1 : Value} {w : World} {K : VW} (h : adb t0 t1 w K) : zd prog Jb #[t0,t1] w K:=
 okC false (.s (.r (rz 3 0 2)) (.s (.s (.r (ra 3 0 0 (.grp 11 false (ri 5 3 16) [16] (ra 2 8 0 (.grp 18 false (ri 3 10 9) [21] (rz 1 13 0)))))) (.c (.s (.r (rz 2 0 0)) (.n)) (.n))) (.s (.r (rz 1 0 0)) (.s (.s (.r (rz 8 0 1028)) (.b (.lp [6,30] (.s (.r (rz 1 0 0)) (.s (.c (.n) (.n)) (.j [6] (.b (.s (.r (rz 4 0 164)) (.b (.s (.r (rz 4 0 4)) (.c (.r (rz 4 0 40)) (.s (.r (ra 4 0 4 (.grp 51 true (ri 5 4 68) [56] (rz 2 9 0)))) (.c (.r (rz 9 0 43280)) (.r (rz 7 0 2704))))))))) (.r (rz 2 0 0)))))))) (.s (.r (rz 3 0 0)) (.n)))))) func57 rfl (by kernel_rfl) (by kernel_rfl) h
def X7 (t0 t1 : Value) (w : World) (K : VW) : Prop:=
 pw w (Instr.box 116 t0) fun t2 w1=>
 pp (Instr.makeFunc (.func 80) #[] #[t2]) fun t6=>ca zP #[t1,t6] w1 fun t7 w2=>
 pp (Op.unary .not t7) fun t8=>K t8 w2
theorem abL {t0 t1 : Value} {w : World} {K : VW} (h : X7 t0 t1 w K) : zd prog qG #[t0,t1] w K:=
 okC false (.s (.r (rz 2 0 2)) (.s (.r (rz 5 0 32)) (.n))) func58 rfl (by kernel_rfl) (by kernel_rfl) h
def YJ (t0 t1 : Value) (w : World) (K : VW) : Prop:=
 bt .lss 3 t0 (i6 0) fun t5=>za (fun K1=>gIf t5 false (lo w 116 t1 fun t8=>pp (Builtin.len_ #[116] 3 #[t8]) fun t9=>bf .geq 3 t0 t9 fun t10=>K1 [t10] w) (K1 [undef] w)) (fun s2 _d3 w4=>
 zb t5 tr_ (s2.getD 0 undef) fun t11=>K t11 w4)
theorem VC {t0 t1 : Value} {w : World} {K : VW} (h : YJ t0 t1 w K) : zd prog aah #[t0,t1] w K:=
 okC false (.s (.r (rz 1 0 0)) (.s (.r (ra 3 0 0 (.grp 6 false (ri 4 3 4) [10] (rz 2 7 0)))) (.n))) func80 rfl (by kernel_rfl) (by kernel_rfl) h
end Go.Proofs.Tryz
end
section
namespace Go.Proofs
open Go.Sh Go.RowKit
set_option maxRecDepth 100000
set_option linter.unusedSimpArgs false
set_option linter.unusedVariables false
theorem Vo {r : Gh} {p : Option Addr} {k cap : Nat} {n : zK} (h : NetG r (.slice p k cap) n) {i : Nat} (hi : i<n.length) : ∃ b off v,p=some ⟨b,off,none⟩∧k=n.length∧(Ob r fun w=>w.cell? ⟨b,off+i,none⟩=some v)∧SlB 1 r zU v n[i]:=by
 obtain ⟨p',cap',e,_,_⟩:=h.sl.shape
 obtain ⟨b,off,c,hE,hc,hcc,hcl⟩:=h.sl.get (by decide) hi
 obtain ⟨v,rfl,hv⟩:=hcc
 cases e
 cases hE
 refine ⟨b,off,v,rfl,rfl,?_,hv⟩
 have:=hcl 0 _ rfl
 rwa [show off+i*1+0=off+i by omega] at this
theorem ajN {n : zK} {l : List Int} {v u : Value} {w : World} {r : Gh} {K : Value→World→Prop} (hr : Holds r w) (hn : NetG r v n) (hl : SlG 1 r zU u l) (hf : l.length≤1000000)
  (h : ∀ w',Ext w w'→K (.bool (decide (∀ x ∈ l,isN n x))) w') : zd Tryz.prog Tryz.qG #[v,u] w K:=by
 refine Tryz.abL ?_
 unfold Tryz.X7
 obtain ⟨p,cap,rfl,_,_⟩:=hn.sl.shape
 obtain ⟨q,cap',rfl,_,_⟩:=hl.shape
 have S:=St.start hr
 refine S.box fun b2 w1 S=>?_
 have S : StX noX w r w1 [.cell b2 [.slice p n.length cap] 116]:=S
 refine gp_ ?_
 have hsl : Sl w1 q (ints l):=fun i v hv=>by
  have hi : i<l.length:=by
   have:=(List.getElem?_eq_some_iff.1 hv).1
   rwa [jx] at this
  obtain ⟨b,off,rfl,_,hc⟩:=yr hl hi
  rw [ints,List.getElem?_map,List.getElem?_eq_getElem hi] at hv
  cases hv
  exact ⟨b,off,rfl,S.at hc⟩
 refine vD (f:=fun x=>!decide (isN n x)) (fun x K hK=>?_) hsl (by omega) ?_
 ·refine Qf (by kernel_rfl) ?_
  refine Tryz.VC ?_
  unfold Tryz.YJ
  refine gg_ ?_
  refine zj (c:=decide ((n.length : Int)≤x)) (fun _ K2 hK2=>by refine gg_ ?_;exact hK2) ?_
  have e : (decide (x<0)||decide ((n.length : Int)≤x)) = !decide (isN n x):=by
   by_cases hx : isN n x
   ·have h1:=hx.1;have h2:=hx.2
    rw [decide_eq_true hx,decide_eq_false (by omega),decide_eq_false (by omega)];rfl
   ·rw [decide_eq_false hx]
    by_cases h1 : x<0
    ·rw [decide_eq_true h1];rfl
    ·have h2 : (n.length : Int)≤x:=by
      refine Int.not_lt.1 fun h2=>hx ⟨by omega,h2⟩
     rw [decide_eq_true h2,Bool.or_true];rfl
  rw [e];exact hK
 refine gp_ ?_
 have:=h _ S.ext
 have e : (decide (∀ x ∈ l,isN n x)) = !(l.any fun x=>!decide (isN n x)):=by
  rw [Bool.eq_iff_iff]
  simp
 rwa [e] at this
theorem vV {m : List Bool} {i : Nat} (hi : i<m.length) : mkd (m.take (i+1))=mkd (m.take i)++(if m[i]=true then [(i : Int)] else []):=by
 have hl : (m.take (i+1)).length=i+1:=by rw [List.length_take];omega
 have hl' : (m.take i).length=i:=by rw [List.length_take];omega
 rw [mkd,mkd,hl,hl',List.range_succ,List.filter_append,List.map_append]
 congr 1
 ·congr 1
  refine List.filter_congr fun x hx=>?_
  have:=List.mem_range.1 hx
  rw [List.getD_eq_getElem?_getD,List.getD_eq_getElem?_getD,List.getElem?_take,List.getElem?_take,if_pos (by omega),if_pos this]
 ·have e : (m.take (i+1)).getD i false=m[i]:=by
   rw [List.getD_eq_getElem?_getD,List.getElem?_take,if_pos (by omega),List.getElem?_eq_getElem hi];rfl
  cases hm : m[i] with
  |true=>rw [List.filter_cons_of_pos (by rw [e,hm])];simp
  |false=>rw [List.filter_cons_of_neg (by rw [e,hm];simp)];simp
theorem xU {l : List Int} {x : Int} : ints (l ++ [x])=ints l ++ [.int .i64 x]:=by simp [ints]
end Go.Proofs
end
section
namespace Go.Proofs
open Go.Sh Go.RowKit
set_option maxRecDepth 100000
set_option linter.unusedSimpArgs false
set_option linter.unusedVariables false
set_option maxHeartbeats 1000000 in
theorem aif {u : UnD} {n : Int} {v : Value} {w : World} {r : Gh} {K : Value→World→Prop} (hr : Holds r w) (hu : UnG r v u)
  (h : ∀ v' s w',Ext w w'→New w s w'→(fnE u n=0→∃ hn : n.toNat<u.fs.length,NetG s v' (zh u.fs[n.toNat]))→K (.tuple #[v',.int .i64 (fnE u n)]) w') : zd Tryz.prog Tryz.Jb #[v,.int .i64 n] w K:=by
 refine Tryz.ahg ?_
 unfold Tryz.adb
 have hu0:=hu
 obtain ⟨p0,cap0,vf,rfl,_,_,hst,hsl,hfn⟩:=hu
 obtain ⟨qf,capf,rfl,_,_⟩:=hfn.sl.shape
 have S:=St.start hr
 refine S.box fun b2 w1 S=>?_
 have S : StX noX w r w1 [.cell b2 [.slice p0 u.ss.length cap0,.slice qf u.fs.length capf,.int .i64 u.mn] 25]:=S
 refine gp_ ?_
 refine zj (c:=decide ((u.fs.length : Int)≤n)) (fun _ K2 hK2=>by refine gg_ ?_;exact hK2) ?_
 refine yP (c:=!vS u) (fun _ K2 hK2=>?_) fun w5 e5=>?_
 ·refine S.ldB (b:=b2) ?_ rfl
  refine VY S.holds hu0 fun w5 e5=>?_
  refine gp_ ?_
  exact hK2 _ e5
 have S:=S.go e5
 refine c_b (fun hbad=>?_) (fun hgood=>?_)
 ·have hE : fnE u n=2:=by rw [fnE,if_pos hbad]
  rw [hE] at h
  exact h _ nothing _ S.ext New.nothing (fun h=>by cases h)
 have hE : fnE u n=0:=by rw [fnE,if_neg (by rw [hgood];simp)]
 rw [hE] at h
 obtain ⟨hM,hn0,hlt⟩:=Jv hE
 simp only [Bool.or_eq_false_iff,decide_eq_false_iff_not,Bool.not_eq_false'] at hgood
 obtain ⟨⟨_,hn1⟩,_⟩:=hgood
 obtain ⟨bf,of,cf,hqE,hcf,hgc,hfo⟩:=hfn.sl.get (by decide) hlt
 cases hqE
 have hp24:=(hM.hd hlt).pt1024
 generalize hg : u.fs[n.toNat]=g at hgc hp24
 obtain ⟨x1,x2,x3,x4,y1,y2,y3,y4,rfl,hg0⟩:=Ye hgc
 obtain ⟨_,_,_,_,hEE,m1,m2,m3,m4⟩:=id hg0
 cases hEE
 refine gg_ ?_
 refine zg (S.at (hfo 6 _ rfl)) ?_
 refine gg_ ?_
 have S:=S.ownNil 32 1
 refine zi (ι:=Nat × Value × Gh × List Value) (fun i=>[i.2.1,.int .i64 (i.1 : Nat)])
  (fun i w'=>i.1≤g.pts.length∧Above w i.2.2.1∧RowOf 1 (RowC i.2.2.1) i.2.2.2 ((zh g).take i.1)∧StX noX w (r.or i.2.2.1) w' [.row i.2.1 32 1 i.1 i.2.2.2,.cell b2 [.slice p0 u.ss.length cap0,.slice (some ⟨bf,of,none⟩) u.fs.length capf,.int .i64 u.mn] 25])
  (fun i=>g.pts.length - i.1) (0,.slice none 0 0,nothing,[]) rfl ⟨Nat.zero_le _,Above.no,by simpa using RowOf.nil,S.to _⟩ ?_
 repeat clear S
 rintro ⟨i,vr,s,xs⟩ d w6 ⟨hi,ha,hR,S⟩ K11 hK11
 simp only at hi ha hR S ⊢
 simp only [List.getD_cons_zero,List.getD_cons_succ]
 refine gg_ ?_
 refine zk (fun hlt2=>?_) (fun hge=>?_)
 ·have hlt2 : i<g.pts.length:=by omega
  have hil : i<(zh g).length:=by rw [z6];exact hlt2
  obtain ⟨bp,op,cp,hqp,hcp,hpc,hpo⟩:=m4.sl.get (by decide) hlt2
  cases hqp
  have hni : (zh g)[i]=xg g.pts[i]:=by simp [zh]
  have htk : (zh g).take (i+1)=(zh g).take i ++ [xg g.pts[i]]:=by rw [List.take_succ_eq_append_getElem hil,hni]
  generalize g.pts[i]=p at hpc htk
  obtain ⟨z1,z2,z3,z4,z5,t1,t2,t3,t4,t5,rfl,hp0⟩:=xf hpc
  refine zp (fun x w'=>∃ vq s' xs',x = [vq]∧Above w s'∧RowOf 1 (RowC s') xs' ((zh g).take (i+1))∧StX noX w (r.or s') w' [.row vq 32 1 (i+1) xs',.cell b2 [.slice p0 u.ss.length cap0,.slice (some ⟨bf,of,none⟩) u.fs.length capf,.int .i64 u.mn] 25]) (fun K15 hK15=>?_) ?_
  ·refine gg_ ?_
   refine zq (n:=21) hcp (fun j v hj=>by rw [Int.toNat_natCast];exact S.at (hpo j v hj)) ?_
   refine S.al fun b8 w7 S=>?_
   refine S.stB (b:=b8) fun w8 S=>?_
   have S : StX noX w (r.or s) w8 [.cell b8 (ptL p z1 z2 z3 z4 z5 t1 t2 t3 t4 t5) 64,.row vr 32 1 i xs,.cell b2 [.slice p0 u.ss.length cap0,.slice (some ⟨bf,of,none⟩) u.fs.length capf,.int .i64 u.mn] 25]:=S
   refine gg_ ?_
   refine zk (fun h14=>?_) (fun h14=>?_)
   ·have hnp : xg p = []:=by rw [xg,if_pos h14]
    have S:=S.drop b8
    refine S.lit (e:=32) (cs:=[.slice none 0 0]) (by kernel_rfl) fun b9 w9 S=>?_
    refine S.ap (v:=vr) (m':=1) (Sl.blk (S.blk b9)) (fun v4 w10 S=>?_) (by omega)
    refine hK15 _ _ ⟨v4,s,xs ++ [.slice none 0 0],rfl,ha,?_,S.drop b9⟩
    rw [htk,hnp]
    exact hR.snoc rfl ⟨_,rfl,SlG.nil,Nat.zero_le _⟩
   ·refine gg_ ?_
    refine zf (c:=decide (p.el≠p.nx)) (fun _ K2 hK2=>by refine gg_ ?_;exact hK2) ?_
    refine c_b (fun hc=>?_) (fun hc=>?_)
    ·simp only [Bool.and_eq_true,decide_eq_true_eq] at hc
     have hnp : xg p = [p.nx,p.el]:=by rw [xg,if_neg h14,if_pos ⟨hc.1,fun e=>hc.2 e.symm⟩]
     refine gg_ ?_
     have S:=S.drop b8
     refine S.lit (e:=3) (cs:=[.int .i64 p.nx,.int .i64 p.el]) (by kernel_rfl) fun b9 w9 S=>?_
     obtain ⟨S,hs,hb9⟩:=S.litNew b9 (sz:=1) (R:=zU) (l:=[p.nx,p.el]) (yH (c:=[.int .i64 p.nx]) rfl rfl (yq rfl rfl)) (by decide)
     refine S.lit (e:=32) (cs:=[.slice (some ⟨b9,0,none⟩) 2 2]) (by kernel_rfl) fun b10 w10 S=>?_
     refine S.ap (v:=vr) (m':=1) (Sl.blk (S.blk b10)) (fun v4 w11 S=>?_) (by omega)
     refine hK15 _ _ ⟨v4,s.or (Go.Sh.one b9 [.int .i64 p.nx,.int .i64 p.el] 3),_,rfl,ha.or' hb9,?_,(S.drop b10).reGh⟩
     rw [htk,hnp]
     exact (hR.mono fun _ _ h=>RowC.up h).snoc rfl ⟨_,rfl,(show SlG 1 (Go.Sh.one b9 [.int .i64 p.nx,.int .i64 p.el] 3) zU _ _ from hs).cells,show (2 : Nat)≤maxLen by decide⟩
    ·have hnp : xg p = [p.nx]:=by
      simp only [Bool.and_eq_false_iff,decide_eq_false_iff_not] at hc
      rw [xg,if_neg h14,if_neg (by rintro ⟨h1,h2⟩;rcases hc with hc|hc;exact hc h1;exact hc fun e=>h2 e.symm)]
     refine gg_ ?_
     have S:=S.drop b8
     refine S.lit (e:=3) (cs:=[.int .i64 p.nx]) (by kernel_rfl) fun b9 w9 S=>?_
     obtain ⟨S,hs,hb9⟩:=S.litNew b9 (sz:=1) (R:=zU) (l:=[p.nx]) (yq rfl rfl) (by decide)
     refine S.lit (e:=32) (cs:=[.slice (some ⟨b9,0,none⟩) 1 1]) (by kernel_rfl) fun b10 w10 S=>?_
     refine S.ap (v:=vr) (m':=1) (Sl.blk (S.blk b10)) (fun v4 w11 S=>?_) (by omega)
     refine hK15 _ _ ⟨v4,s.or (Go.Sh.one b9 [.int .i64 p.nx] 3),_,rfl,ha.or' hb9,?_,(S.drop b10).reGh⟩
     rw [htk,hnp]
     exact (hR.mono fun _ _ h=>RowC.up h).snoc rfl ⟨_,rfl,hs.cells,show (1 : Nat)≤maxLen by decide⟩
  rintro x w9 ⟨vq,s',xs',rfl,ha',hR',S⟩ d
  simp only [List.getD_cons_zero]
  refine gp_ ?_
  exact hK11 (i+1,vq,s',xs') _ ⟨hlt2,ha',hR',S⟩ (by show g.pts.length - (i+1)<g.pts.length - i;omega)
 have hie : i=g.pts.length:=by omega
 subst hie
 rw [← z6,List.take_length] at hR
 rw [← z6] at S
 obtain ⟨s2,T,hs,_,hab⟩:=S.doneRow hR (by decide) rfl
 refine h _ (s.or s2) _ T.ext (StX.newOf (q:=s.or s2) T.reGh (ha.or' fun b o ho=>(hab b o ho).resolve_right id)) fun _=>⟨hlt,?_⟩
 rw [hg]
 exact ⟨hs.up' inferInstance fun _ _ h=>RowC.up h,by rw [z6];exact Nat.le_trans hp24 (by decide)⟩
theorem agv {m : List Bool} {q : Int} (h : 0≤q) : (bls m).set (0+q.toNat) (.bool true)=bls (xH m q):=by
 rw [Nat.zero_add,bls,bls,xH,List.map_set]
theorem ak4 {m : List Bool} {q : Int} (h : q.toNat<m.length) : (bls m)[0+q.toNat]? = some (.bool (mk' m q)):=by
 rw [Nat.zero_add,bls,List.getElem?_map,mk',List.getD_eq_getElem?_getD,List.getElem?_eq_getElem h];rfl
theorem Vp {k : Nat} : List.replicate k (Value.bool false)=bls (List.replicate k false):=by simp [bls]
end Go.Proofs
end
section
namespace Go.Proofs
open Go.Sh Go.RowKit
set_option maxRecDepth 100000
set_option linter.unusedSimpArgs false
set_option linter.unusedVariables false
def alV (n : zK) : Prop:=∀ l ∈ n,l.length≤2
theorem Qr {l : List (Int × Int)} {p : Int × Int} : qH (l ++ [p])=qH l ++ [.int .i64 p.1,.int .i64 p.2]:=by rw [aeG];rfl
end Go.Proofs
end
section
namespace Go.Sh
end Go.Sh
namespace Go.Proofs
open Go.Sh Go.RowKit
set_option maxRecDepth 100000
set_option linter.unusedSimpArgs false
set_option linter.unusedVariables false
end Go.Proofs
end
section
namespace Go.Proofs
open Go.Sh Go.RowKit
set_option maxRecDepth 100000
set_option linter.unusedSimpArgs false
set_option linter.unusedVariables false
theorem agw {a m : List Bool} {i : Nat} (hl : a.length=m.length) (hi : i<m.length) : (bls (a.take i++m.drop i)).set (0+i) (.bool (a[i]'(by omega)))=bls (a.take (i+1)++m.drop (i+1)):=by
 have hia : i<a.length:=by omega
 have e1 : (a.take i).length=i:=by rw [List.length_take];omega
 rw [Nat.zero_add,bls,bls,← List.map_set,List.set_append_right _ _ (by omega),e1,Nat.sub_self,List.drop_eq_getElem_cons hi,List.set_cons_zero,List.take_succ_eq_append_getElem hia,List.append_assoc];rfl
end Go.Proofs
end
section
namespace Go.Proofs
open Go.Sh Go.RowKit
set_option maxRecDepth 100000
set_option linter.unusedSimpArgs false
set_option linter.unusedVariables false
def netU (u : UnD) (n : Int) : zK:=match u.fs[n.toNat]? with|some g=>zh g|none=>[]
noncomputable def okQ (u : UnD) (n q : Int) : Bool:=!(decide (fnE u n≠0) || !decide (isN (netU u n) q))
theorem akj {u : UnD} {n : Int} (h : fnE u n≠0) : fnE u n=2:=by
 rw [fnE] at h ⊢
 split
 ·rfl
 ·rename_i hc;rw [if_neg hc] at h;exact absurd rfl h
structure ajh (n : zK) : Prop where
 ok : qP n
 nd : ∀ q,(nxt n q).Nodup
 nar : alV n
 pos : 0<n.length
 few : n.length≤1024
theorem j8 {u : UnD} {n : Int} (h : fnE u n=0) : ∃ hlt : n.toNat<u.fs.length,netU u n=zh u.fs[n.toNat]∧ajh (netU u n):=by
 obtain ⟨hM,hn0,hlt⟩:=Jv h
 have e : netU u n=zh u.fs[n.toNat]:=by rw [netU,List.getElem?_eq_getElem hlt]
 refine ⟨hlt,e,?_⟩
 rw [e]
 obtain ⟨h1,h2⟩:=ai9 hM hlt
 exact ⟨akf hM (List.getElem_mem hlt),fun q=>ahb,fun l hl=>by obtain ⟨p,_,rfl⟩:=List.mem_map.1 hl;exact ah9,h1,h2⟩
end Go.Proofs
end
section
namespace Go.Proofs
open Go.Sh
set_option maxRecDepth 100000
abbrev Tryz.ky : FuncId:=20
instance {x0_0 : Value} {x0_1 : Value} {x0_2 : Value} {x0_3 : Value} {x0_4 : Value} {x0_5 : Value} {x0_6 : Value} : PStep Tryz.prog (Instr.build 99 #[(0,.agg #[x0_0,x0_1,x0_2,x0_3,x0_4,x0_5,x0_6])]) (.agg #[x0_0,x0_1,x0_2,x0_3,x0_4,x0_5,x0_6,(.slice none 0 0)]):=.of fun _ k=>zy (by kernel_rfl) k
instance : zE Tryz.prog 99 0 0:=⟨by kernel_rfl⟩
instance : zE Tryz.prog 99 1 7:=⟨by kernel_rfl⟩
instance : Ld1 Tryz.prog 97:=⟨by kernel_rfl⟩
instance : SzT Tryz.prog 97 1:=⟨by kernel_rfl⟩
instance : SlT Tryz.prog 97 32 1:=⟨by kernel_rfl⟩
instance : ApT Tryz.prog 97 32 1 24:=⟨by kernel_rfl⟩
abbrev Tryz.yV : FuncId:=23
abbrev Tryz.qQ : FuncId:=50
abbrev Tryz.xy : FuncId:=24
abbrev Tryz.xz : FuncId:=39
abbrev Tryz.JQ : FuncId:=56
instance : Ld1 Tryz.prog 73:=⟨by kernel_rfl⟩
instance : SzT Tryz.prog 73 1:=⟨by kernel_rfl⟩
abbrev Tryz.xA : FuncId:=28
abbrev Tryz.kG : FuncId:=21
instance : Ld1 Tryz.prog 44:=⟨by kernel_rfl⟩
instance : SzT Tryz.prog 44 1:=⟨by kernel_rfl⟩
instance : SlT Tryz.prog 44 52 1:=⟨by kernel_rfl⟩
instance : ApT Tryz.prog 44 52 1 24:=⟨by kernel_rfl⟩
instance : ZrT Tryz.prog 52 [(.slice none 0 0)]:=⟨by kernel_rfl⟩
instance : ZrT Tryz.prog 44 [(.slice none 0 0)]:=⟨by kernel_rfl⟩
instance : Ld1 Tryz.prog 105:=⟨by kernel_rfl⟩
instance : SzT Tryz.prog 105 1:=⟨by kernel_rfl⟩
instance : SlT Tryz.prog 105 107 2:=⟨by kernel_rfl⟩
instance : LdN Tryz.prog 107 2:=⟨by kernel_rfl⟩
instance : SzT Tryz.prog 107 2:=⟨by kernel_rfl⟩
instance : ZrT Tryz.prog 105 [(.slice none 0 0)]:=⟨by kernel_rfl⟩
instance : Ld1 Tryz.prog 108:=⟨by kernel_rfl⟩
instance : SzT Tryz.prog 108 1:=⟨by kernel_rfl⟩
instance : ZrT Tryz.prog 108 [.nilFunc]:=⟨by kernel_rfl⟩
instance : ZrT Tryz.prog 107 [(.int .i64 0),(.int .i64 0)]:=⟨by kernel_rfl⟩
instance : zE Tryz.prog 107 0 0:=⟨by kernel_rfl⟩
instance : zE Tryz.prog 107 1 1:=⟨by kernel_rfl⟩
abbrev Tryz.zD : FuncId:=48
instance : ApT Tryz.prog 105 107 2 16:=⟨by kernel_rfl⟩
abbrev Tryz.JR : FuncId:=49
abbrev Tryz.jQ : FuncId:=6
instance : LdN Tryz.prog 49 2:=⟨by kernel_rfl⟩
instance : SzT Tryz.prog 49 2:=⟨by kernel_rfl⟩
instance : ZrT Tryz.prog 49 [(.int .i64 0),(.slice none 0 0)]:=⟨by kernel_rfl⟩
instance : zE Tryz.prog 49 1 1:=⟨by kernel_rfl⟩
instance : Ld1 Tryz.prog 47:=⟨by kernel_rfl⟩
instance : SlT Tryz.prog 47 53 1:=⟨by kernel_rfl⟩
instance : Ld1 Tryz.prog 53:=⟨by kernel_rfl⟩
instance : SzT Tryz.prog 53 1:=⟨by kernel_rfl⟩
instance : SlT Tryz.prog 28 49 2:=⟨by kernel_rfl⟩
instance : ApT Tryz.prog 28 49 2 32:=⟨by kernel_rfl⟩
abbrev Tryz.Zi : FuncId:=8
abbrev Tryz.adR : FuncId:=25
abbrev Tryz.Zj : FuncId:=9
abbrev Tryz.Xp : FuncId:=7
abbrev Tryz.Qs : FuncId:=18
instance : ZrT Tryz.prog 73 [(.pointer none)]:=⟨by kernel_rfl⟩
abbrev Tryz.JS : FuncId:=38
abbrev Tryz.ZR : FuncId:=19
abbrev Tryz.Xq : FuncId:=43
instance : zE Tryz.prog 49 0 0:=⟨by kernel_rfl⟩
abbrev Tryz.Xr : FuncId:=45
abbrev Tryz.ZS : FuncId:=34
abbrev Tryz.qy : FuncId:=15
abbrev Tryz.j9 : FuncId:=16
abbrev Tryz.YK : FuncId:=11
abbrev Tryz.YL : FuncId:=3
abbrev Tryz.YM : FuncId:=4
abbrev Tryz.xN : FuncId:=5
instance : ZrT Tryz.prog 25 [(.slice none 0 0),(.slice none 0 0),(.int .i64 0)]:=⟨by kernel_rfl⟩
abbrev Tryz.kp : FuncId:=13
abbrev Tryz.YN : FuncId:=17
instance : ZrT Tryz.prog 58 [(.int .i64 0),(.slice none 0 0)]:=⟨by kernel_rfl⟩
instance : ApT Tryz.prog 40 9 1 16:=⟨by kernel_rfl⟩
instance : ZrT Tryz.prog 9 [(.string ByteArray.empty)]:=⟨by kernel_rfl⟩
abbrev Tryz.xt : FuncId:=35
abbrev Tryz.kQ : FuncId:=36
abbrev Tryz.zt : FuncId:=37
abbrev Tryz.XF : FuncId:=12
abbrev Tryz.vc : FuncId:=14
abbrev Tryz.Qt : FuncId:=31
abbrev Tryz.Qu : FuncId:=22
instance : ApT Tryz.prog 47 53 1 8:=⟨by kernel_rfl⟩
instance : ZrT Tryz.prog 53 [(.int .u64 0)]:=⟨by kernel_rfl⟩
abbrev Tryz.Qv : FuncId:=44
abbrev Tryz.yu : FuncId:=51
abbrev Tryz.yI : FuncId:=65
abbrev Tryz.xB : FuncId:=41
abbrev Tryz.yn : FuncId:=42
abbrev Tryz.yB : FuncId:=62
end Go.Proofs
end
section
namespace Go.Proofs.Tryz
open Go.Sh
set_option maxRecDepth 100000
def adc (t0 t1 : Value) (w : World) (K : VW) : Prop:=
 pw w (Instr.box 25 t0) fun t2 w1=>
 bt .lss 3 t1 (i6 0) fun t11=>za (fun K2=>gIf t11 false (fl w1 t2 25 1 23 fun t15=>pp (Builtin.len_ #[23] 3 #[t15]) fun t16=>bf .geq 3 t1 t16 fun t17=>K2 [t17] w1) (K2 [undef] w1)) (fun s3 _d4 w5=>
 zb t11 tr_ (s3.getD 0 undef) fun t18=>za (fun K6=>gIf t18 false (lo w5 25 t2 fun t20=>ca Zc #[t20] w5 fun t21 w10=>
 pp (Op.unary .not t21) fun t22=>K6 [t22] w10) (K6 [undef] w5)) (fun s7 _d8 w9=>
 zb t18 tr_ (s7.getD 0 undef) fun t23=>zc t23 (K (.tuple #[(Value.pointer Option.none),(i6 2)]) w9) (fl w9 t2 25 1 23 fun t25=>xl w9 23 t25 t1 43 fun t28=>pp (Instr.build 99 #[(0,t28)]) fun t29=>pw w9 (Instr.box 99 t29) fun t30 w11=>
 fa t30 99 0 fun t33=>fl w11 t33 43 6 41 fun t35=>pp (Builtin.len_ #[41] 3 #[t35]) fun t36=>zo [(i6 0)] w11 (fun s13 _d14 w15 K12=>
 bf .lss 3 (s13.getD 0 undef) t36 fun t38=>zc t38 (xl w15 41 t35 (s13.getD 0 undef) 64 fun t40=>pw w15 (Instr.alloc 64 true (.tuple #[])) fun t8 w16=>
 so w16 64 t8 t40 fun w17=>za (fun K18=>
 fl w17 t8 64 0 55 fun t42=>bt .neq 55 t42 (Value.int .u8 14) fun t43=>zc t43 (fl w17 t8 64 10 3 fun t46=>pw w17 (Instr.buildSlice 32 1 #[(0,t46)]) fun t47 w22=>
 pw w22 (Builtin.append_ #[32,32] 32 #[(Value.slice Option.none 0 0),t47]) fun t48 w23=>
 K18 [t48] w23) (K18 [(Value.slice Option.none 0 0)] w17)) (fun s19 _d20 w21=>
 za (fun K24=>
 fl w21 t8 64 0 55 fun t50=>bt .eql 55 t50 (Value.int .u8 12) fun t51=>zc t51 (fl w21 t8 64 11 3 fun t54=>pw w21 (Instr.buildSlice 32 1 #[(0,t54)]) fun t55 w28=>
 pw w28 (Builtin.append_ #[32,32] 32 #[(s19.getD 0 undef),t55]) fun t56 w29=>
 K24 [t56] w29) (K24 [(s19.getD 0 undef)] w21)) (fun s25 _d26 w27=>
 ff w27 t30 99 1 97 fun t61=>pw w27 (Instr.buildSlice 97 1 #[(0,(s25.getD 0 undef))]) fun t63 w30=>
 pw w30 (Builtin.append_ #[97,97] 97 #[t61,t63]) fun t64 w31=>
 fa t30 99 1 fun t66=>so w31 97 t66 t64 fun w32=>bt .add 3 (s13.getD 0 undef) (i6 1) fun t67=>K12 [t67] w32))) (K (.tuple #[t30,(i6 0)]) w15)))))
theorem ahh {t0 t1 : Value} {w : World} {K : VW} (h : adc t0 t1 w K) : zd prog ky #[t0,t1] w K:=
 okC false (.s (.r (rz 3 0 2)) (.s (.s (.r (ra 3 0 0 (.grp 12 false (ri 5 3 16) [17] (ra 2 8 0 (.grp 19 false (ri 3 10 9) [22] (rz 1 13 0)))))) (.c (.s (.r (rz 2 0 0)) (.n)) (.n))) (.s (.r (rz 8 0 8452)) (.s (.s (.r (rz 7 0 256)) (.b (.lp [37] (.s (.r (rz 1 0 0)) (.s (.c (.n) (.n)) (.s (.b (.s (.r (rz 4 0 164)) (.s (.r (rz 1 0 0)) (.j [9] (.s (.r (rz 3 0 4)) (.c (.r (rz 6 0 656)) (.n))) (.j [9] (.s (.r (rz 3 0 4)) (.c (.r (rz 6 0 656)) (.n))) (.r (rz 11 0 2138368))))))) (.r (rz 2 0 0)))))))) (.s (.r (rz 3 0 0)) (.n)))))) func20 rfl (by kernel_rfl) (by kernel_rfl) h
def Z3 (t0 t1 : Value) (w : World) (K : VW) : Prop:=
 bt .geq 3 t1 (i6 0) fun t6=>za (fun K1=>gIf t6 true (fa t0 99 0 fun t11=>fl w t11 43 6 41 fun t13=>pp (Builtin.len_ #[41] 3 #[t13]) fun t14=>bf .lss 3 t1 t14 fun t15=>K1 [t15] w) (K1 [undef] w)) (fun s2 _d3 w4=>
 zb t6 (s2.getD 0 undef) fa_ fun t16=>K t16 w4)
theorem JT {t0 t1 : Value} {w : World} {K : VW} (h : Z3 t0 t1 w K) : zd prog yV #[t0,t1] w K:=
 okC false (.s (.r (rz 1 0 0)) (.s (.r (ra 3 0 0 (.grp 7 true (ri 8 3 1024) [15] (rz 2 11 0)))) (.n))) func23 rfl (by kernel_rfl) (by kernel_rfl) h
def X8 (t0 : Value) (w : World) (K : VW) : Prop:=
 pw w (Instr.box 64 t0) fun t1 w1=>
 fl w1 t1 64 0 55 fun t4=>bt .geq 55 t4 (Value.int .u8 1) fun t5=>za (fun K2=>gIf t5 true (fl w1 t1 64 0 55 fun t8=>bt .leq 55 t8 (Value.int .u8 8) fun t9=>K2 [t9] w1) (K2 [undef] w1)) (fun s3 _d4 w5=>
 zb t5 (s3.getD 0 undef) fa_ fun t10=>K t10 w5)
theorem abM {t0 : Value} {w : World} {K : VW} (h : X8 t0 w K) : zd prog qQ #[t0] w K:=
 okC false (.s (.r (rz 2 0 2)) (.s (.r (ra 4 0 4 (.grp 6 true (ri 3 4 4) [9] (rz 2 7 0)))) (.n))) func50 rfl (by kernel_rfl) (by kernel_rfl) h
def YO (t0 t1 t2 : Value) (w : World) (K : VW) : Prop:=
 fa t0 99 0 fun t11=>fl w t11 43 6 41 fun t13=>xl w 41 t13 t1 64 fun t16=>pw w (Instr.alloc 64 true (.tuple #[])) fun t6 w1=>
 so w1 64 t6 t16 fun w2=>fl w2 t6 64 2 61 fun t18=>fl w2 t6 64 3 61 fun t20=>pw w2 (Instr.buildSlice 62 2 #[(0,t18),(1,t20)]) fun t21 w3=>
 fl w3 t6 64 4 62 fun t23=>pw w3 (Builtin.append_ #[62,62] 62 #[t21,t23]) fun t24 w4=>
 pp (Builtin.len_ #[62] 3 #[t24]) fun t25=>zo [(i6 0)] w4 (fun s6 _d7 w8 K5=>
 bf .lss 3 (s6.getD 0 undef) t25 fun t27=>zc t27 (xl w8 62 t24 (s6.getD 0 undef) 61 fun t29=>pw w8 (Instr.alloc 61 true (.tuple #[])) fun t8 w9=>
 so w9 61 t8 t29 fun w10=>fl w10 t8 61 0 59 fun t31=>bt .eql 59 t31 (Value.int .u8 3) fun t32=>za (fun K11=>gIf t32 false (fl w10 t8 61 0 59 fun t35=>bt .eql 59 t35 (Value.int .u8 4) fun t36=>K11 [t36] w10) (K11 [undef] w10)) (fun s12 _d13 w14=>
 zb t32 tr_ (s12.getD 0 undef) fun t37=>za (fun K15=>gIf t37 true (pf 61 t8 2 fun t40=>fl w14 t40 58 0 3 fun t42=>cv t2 #[t42] w14 fun t43 w19=>
 pp (Op.unary .not t43) fun t44=>K15 [t44] w19) (K15 [undef] w14)) (fun s16 _d17 w18=>
 zb t37 (s16.getD 0 undef) fa_ fun t45=>zc t45 (K (.tuple #[]) w18) (bt .add 3 (s6.getD 0 undef) (i6 1) fun t46=>K5 [t46] w18)))) (fl w8 t6 64 0 55 fun t48=>bt .eql 55 t48 (Value.int .u8 4) fun t49=>za (fun K20=>gIf t49 true (pf 64 t6 6 fun t52=>fl w8 t52 58 0 3 fun t54=>cv t2 #[t54] w8 fun t55 w24=>
 pp (Op.unary .not t55) fun t56=>K20 [t56] w24) (K20 [undef] w8)) (fun s21 _d22 w23=>
 zb t49 (s21.getD 0 undef) fa_ fun t57=>zc t57 (K (.tuple #[]) w23) (fl w23 t6 64 0 55 fun t59=>bt .eql 55 t59 (Value.int .u8 14) fun t60=>za (fun K25=>gIf t60 false (lo w23 64 t6 fun t62=>ca qQ #[t62] w23 fun t63 w29=>
 K25 [t63] w29) (K25 [undef] w23)) (fun s26 _d27 w28=>
 za (fun K30=>gIf (s26.getD 0 undef) true (pf 64 t6 1 fun t65=>fl w28 t65 58 1 56 fun t67=>ca yu #[t67,(i6 (-1))] w28 fun t68 w34=>
 K30 [t68] w34) (K30 [undef] w28)) (fun s31 _d32 w33=>
 za (fun K35=>gIf t60 false (zb (s26.getD 0 undef) (s31.getD 0 undef) fa_ fun t69=>K35 [t69] w33) (K35 [undef] w33)) (fun s36 _d37 w38=>
 zb t60 tr_ (s36.getD 0 undef) fun t70=>zc t70 (pf 64 t6 1 fun t72=>fl w38 t72 58 0 3 fun t74=>cv t2 #[t74] w38 fun _t75 w39=>
 K (.tuple #[]) w39) (K (.tuple #[]) w38))))))))
theorem VD {t0 t1 t2 : Value} {w : World} {K : VW} (h : YO t0 t1 t2 w K) : zd prog xy #[t0,t1,t2] w K:=
 okC false (.s (.r (rz 10 0 672000)) (.s (.s (.r (rz 10 0 37444)) (.b (.lp [26] (.s (.r (rz 1 0 0)) (.s (.c (.n) (.n)) (.s (.b (.s (.r (rz 4 0 164)) (.s (.r (ra 4 0 4 (.grp 33 false (ri 3 4 4) [36] (ra 2 7 0 (.grp 38 true (ri 6 9 576) [44] (rz 1 15 0)))))) (.c (.n) (.n))))) (.r (rz 2 0 0)))))))) (.s (.s (.r (ra 4 0 4 (.grp 50 true (ri 6 4 576) [56] (rz 1 10 0)))) (.c (.n) (.n))) (.s (.r (ra 4 0 4 (.grp 61 false (ri 3 4 9) [64] (.grp 64 true (ri 4 7 144) [68] (.grp 61 false (ri 1 11 0) [69] (rz 1 12 0)))))) (.c (.r (rz 5 0 576)) (.n)))))) func24 rfl (by kernel_rfl) (by kernel_rfl) h
def YP (t0 t1 t2 : Value) (w : World) (K : VW) : Prop:=
 pw w (Instr.box 73 t0) fun t3 w1=>
 NC w w1∧
 pw w1 (Instr.box 3 t1) fun t4 w2=>
 NC w1 w2∧
 pw w2 (Instr.box 3 t2) fun t5 w3=>
 NC w2 w3∧
 pw w3 (Instr.alloc 4 true (.tuple #[])) fun t6 w4=>
 NC w3 w4∧
 pp (Instr.makeFunc (.func 56) #[] #[t3,t4]) fun t8=>XK prog 1 t8 w4 (fun x5 w6 S7 KR8=>
 (Ext w6 w6∧∀ w9,Nl w4.heap.size w6 w9→
 lo w9 3 t5 fun t11=>bf .eql 3 (x5.getD 0 undef) t11 fun t12=>zc t12 (so w9 4 t6 tr_ fun w10=>NC w9 w10∧
 (ExtBut S7 w9 w10∧KR8 .ret w10)) ((ExtBut S7 w9 w9∧KR8 .normal w9)))) (fun w11=>
 so w11 4 t6 fa_ fun w12=>NC w11 w12∧
 ∀ w13,Shuts w.heap.size w12 w13→pq w13 (zn 4 t6) fun r14=>K r14 w13) (fun w15=>
 ∀ w16,Shuts w.heap.size w15 w16→pq w16 (zn 4 t6) fun r17=>K r17 w16) []
theorem VE {t0 t1 t2 : Value} {w : World} {K : VW} (h : YP t0 t1 t2 w K) : zd prog xz #[t0,t1,t2] w K:=
 okC true (.s (.r (rz 4 0 170)) (.s (.s (.r (rz 1 0 0)) (.b (.rf [] (.r (rz 1 0 0)) (.b (.s (.r (rz 3 0 4)) (.c (.s (.r (rz 1 0 2)) (.n)) (.n))))))) (.s (.r (rz 1 0 2)) (.n)))) func39 rfl (by kernel_rfl) (by kernel_rfl) h
def qz (t0 t1 t2 : Value) (w : World) (K : VW) : Prop:=
 lo w 73 t1 fun t4=>lo w 3 t2 fun t5=>ca xy #[t4,t5,t0] w fun _t7 w1=>
 K (.tuple #[]) w1
theorem Q2 {t0 t1 t2 : Value} {w : World} {K : VW} (h : qz t0 t1 t2 w K) : zd prog JQ #[t0,t1,t2] w K:=
 okC false (.r (rz 4 0 133)) func56 rfl (by kernel_rfl) (by kernel_rfl) h
def YQ (t0 t1 : Value) (w : World) (K : VW) : Prop:=
 fa t0 99 0 fun t10=>fl w t10 43 6 41 fun t12=>xl w 41 t12 t1 64 fun t15=>pw w (Instr.alloc 64 true (.tuple #[])) fun t6 w1=>
 so w1 64 t6 t15 fun w2=>za (fun K3=>
 fl w2 t6 64 0 55 fun t18=>bt .eql 55 t18 (Value.int .u8 11) fun t19=>zc t19 (pf 64 t6 6 fun t20=>fl w2 t20 58 0 3 fun t22=>K3 [t22] w2) (lo w2 64 t6 fun t24=>ca qQ #[t24] w2 fun t25 w7=>
 za (fun K8=>gIf t25 true (pf 64 t6 1 fun t27=>fl w7 t27 58 1 56 fun t29=>pp (Builtin.len_ #[56] 3 #[t29]) fun t30=>bt .eql 3 t30 (i6 0) fun t31=>K8 [t31] w7) (K8 [undef] w7)) (fun s9 _d10 w11=>
 zb t25 (s9.getD 0 undef) fa_ fun t32=>zc t32 (pf 64 t6 1 fun t33=>fl w11 t33 58 0 3 fun t35=>K3 [t35] w11) (K (.tuple #[(i6 0),fa_]) w11)))) (fun s4 _d5 w6=>
 ca xz #[t0,t1,(s4.getD 0 undef)] w6 fun t39 w12=>
 zc t39 (K (.tuple #[(i6 0),fa_]) w12) (K (.tuple #[(s4.getD 0 undef),tr_]) w12))
theorem VF {t0 t1 : Value} {w : World} {K : VW} (h : YQ t0 t1 w K) : zd prog xA #[t0,t1] w K:=
 okC false (.s (.r (rz 2 0 0)) (.s (.r (rz 10 0 672000)) (.s (.r (rz 1 0 0)) (.j [7] (.b (.s (.r (rz 4 0 4)) (.c (.r (rz 4 0 16)) (.s (.r (ra 3 0 9 (.grp 26 true (ri 5 3 16) [31] (rz 2 8 0)))) (.c (.r (rz 4 0 16)) (.s (.r (rz 2 0 0)) (.n))))))) (.s (.s (.r (rz 4 0 128)) (.c (.s (.r (rz 2 0 0)) (.n)) (.n))) (.s (.r (rz 3 0 0)) (.n))))))) func28 rfl (by kernel_rfl) (by kernel_rfl) h
def YR (t0 : Value) (w : World) (K : VW) : Prop:=
 pw w (Instr.box 73 t0) fun t1 w1=>
 NC w w1∧
 lo w1 73 t1 fun t21=>fa t21 99 0 fun t23=>fl w1 t23 43 6 41 fun t25=>pp (Builtin.len_ #[41] 3 #[t25]) fun t26=>lo w1 73 t1 fun t27=>fa t27 99 0 fun t29=>fl w1 t29 43 4 39 fun t31=>pp (Builtin.len_ #[39] 3 #[t31]) fun t32=>pw w1 (Instr.makeSlice 44 t32 t32) fun t33 w2=>
 NC w1 w2∧
 pw w2 (Instr.alloc 44 true (.tuple #[])) fun t4 w3=>
 NC w2 w3∧
 so w3 44 t4 t33 fun w4=>NC w3 w4∧
 lo w4 44 t4 fun t34=>pp (Builtin.len_ #[44] 3 #[t34]) fun t35=>zo [(i6 0)] w4 (fun s6 _d7 w8 K5=>
 bf .lss 3 (s6.getD 0 undef) t35 fun t37=>zc t37 (lo w8.drew 44 t4 fun t39=>pw w8.drew (Instr.makeSlice 52 t26 t26) fun t42 w9=>
 NC w8.drew w9∧
 Ext w8.drew w9∧
 px 44 t39 (s6.getD 0 undef) fun t43=>so w9 52 t43 t42 fun w10=>NC w9 w10∧
 bt .add 3 (s6.getD 0 undef) (i6 1) fun t44=>K5 [t44] w10) (pw w8 (Instr.makeSlice 97 t26 t26) fun t46 w11=>
 NC w8 w11∧
 lo w11 73 t1 fun t47=>ff w11 t47 99 1 97 fun t50=>pp (Builtin.len_ #[97] 3 #[t50]) fun t51=>zo [(i6 0)] w11 (fun s13 _d14 w15 K12=>
 bf .lss 3 (s13.getD 0 undef) t51 fun t53=>zc t53 (xl w15 97 t50 (s13.getD 0 undef) 32 fun t56=>pp (Builtin.len_ #[32] 3 #[t56]) fun t58=>zo [(i6 0)] w15 (fun s17 _d18 w19 K16=>
 bf .lss 3 (s17.getD 0 undef) t58 fun t60=>zc t60 (xl w19 32 t56 (s17.getD 0 undef) 3 fun t62=>xl w19 97 t46 t62 32 fun t68=>pw w19 (Instr.buildSlice 32 1 #[(0,(s13.getD 0 undef))]) fun t70 w20=>
 NC w19 w20∧
 pw w20 (Builtin.append_ #[32,32] 32 #[t68,t70]) fun t71 w21=>
 NC w20 w21∧
 px 97 t46 t62 fun t72=>so w21 32 t72 t71 fun w22=>NC w21 w22∧
 bt .add 3 (s17.getD 0 undef) (i6 1) fun t73=>K16 [t73] w22) (bt .add 3 (s13.getD 0 undef) (i6 1) fun t74=>K12 [t74] w19))) (pw w15 (Instr.alloc 105 true (.tuple #[])) fun t11 w23=>
 NC w15 w23∧
 pp (Instr.makeFunc (.func 48) #[] #[t4,t11]) fun t75=>pw w23 (Instr.alloc 108 true (.tuple #[])) fun t12 w24=>
 NC w23 w24∧
 so w24 108 t12 t75 fun w25=>NC w24 w25∧
 zo [(i6 0)] w25 (fun s27 _d28 w29 K26=>
 bf .lss 3 (s27.getD 0 undef) t26 fun t78=>zc t78 (pw w29 (Instr.alloc 3 true (.tuple #[])) fun t13 w30=>
 NC w29 w30∧
 so w30 3 t13 (s27.getD 0 undef) fun w31=>NC w30 w31∧
 pp (Instr.makeFunc (.func 49) #[] #[t1,t13]) fun t80=>XK prog 1 t80 w31 (fun x32 w33 S34 KR35=>
 (Ext w33 w33∧∀ w36,Nl w31.heap.size w33 w36→
 lo w36 108 t12 fun t82=>lo w36 3 t13 fun t83=>cv t82 #[t83,(x32.getD 0 undef)] w36 fun _t85 w37=>
 NC w36 w37∧
 (ExtBut S34 w36 w37∧KR35 .normal w37))) (fun w38=>
 bt .add 3 (s27.getD 0 undef) (i6 1) fun t86=>K26 [t86] w38) (fun w39=>
 ∀ w40,Shuts w.heap.size w39 w40→K (Value.slice Option.none 0 0) w40) []) (lo w29 73 t1 fun t87=>pp (Instr.makeFunc (.func 28) #[t87] #[]) fun t88=>zo [] w29 (fun _s42 _d43 w44 K41=>
 lo w44 105 t11 fun t89=>pp (Builtin.len_ #[105] 3 #[t89]) fun t90=>bt .gtr 3 t90 (i6 0) fun t91=>zc t91 (lo w44 105 t11 fun t92=>lo w44 105 t11 fun t93=>pp (Builtin.len_ #[105] 3 #[t93]) fun t94=>bt .sub 3 t94 (i6 1) fun t95=>xl w44 105 t92 t95 107 fun t97=>pw w44 (Instr.alloc 107 true (.tuple #[])) fun t16 w45=>
 NC w44 w45∧
 so w45 107 t16 t97 fun w46=>NC w45 w46∧
 lo w46 105 t11 fun t98=>lo w46 105 t11 fun t99=>pp (Builtin.len_ #[105] 3 #[t99]) fun t100=>bt .sub 3 t100 (i6 1) fun t101=>pp (Instr.sliceAt 105 t98 none (some t101) none) fun t102=>so w46 105 t11 t102 fun w47=>NC w46 w47∧
 fl w47 t16 107 0 3 fun t105=>xl w47 97 t46 t105 32 fun t107=>pp (Builtin.len_ #[32] 3 #[t107]) fun t108=>zo [(i6 0)] w47 (fun s49 _d50 w51 K48=>
 bf .lss 3 (s49.getD 0 undef) t108 fun t110=>zc t110 (za (fun K52=>
 xl w51 32 t107 (s49.getD 0 undef) 3 fun t112=>cv t88 #[t112] w51 fun t116 w56=>
 NC w51 w56∧
 pe t116 0 fun t117=>pe t116 1 fun t118=>za (fun K57=>gIf t118 true (fl w56 t16 107 1 3 fun t123=>bf .eql 3 t117 t123 fun t124=>K57 [t124] w56) (K57 [undef] w56)) (fun s58 _d59 w60=>
 zb t118 (s58.getD 0 undef) fa_ fun t125=>zc t125 (K52 [] w60) (lo w60 108 t12 fun t126=>fl w60 t16 107 1 3 fun t129=>cv t126 #[t112,t129] w60 fun _t130 w61=>
 NC w60 w61∧
 K52 [] w61))) (fun _s53 _d54 w55=>
 bt .add 3 (s49.getD 0 undef) (i6 1) fun t131=>K48 [t131] w55)) (K41 [] w51))) (lo w44 44 t4 fun t132=>∀ w62,Shuts w.heap.size w44 w62→K t132 w62))))))))
theorem VG {t0 : Value} {w : World} {K : VW} (h : YR t0 w K) : zd prog kG #[t0] w K:=
 okC true (.s (.r (rz 2 0 2)) (.b (.s (.r (rz 7 0 257)) (.s (.r (rz 9 0 172289)) (.s (.s (.r (rz 3 0 1)) (.b (.lp [36] (.s (.r (rz 1 0 0)) (.s (.c (.n) (.n)) (.s (.b (.s (.r (rz 2 0 0)) (.r (rz 6 0 2241)))) (.r (rz 2 0 0)))))))) (.s (.r (rz 3 0 8)) (.s (.s (.r (rz 6 0 65)) (.b (.lp [52] (.s (.r (rz 1 0 0)) (.s (.c (.n) (.n)) (.s (.b (.s (.r (rz 5 0 16)) (.s (.r (rz 3 0 0)) (.b (.lp [59] (.s (.r (rz 1 0 0)) (.s (.c (.n) (.n)) (.s (.b (.s (.r (rz 3 0 4)) (.r (rz 11 0 2262016)))) (.r (rz 2 0 0)))))))))) (.r (rz 2 0 0)))))))) (.s (.r (rz 1 0 2)) (.s (.r (rz 3 0 40)) (.s (.s (.r (rz 2 0 0)) (.b (.lp [77] (.s (.r (rz 1 0 0)) (.s (.c (.n) (.n)) (.s (.b (.s (.r (rz 3 0 40)) (.s (.r (rz 1 0 0)) (.b (.rf [] (.r (rz 1 0 0)) (.b (.r (rz 4 0 133)))))))) (.r (rz 2 0 0)))))))) (.s (.r (rz 3 0 1)) (.s (.n) (.s (.b (.lp [] (.s (.s (.r (rz 3 0 1)) (.c (.n) (.n))) (.b (.s (.r (rz 8 0 41989)) (.s (.r (rz 6 0 2053)) (.s (.s (.r (rz 7 0 272)) (.b (.lp [109] (.s (.r (rz 1 0 0)) (.s (.c (.n) (.n)) (.j [] (.b (.s (.r (rz 3 0 4)) (.s (.s (.r (rz 8 0 32)) (.s (.r (ra 2 0 0 (.grp 120 true (ri 4 2 16) [124] (rz 1 6 0)))) (.c (.n) (.n)))) (.r (rz 5 0 577))))) (.r (rz 2 0 0)))))))) (.n)))))))) (.s (.r (rz 2 0 1)) (.n))))))))))))))) func21 rfl (by kernel_rfl) (by kernel_rfl) h
def Zx (t0 t1 t2 t3 : Value) (w : World) (K : VW) : Prop:=
 lo w 44 t2 fun t6=>xl w 44 t6 t1 52 fun t9=>xl w 52 t9 t0 4 fun t12=>pp (Op.unary .not t12) fun t13=>zc t13 (lo w 44 t2 fun t14=>xl w 44 t14 t1 52 fun t17=>px 52 t17 t0 fun t19=>so w 4 t19 tr_ fun w1=>lo w1 105 t3 fun t20=>pp (Instr.build 107 #[(0,t0),(1,t1)]) fun t23=>pw w1 (Instr.buildSlice 105 1 #[(0,t23)]) fun t24 w2=>
 pw w2 (Builtin.append_ #[105,105] 105 #[t20,t24]) fun t25 w3=>
 so w3 105 t3 t25 fun w4=>K (.tuple #[]) w4) (K (.tuple #[]) w)
theorem Q3 {t0 t1 t2 t3 : Value} {w : World} {K : VW} (h : Zx t0 t1 t2 t3 w K) : zd prog zD #[t0,t1,t2,t3] w K:=
 okC false (.s (.r (rz 8 0 4161)) (.c (.s (.r (rz 7 0 8257)) (.r (rz 7 0 10753))) (.n))) func48 rfl (by kernel_rfl) (by kernel_rfl) h
def JU (t0 t1 t2 : Value) (w : World) (K : VW) : Prop:=
 lo w 73 t1 fun t4=>lo w 3 t2 fun t5=>ca xy #[t4,t5,t0] w fun _t7 w1=>
 K (.tuple #[]) w1
theorem Q4 {t0 t1 t2 : Value} {w : World} {K : VW} (h : JU t0 t1 t2 w K) : zd prog JR #[t0,t1,t2] w K:=
 okC false (.r (rz 4 0 133)) func49 rfl (by kernel_rfl) (by kernel_rfl) h
def ade (t0 t1 : Value) (w : World) (K : VW) : Prop:=
 pw w (Instr.box 25 t0) fun t2 w1=>
 lo w1 25 t2 fun t16=>ca ky #[t16,t1] w1 fun t18 w2=>
 pe t18 0 fun t19=>pe t18 1 fun t20=>bt .neq 29 t20 (i6 0) fun t22=>zc t22 (K (.tuple #[(Value.slice Option.none 0 0),t20]) w2) (ca kG #[t19] w2 fun t25 w3=>
 pp (Builtin.len_ #[44] 3 #[t25]) fun t26=>zo [(Value.slice Option.none 0 0),(i6 0)] w3 (fun s5 _d6 w7 K4=>
 bf .lss 3 (s5.getD 1 undef) t26 fun t28=>zc t28 (xl w7 44 t25 (s5.getD 1 undef) 52 fun t30=>pp (Builtin.len_ #[52] 3 #[t30]) fun t33=>ca Qu #[t33] w7 fun t34 w8=>
 pe t34 0 fun t35=>pe t34 1 fun _t36=>pw w8 (Instr.alloc 49 true (.tuple #[])) fun t11 w9=>
 so w9 49 t11 t35 fun w10=>pp (Builtin.len_ #[52] 3 #[t30]) fun t38=>zo [(i6 0)] w10 (fun s12 _d13 w14 K11=>
 bf .lss 3 (s12.getD 0 undef) t38 fun t40=>zc t40 (za (fun K15=>
 xl w14 52 t30 (s12.getD 0 undef) 4 fun t43=>zc t43 (fl w14.drew t11 49 1 47 fun t46=>bt .quo 3 (s12.getD 0 undef) (i6 64) fun t48=>xl w14.drew 47 t46 t48 53 fun t50=>bt .rem 3 (s12.getD 0 undef) (i6 64) fun t52=>bt .shl 53 (Value.int .u64 1) t52 fun t53=>bf .or 53 t50 t53 fun t54=>px 47 t46 t48 fun t55=>so w14.drew 53 t55 t54 fun w19=>K15 [] w19) (K15 [] w14)) (fun _s16 _d17 w18=>
 bt .add 3 (s12.getD 0 undef) (i6 1) fun t56=>K11 [t56] w18)) (lo w14 49 t11 fun t58=>pw w14 (Instr.buildSlice 28 1 #[(0,t58)]) fun t59 w20=>
 pw w20 (Builtin.append_ #[28,28] 28 #[(s5.getD 0 undef),t59]) fun t60 w21=>
 bt .add 3 (s5.getD 1 undef) (i6 1) fun t61=>K4 [t60,t61] w21))) (K (.tuple #[(s5.getD 0 undef),(i6 0)]) w7)))
theorem ahi {t0 t1 : Value} {w : World} {K : VW} (h : ade t0 t1 w K) : zd prog jQ #[t0,t1] w K:=
 okC false (.s (.r (rz 3 0 2)) (.s (.r (rz 8 0 33)) (.s (.s (.r (rz 2 0 0)) (.c (.s (.r (rz 3 0 0)) (.n)) (.n))) (.s (.r (rz 1 0 0)) (.s (.s (.r (rz 4 0 8)) (.b (.lp [8,27] (.s (.r (rz 1 0 0)) (.s (.c (.n) (.n)) (.s (.b (.s (.r (rz 3 0 4)) (.s (.r (rz 9 0 40992)) (.s (.s (.r (rz 3 0 0)) (.b (.lp [39] (.s (.r (rz 1 0 0)) (.s (.c (.n) (.n)) (.j [] (.b (.s (.r (rz 5 0 16)) (.s (.r (rz 1 0 0)) (.c (.r (rz 12 0 8389636)) (.n))))) (.r (rz 2 0 0)))))))) (.r (rz 5 0 164)))))) (.r (rz 2 0 0)))))))) (.s (.r (rz 3 0 0)) (.n))))))) func6 rfl (by kernel_rfl) (by kernel_rfl) h
def V3 (t0 t1 t2 : Value) (w : World) (K : VW) : Prop:=
 pw w (Instr.box 25 t0) fun t3 w1=>
 lo w1 25 t3 fun t12=>ca ky #[t12,t1] w1 fun t14 w2=>
 pe t14 0 fun t15=>pe t14 1 fun t16=>bt .neq 29 t16 (i6 0) fun t18=>za (fun K3=>gIf t18 false (ca yV #[t15,t2] w2 fun t22 w7=>
 pp (Op.unary .not t22) fun t23=>K3 [t23] w7) (K3 [undef] w2)) (fun s4 _d5 w6=>
 zb t18 tr_ (s4.getD 0 undef) fun t24=>zc t24 (K (.tuple #[(Value.slice Option.none 0 0),(i6 2)]) w6) (pw w6 (Instr.alloc 32 true (.tuple #[])) fun t10 w8=>
 pp (Instr.makeFunc (.func 25) #[] #[t10]) fun t27=>ca xy #[t15,t2,t27] w8 fun _t28 w9=>
 lo w9 32 t10 fun t29=>ca ke #[t29] w9 fun _t30 w10=>
 lo w10 32 t10 fun t31=>ca qh #[t31] w10 fun t32 w11=>
 K (.tuple #[t32,(i6 0)]) w11))
theorem afn {t0 t1 t2 : Value} {w : World} {K : VW} (h : V3 t0 t1 t2 w K) : zd prog Zi #[t0,t1,t2] w K:=
 okC false (.s (.r (rz 3 0 2)) (.s (.r (rz 8 0 33)) (.s (.s (.r (ra 3 0 0 (.grp 19 false (ri 4 3 32) [23] (rz 1 7 0)))) (.c (.s (.r (rz 2 0 0)) (.n)) (.n))) (.s (.r (rz 1 0 2)) (.s (.r (rz 4 0 128)) (.s (.r (rz 2 0 9)) (.s (.r (rz 4 0 9)) (.n)))))))) func8 rfl (by kernel_rfl) (by kernel_rfl) h
def QS (t0 t1 : Value) (w : World) (K : VW) : Prop:=
 lo w 32 t1 fun t4=>pw w (Instr.buildSlice 32 1 #[(0,t0)]) fun t6 w1=>
 pw w1 (Builtin.append_ #[32,32] 32 #[t4,t6]) fun t7 w2=>
 so w2 32 t1 t7 fun w3=>K tr_ w3
theorem acB {t0 t1 : Value} {w : World} {K : VW} (h : QS t0 t1 w K) : zd prog adR #[t0,t1] w K:=
 okC false (.s (.r (rz 1 0 0)) (.s (.r (rz 5 0 673)) (.s (.r (rz 1 0 0)) (.n)))) func25 rfl (by kernel_rfl) (by kernel_rfl) h
def V4 (t0 t1 t2 : Value) (w : World) (K : VW) : Prop:=
 pw w (Instr.box 25 t0) fun t3 w1=>
 lo w1 25 t3 fun t11=>ca ky #[t11,t1] w1 fun t13 w2=>
 pe t13 0 fun t14=>pe t13 1 fun t15=>bt .neq 29 t15 (i6 0) fun t17=>za (fun K3=>gIf t17 false (ca yV #[t14,t2] w2 fun t21 w7=>
 pp (Op.unary .not t21) fun t22=>K3 [t22] w7) (K3 [undef] w2)) (fun s4 _d5 w6=>
 zb t17 tr_ (s4.getD 0 undef) fun t23=>zc t23 (K (.tuple #[(i6 0),fa_,(i6 2)]) w6) (ca xA #[t14,t2] w6 fun t27 w8=>
 pe t27 0 fun t28=>pe t27 1 fun t29=>K (.tuple #[t28,t29,t15]) w8))
theorem afo {t0 t1 t2 : Value} {w : World} {K : VW} (h : V4 t0 t1 t2 w K) : zd prog Zj #[t0,t1,t2] w K:=
 okC false (.s (.r (rz 4 0 2)) (.s (.r (rz 8 0 33)) (.s (.s (.r (ra 3 0 0 (.grp 18 false (ri 4 3 32) [22] (rz 1 7 0)))) (.c (.s (.r (rz 3 0 0)) (.n)) (.n))) (.s (.r (rz 8 0 32)) (.s (.r (rz 6 0 0)) (.n)))))) func9 rfl (by kernel_rfl) (by kernel_rfl) h
def adf (t0 t1 t2 : Value) (w : World) (K : VW) : Prop:=
 pw w (Instr.box 25 t0) fun t3 w1=>
 lo w1 25 t3 fun t14=>ca ky #[t14,t1] w1 fun t16 w2=>
 pe t16 0 fun t17=>pe t16 1 fun t18=>bt .neq 29 t18 (i6 0) fun t20=>za (fun K3=>gIf t20 false (ca yV #[t17,t2] w2 fun t24 w7=>
 pp (Op.unary .not t24) fun t25=>K3 [t25] w7) (K3 [undef] w2)) (fun s4 _d5 w6=>
 zb t20 tr_ (s4.getD 0 undef) fun t26=>zc t26 (K (.tuple #[(Value.slice Option.none 0 0),(i6 2)]) w6) (ca kG #[t17] w6 fun t28 w8=>
 pp (Builtin.len_ #[44] 3 #[t28]) fun t29=>zo [(Value.slice Option.none 0 0),(i6 0)] w8 (fun s10 _d11 w12 K9=>
 bf .lss 3 (s10.getD 1 undef) t29 fun t31=>zc t31 (za (fun K13=>
 xl w12 44 t28 (s10.getD 1 undef) 52 fun t34=>xl w12 52 t34 t2 4 fun t38=>zc t38 (pw w12 (Instr.buildSlice 32 1 #[(0,(s10.getD 1 undef))]) fun t41 w17=>
 pw w17 (Builtin.append_ #[32,32] 32 #[(s10.getD 0 undef),t41]) fun t42 w18=>
 K13 [t42] w18) (K13 [(s10.getD 0 undef)] w12)) (fun s14 _d15 w16=>
 bt .add 3 (s10.getD 1 undef) (i6 1) fun t43=>K9 [(s14.getD 0 undef),t43] w16)) (K (.tuple #[(s10.getD 0 undef),t18]) w12))))
theorem ahj {t0 t1 t2 : Value} {w : World} {K : VW} (h : adf t0 t1 t2 w K) : zd prog Xp #[t0,t1,t2] w K:=
 okC false (.s (.r (rz 3 0 2)) (.s (.r (rz 8 0 33)) (.s (.s (.r (ra 3 0 0 (.grp 21 false (ri 4 3 32) [25] (rz 1 7 0)))) (.c (.s (.r (rz 2 0 0)) (.n)) (.n))) (.s (.r (rz 1 0 0)) (.s (.s (.r (rz 4 0 8)) (.b (.lp [10,30] (.s (.r (rz 1 0 0)) (.s (.c (.n) (.n)) (.j [10] (.b (.s (.r (rz 5 0 16)) (.s (.r (rz 4 0 64)) (.c (.r (rz 5 0 160)) (.n))))) (.r (rz 2 0 0)))))))) (.s (.r (rz 4 0 0)) (.n))))))) func7 rfl (by kernel_rfl) (by kernel_rfl) h
def abN (t0 t1 t2 t3 : Value) (w : World) (K : VW) : Prop:=
 pw w (Instr.box 25 t0) fun t4 w1=>
 pw w1 (Instr.box 3 t2) fun t6 w2=>
 lo w2 25 t4 fun t22=>ca ky #[t22,t1] w2 fun t24 w3=>
 pe t24 0 fun t25=>pe t24 1 fun t26=>pw w3 (Instr.alloc 73 true (.tuple #[])) fun t11 w4=>
 so w4 73 t11 t25 fun w5=>bt .neq 29 t26 (i6 0) fun t28=>za (fun K6=>gIf t28 false (lo w5.drew 73 t11 fun t30=>ca yV #[t30,t3] w5.drew fun t32 w10=>
 pp (Op.unary .not t32) fun t33=>K6 [t33] w10) (K6 [undef] w5.drew)) (fun s7 _d8 w9=>
 zb t28 tr_ (s7.getD 0 undef) fun t34=>za (fun K11=>gIf t34 false (lo w9 3 t6 fun t36=>bt .lss 3 t36 (i6 0) fun t37=>K11 [t37] w9) (K11 [undef] w9)) (fun s12 _d13 w14=>
 zb t34 tr_ (s12.getD 0 undef) fun t38=>za (fun K15=>gIf t38 false (lo w14 3 t6 fun t40=>lo w14 73 t11 fun t41=>fa t41 99 0 fun t43=>fl w14 t43 43 4 39 fun t45=>pp (Builtin.len_ #[39] 3 #[t45]) fun t46=>bf .geq 3 t40 t46 fun t47=>K15 [t47] w14) (K15 [undef] w14)) (fun s16 _d17 w18=>
 zb t38 tr_ (s16.getD 0 undef) fun t48=>zc t48 (K (.tuple #[(Value.slice Option.none 0 0),fa_,(i6 2)]) w18) (pp (Instr.makeFunc (.func 38) #[] #[t11,t6]) fun t49=>lo w18 73 t11 fun t50=>fa t50 99 0 fun t52=>fl w18 t52 43 6 41 fun t54=>pp (Builtin.len_ #[41] 3 #[t54]) fun t55=>zo [(Value.slice Option.none 0 0),(Value.slice Option.none 0 0),(i6 0)] w18 (fun s20 _d21 w22 K19=>
 bf .lss 3 (s20.getD 2 undef) t55 fun t57=>zc t57 (za (fun K23=>
 za (fun K27=>
 cv t49 #[(s20.getD 2 undef)] w22 fun t61 w31=>
 zc t61 (pw w31 (Instr.buildSlice 32 1 #[(0,(s20.getD 2 undef))]) fun t64 w32=>
 pw w32 (Builtin.append_ #[32,32] 32 #[(s20.getD 0 undef),t64]) fun t65 w33=>
 K27 [t65] w33) (K27 [(s20.getD 0 undef)] w31)) (fun s28 _d29 w30=>
 lo w30 73 t11 fun t66=>lo w30 3 t6 fun t68=>ca xz #[t66,(s20.getD 2 undef),t68] w30 fun t69 w34=>
 zc t69 (pw w34 (Instr.buildSlice 32 1 #[(0,(s20.getD 2 undef))]) fun t72 w35=>
 pw w35 (Builtin.append_ #[32,32] 32 #[(s20.getD 1 undef),t72]) fun t73 w36=>
 K23 [(s28.getD 0 undef),t73] w36) (K23 [(s28.getD 0 undef),(s20.getD 1 undef)] w34))) (fun s24 _d25 w26=>
 bt .add 3 (s20.getD 2 undef) (i6 1) fun t74=>K19 [(s24.getD 0 undef),(s24.getD 1 undef),t74] w26)) (pp (Builtin.len_ #[32] 3 #[(s20.getD 1 undef)]) fun t76=>zo [(Value.slice Option.none 0 0),fa_,(i6 0)] w22 (fun s38 _d39 w40 K37=>
 bf .lss 3 (s38.getD 2 undef) t76 fun t78=>zc t78 (za (fun K41=>
 xl w40 32 (s20.getD 1 undef) (s38.getD 2 undef) 3 fun t80=>bf .neq 3 t80 t3 fun t83=>za (fun K45=>gIf t83 true (cv t49 #[t3] w40 fun t87 w49=>
 K45 [t87] w49) (K45 [undef] w40)) (fun s46 _d47 w48=>
 zb t83 (s46.getD 0 undef) fa_ fun t88=>zc t88 (K41 [(s38.getD 0 undef),(s38.getD 1 undef)] w48) (lo w48 25 t4 fun t90=>ca Qc #[t90,t1,t3,t80,(s20.getD 0 undef)] w48 fun t95 w50=>
 pe t95 0 fun t96=>pe t95 1 fun t97=>pe t95 2 fun _t98=>za (fun K51=>gIf t97 true (pp (Op.unary .not (s38.getD 1 undef)) fun t102=>K51 [t102] w50) (K51 [undef] w50)) (fun s52 _d53 w54=>
 za (fun K55=>gIf (s52.getD 0 undef) false (pp (Builtin.len_ #[32] 3 #[t96]) fun t105=>pp (Builtin.len_ #[32] 3 #[(s38.getD 0 undef)]) fun t107=>bf .lss 3 t105 t107 fun t108=>K55 [t108] w54) (K55 [undef] w54)) (fun s56 _d57 w58=>
 za (fun K59=>gIf t97 true (zb (s52.getD 0 undef) tr_ (s56.getD 0 undef) fun t109=>K59 [t109] w58) (K59 [undef] w58)) (fun s60 _d61 w62=>
 za (fun K63=>gIf (s60.getD 0 undef) false (pp (Builtin.len_ #[32] 3 #[t96]) fun t112=>pp (Builtin.len_ #[32] 3 #[(s38.getD 0 undef)]) fun t114=>bf .eql 3 t112 t114 fun t115=>K63 [t115] w62) (K63 [undef] w62)) (fun s64 _d65 w66=>
 za (fun K67=>gIf (s64.getD 0 undef) true (ca xB #[t96,(s38.getD 0 undef)] w66 fun t119 w71=>
 bt .lss 3 t119 (i6 0) fun t120=>K67 [t120] w71) (K67 [undef] w66)) (fun s68 _d69 w70=>
 za (fun K72=>gIf (s60.getD 0 undef) false (zb (s64.getD 0 undef) (s68.getD 0 undef) fa_ fun t121=>K72 [t121] w70) (K72 [undef] w70)) (fun s73 _d74 w75=>
 za (fun K76=>gIf t97 true (zb (s60.getD 0 undef) tr_ (s73.getD 0 undef) fun t122=>K76 [t122] w75) (K76 [undef] w75)) (fun s77 _d78 w79=>
 zb t97 (s77.getD 0 undef) fa_ fun t123=>zc t123 (K41 [t96,tr_] w79) (K41 [(s38.getD 0 undef),(s38.getD 1 undef)] w79))))))))))) (fun s42 _d43 w44=>
 bt .add 3 (s38.getD 2 undef) (i6 1) fun t125=>K37 [(s42.getD 0 undef),(s42.getD 1 undef),t125] w44)) (K (.tuple #[(s38.getD 0 undef),(s38.getD 1 undef),(i6 0)]) w40))))))))
theorem af2 {t0 t1 t2 t3 : Value} {w : World} {K : VW} (h : abN t0 t1 t2 t3 w K) : zd prog Qs #[t0,t1,t2,t3] w K:=
 okC false (.s (.r (rz 5 0 10)) (.s (.r (rz 9 0 40993)) (.s (.s (.r (ra 3 0 0 (.grp 29 false (ri 4 3 33) [33] (ra 2 7 0 (.grp 35 false (ri 2 9 1) [37] (ra 2 11 0 (.grp 39 false (ri 8 13 1029) [47] (rz 1 21 0)))))))) (.c (.s (.r (rz 3 0 0)) (.n)) (.n))) (.s (.r (rz 2 0 0)) (.s (.r (rz 2 0 0)) (.s (.s (.r (rz 7 0 257)) (.b (.lp [13,14,56] (.s (.r (rz 1 0 0)) (.s (.c (.n) (.n)) (.j [13,14] (.b (.s (.r (rz 2 0 0)) (.j [13] (.s (.r (rz 3 0 32)) (.c (.r (rz 5 0 160)) (.n))) (.s (.r (rz 4 0 145)) (.c (.r (rz 5 0 160)) (.n)))))) (.r (rz 2 0 0)))))))) (.s (.s (.r (rz 3 0 0)) (.b (.lp [8,9,77] (.s (.r (rz 1 0 0)) (.s (.c (.n) (.n)) (.j [8,9] (.b (.s (.r (rz 3 0 4)) (.s (.s (.r (ra 4 0 0 (.grp 84 true (ri 3 4 32) [87] (rz 1 7 0)))) (.c (.n) (.n))) (.s (.r (rz 13 0 2049)) (.s (.r (ra 2 0 0 (.grp 100 true (ri 3 2 0) [103] (.grp 103 false (ri 5 5 0) [108] (.grp 100 true (ri 2 10 0) [110] (.grp 110 false (ri 6 12 0) [116] (.grp 116 true (ri 4 18 32) [120] (.grp 110 false (ri 1 22 0) [121] (.grp 100 true (ri 1 23 0) [122] (rz 1 24 0)))))))))) (.c (.r (rz 3 0 0)) (.n))))))) (.r (rz 2 0 0)))))))) (.s (.r (rz 5 0 0)) (.n))))))))) func18 rfl (by kernel_rfl) (by kernel_rfl) h
def JV (t0 t1 t2 : Value) (w : World) (K : VW) : Prop:=
 lo w 73 t1 fun t8=>ca xA #[t8,t0] w fun t10 w1=>
 pe t10 0 fun t11=>pe t10 1 fun t12=>za (fun K2=>gIf t12 true (lo w1 3 t2 fun t16=>bf .eql 3 t11 t16 fun t17=>K2 [t17] w1) (K2 [undef] w1)) (fun s3 _d4 w5=>
 zb t12 (s3.getD 0 undef) fa_ fun t18=>K t18 w5)
theorem adS {t0 t1 t2 : Value} {w : World} {K : VW} (h : JV t0 t1 t2 w K) : zd prog JS #[t0,t1,t2] w K:=
 okC false (.s (.r (rz 1 0 0)) (.s (.r (rz 8 0 33)) (.s (.r (ra 2 0 0 (.grp 14 true (ri 3 2 4) [17] (rz 2 5 0)))) (.n)))) func38 rfl (by kernel_rfl) (by kernel_rfl) h
def QT (t0 t1 t2 : Value) (w : World) (K : VW) : Prop:=
 pw w (Instr.box 25 t0) fun t3 w1=>
 lo w1 25 t3 fun t19=>ca ky #[t19,t1] w1 fun t21 w2=>
 pe t21 0 fun t22=>pe t21 1 fun t23=>pw w2 (Instr.alloc 73 true (.tuple #[])) fun t10 w3=>
 so w3 73 t10 t22 fun w4=>bt .neq 29 t23 (i6 0) fun t25=>za (fun K5=>gIf t25 false (pp (Builtin.len_ #[28] 3 #[t2]) fun t28=>lo w4 73 t10 fun t29=>fa t29 99 0 fun t31=>fl w4 t31 43 4 39 fun t33=>pp (Builtin.len_ #[39] 3 #[t33]) fun t34=>bf .neq 3 t28 t34 fun t35=>K5 [t35] w4) (K5 [undef] w4)) (fun s6 _d7 w8=>
 zb t25 tr_ (s6.getD 0 undef) fun t36=>za (fun K9=>gIf t36 false (pp (Instr.makeFunc (.func 43) #[] #[t10]) fun t39=>ca yn #[t2,t39] w8 fun t40 w13=>
 K9 [t40] w13) (K9 [undef] w8)) (fun s10 _d11 w12=>
 zb t36 tr_ (s10.getD 0 undef) fun t41=>zc t41 (K (.tuple #[(i6 0),(i6 0),fa_,(i6 2)]) w12) (pp (Builtin.len_ #[28] 3 #[t2]) fun t43=>zo [(i6 0)] w12 (fun s15 _d16 w17 K14=>
 bf .lss 3 (s15.getD 0 undef) t43 fun t45=>zc t45 (xl w17 28 t2 (s15.getD 0 undef) 49 fun t48=>pw w17 (Instr.alloc 49 true (.tuple #[])) fun t12 w18=>
 so w18 49 t12 t48 fun w19=>pp (Instr.makeFunc (.func 45) #[] #[t12]) fun t49=>lo w19 73 t10 fun t50=>fa t50 99 0 fun t52=>fl w19 t52 43 6 41 fun t54=>pp (Builtin.len_ #[41] 3 #[t54]) fun t55=>zo [(i6 0)] w19 (fun s21 _d22 w23 K20=>
 bf .lss 3 (s21.getD 0 undef) t55 fun t57=>zc t57 (lo w23 73 t10 fun t60=>ca xA #[t60,(s21.getD 0 undef)] w23 fun t62 w24=>
 pe t62 0 fun t63=>pe t62 1 fun t64=>pp (Op.unary .not t64) fun t66=>za (fun K25=>gIf t66 false (bf .neq 3 t63 (s15.getD 0 undef) fun t70=>K25 [t70] w24) (K25 [undef] w24)) (fun s26 _d27 w28=>
 zb t66 tr_ (s26.getD 0 undef) fun t71=>za (fun K29=>gIf t71 true (lo w28 73 t10 fun t73=>ff w28 t73 99 1 97 fun t76=>xl w28 97 t76 (s21.getD 0 undef) 32 fun t79=>ca zP #[t79,t49] w28 fun t81 w33=>
 K29 [t81] w33) (K29 [undef] w28)) (fun s30 _d31 w32=>
 zb t71 (s30.getD 0 undef) fa_ fun t82=>za (fun K34=>gIf t82 false (lo w32 73 t10 fun t85=>ca xz #[t85,(s21.getD 0 undef),(s15.getD 0 undef)] w32 fun t88 w38=>
 K34 [t88] w38) (K34 [undef] w32)) (fun s35 _d36 w37=>
 zb t82 tr_ (s35.getD 0 undef) fun t89=>za (fun K39=>gIf t89 true (cv t49 #[(s21.getD 0 undef)] w37 fun t93 w43=>
 pp (Op.unary .not t93) fun t94=>K39 [t94] w43) (K39 [undef] w37)) (fun s40 _d41 w42=>
 zb t89 (s40.getD 0 undef) fa_ fun t95=>zc t95 (K (.tuple #[(s15.getD 0 undef),(s21.getD 0 undef),fa_,(i6 0)]) w42) (bt .add 3 (s21.getD 0 undef) (i6 1) fun t98=>K20 [t98] w42)))))) (bt .add 3 (s15.getD 0 undef) (i6 1) fun t99=>K14 [t99] w23))) (K (.tuple #[(i6 0),(i6 0),tr_,(i6 0)]) w17)))))
theorem acC {t0 t1 t2 : Value} {w : World} {K : VW} (h : QT t0 t1 t2 w K) : zd prog ZR #[t0,t1,t2] w K:=
 okC false (.s (.r (rz 5 0 2)) (.s (.r (rz 9 0 40993)) (.s (.s (.r (ra 3 0 0 (.grp 26 false (ri 9 3 4112) [35] (ra 2 12 0 (.grp 37 false (ri 3 14 32) [40] (rz 1 17 0)))))) (.c (.s (.r (rz 4 0 0)) (.n)) (.n))) (.s (.s (.r (rz 3 0 0)) (.b (.lp [44] (.s (.r (rz 1 0 0)) (.s (.c (.n) (.n)) (.s (.b (.s (.r (rz 6 0 2192)) (.s (.r (rz 2 0 0)) (.s (.r (rz 7 0 257)) (.b (.lp [56] (.s (.r (rz 1 0 0)) (.s (.c (.n) (.n)) (.s (.b (.s (.r (rz 2 0 0)) (.s (.r (rz 8 0 33)) (.s (.r (ra 3 0 0 (.grp 67 false (ri 3 3 0) [70] (ra 2 6 0 (.grp 72 true (ri 9 8 135233) [81] (rz 2 17 0)))))) (.s (.r (ra 2 0 0 (.grp 84 false (ri 4 2 129) [88] (ra 2 6 0 (.grp 90 true (ri 4 8 32) [94] (rz 1 12 0)))))) (.c (.s (.r (rz 6 0 0)) (.n)) (.n))))))) (.r (rz 2 0 0))))))))))) (.r (rz 2 0 0)))))))) (.s (.r (rz 4 0 0)) (.n)))))) func19 rfl (by kernel_rfl) (by kernel_rfl) h
def Xs (t0 t1 : Value) (w : World) (K : VW) : Prop:=
 pw w (Instr.box 49 t0) fun t2 w1=>
 lo w1.drew 49 t2 fun t4=>ca Qv #[t4] w1.drew fun t5 w2=>
 pp (Op.unary .not t5) fun t6=>za (fun K3=>gIf t6 false (fl w2 t2 49 0 3 fun t9=>lo w2 73 t1 fun t10=>fa t10 99 0 fun t12=>fl w2 t12 43 6 41 fun t14=>pp (Builtin.len_ #[41] 3 #[t14]) fun t15=>bf .neq 3 t9 t15 fun t16=>K3 [t16] w2) (K3 [undef] w2)) (fun s4 _d5 w6=>
 zb t6 tr_ (s4.getD 0 undef) fun t17=>K t17 w6)
theorem aaK {t0 t1 : Value} {w : World} {K : VW} (h : Xs t0 t1 w K) : zd prog Xq #[t0,t1] w K:=
 okC false (.s (.r (rz 2 0 2)) (.s (.r (ra 4 0 9 (.grp 7 false (ri 9 4 4116) [16] (rz 2 13 0)))) (.n))) func43 rfl (by kernel_rfl) (by kernel_rfl) h
def Xt (t0 t1 : Value) (w : World) (K : VW) : Prop:=
 fl w t1 49 1 47 fun t5=>bt .quo 3 t0 (i6 64) fun t7=>xl w 47 t5 t7 53 fun t9=>bt .rem 3 t0 (i6 64) fun t11=>bf .shr 53 t9 t11 fun t12=>bt .and 53 t12 (Value.int .u64 1) fun t13=>bt .eql 53 t13 (Value.int .u64 1) fun t14=>K t14 w
theorem aaL {t0 t1 : Value} {w : World} {K : VW} (h : Xt t0 t1 w K) : zd prog Xr #[t0,t1] w K:=
 okC false (.s (.r (rz 1 0 0)) (.s (.r (rz 12 0 1028)) (.n))) func45 rfl (by kernel_rfl) (by kernel_rfl) h
end Go.Proofs.Tryz
end
section
namespace Go.Proofs.Tryz
open Go.Sh
set_option maxRecDepth 100000
def xh (t0 t1 : Value) (w : World) (K : VW) : Prop:=
 ca yI #[t0,t1] w fun t7 w1=>
 bt .geq 3 t7 (i6 0) fun t8=>K t8 w1
theorem qA {t0 t1 : Value} {w : World} {K : VW} (h : xh t0 t1 w K) : zd prog yu #[t0,t1] w K:=
 okC false (.s (.r (rz 1 0 0)) (.s (.r (rz 5 0 32)) (.n))) func51 rfl (by kernel_rfl) (by kernel_rfl) h
def xC (t0 t1 : Value) (w : World) (K : VW) : Prop:=
 pp (Builtin.len_ #[56] 3 #[t0]) fun t7=>zo [(i6 0)] w (fun s2 _d3 w4 K1=>
 bf .lss 3 (s2.getD 0 undef) t7 fun t9=>zc t9 (xl w4 56 t0 (s2.getD 0 undef) 90 fun t15=>bf .eql 90 t1 t15 fun t16=>zc t16 (K (s2.getD 0 undef) w4) (bt .add 3 (s2.getD 0 undef) (i6 1) fun t18=>K1 [t18] w4)) (K (i6 (-1)) w4))
theorem ji {t0 t1 : Value} {w : World} {K : VW} (h : xC t0 t1 w K) : zd prog yI #[t0,t1] w K:=
 okC false (.s (.r (rz 1 0 0)) (.s (.s (.r (rz 3 0 0)) (.b (.lp [8] (.s (.r (rz 1 0 0)) (.s (.c (.n) (.n)) (.s (.b (.s (.r (rz 2 0 0)) (.s (.r (rz 6 0 256)) (.c (.s (.r (rz 2 0 0)) (.n)) (.n))))) (.r (rz 2 0 0)))))))) (.s (.r (rz 1 0 0)) (.n)))) func65 rfl (by kernel_rfl) (by kernel_rfl) h
def qB (t0 t1 : Value) (w : World) (K : VW) : Prop:=
 pp (Builtin.len_ #[32] 3 #[t0]) fun t10=>zo [(i6 0)] w (fun s2 _d3 w4 K1=>
 bf .lss 3 (s2.getD 0 undef) t10 fun t12=>zc t12 (xl w4 32 t0 (s2.getD 0 undef) 3 fun t15=>pp (Builtin.len_ #[32] 3 #[t1]) fun t18=>bf .geq 3 (s2.getD 0 undef) t18 fun t19=>zc t19 (K (i6 1) w4) (xl w4 32 t1 (s2.getD 0 undef) 3 fun t23=>ca qW #[t15,t23] w4 fun t26 w5=>
 bt .neq 3 t26 (i6 0) fun t28=>zc t28 (K t26 w5) (bt .add 3 (s2.getD 0 undef) (i6 1) fun t30=>K1 [t30] w5))) (pp (Builtin.len_ #[32] 3 #[t0]) fun t32=>pp (Builtin.len_ #[32] 3 #[t1]) fun t34=>bf .lss 3 t32 t34 fun t35=>zc t35 (K (i6 (-1)) w4) (K (i6 0) w4)))
theorem Yc {t0 t1 : Value} {w : World} {K : VW} (h : qB t0 t1 w K) : zd prog xB #[t0,t1] w K:=
 okC false (.s (.r (rz 1 0 0)) (.s (.s (.r (rz 3 0 0)) (.b (.lp [11] (.s (.r (rz 1 0 0)) (.s (.c (.n) (.n)) (.s (.b (.s (.r (rz 5 0 16)) (.s (.s (.r (rz 4 0 0)) (.c (.s (.r (rz 1 0 0)) (.n)) (.n))) (.s (.r (rz 5 0 64)) (.s (.r (rz 4 0 32)) (.s (.r (rz 2 0 0)) (.c (.s (.r (rz 2 0 0)) (.n)) (.n)))))))) (.r (rz 2 0 0)))))))) (.s (.s (.r (rz 5 0 0)) (.c (.s (.r (rz 1 0 0)) (.n)) (.n))) (.s (.r (rz 1 0 0)) (.n))))) func41 rfl (by kernel_rfl) (by kernel_rfl) h
def y9 (t0 t1 : Value) (w : World) (K : VW) : Prop:=
 ca yB #[t0,t1] w fun t7 w1=>
 bt .geq 3 t7 (i6 0) fun t8=>K t8 w1
theorem kX {t0 t1 : Value} {w : World} {K : VW} (h : y9 t0 t1 w K) : zd prog yn #[t0,t1] w K:=
 okC false (.s (.r (rz 1 0 0)) (.s (.r (rz 5 0 32)) (.n))) func42 rfl (by kernel_rfl) (by kernel_rfl) h
def xn (t0 t1 : Value) (w : World) (K : VW) : Prop:=
 pp (Builtin.len_ #[28] 3 #[t0]) fun t7=>zo [(i6 0)] w (fun s2 _d3 w4 K1=>
 bf .lss 3 (s2.getD 0 undef) t7 fun t9=>zc t9 (xl w4 28 t0 (s2.getD 0 undef) 49 fun t15=>cv t1 #[t15] w4 fun t16 w5=>
 zc t16 (K (s2.getD 0 undef) w5) (bt .add 3 (s2.getD 0 undef) (i6 1) fun t18=>K1 [t18] w5)) (K (i6 (-1)) w4))
theorem qR {t0 t1 : Value} {w : World} {K : VW} (h : xn t0 t1 w K) : zd prog yB #[t0,t1] w K:=
 okC false (.s (.r (rz 1 0 0)) (.s (.s (.r (rz 3 0 0)) (.b (.lp [8] (.s (.r (rz 1 0 0)) (.s (.c (.n) (.n)) (.s (.b (.s (.r (rz 2 0 0)) (.s (.r (rz 6 0 2304)) (.c (.s (.r (rz 2 0 0)) (.n)) (.n))))) (.r (rz 2 0 0)))))))) (.s (.r (rz 1 0 0)) (.n)))) func62 rfl (by kernel_rfl) (by kernel_rfl) h
end Go.Proofs.Tryz
end
section
namespace Go.Proofs
open Go.Sh Go.RowKit
set_option maxRecDepth 100000
set_option linter.unusedSimpArgs false
set_option linter.unusedVariables false
def lkP (p : PtD) : List Int:=(if p.op=14 then [] else [p.nx])++(if p.op=12 then [p.el] else [])
theorem agx {p : PtD} {x : Int} : x ∈ lkP p↔x ∈ xg p:=by
 rw [lkP,xg]
 by_cases h14 : p.op=14
 ·rw [if_pos h14,if_pos h14,if_neg (by omega)];rfl
 ·rw [if_neg h14,if_neg h14]
  by_cases h12 : p.op=12
  ·rw [if_pos h12]
   by_cases e : p.nx=p.el
   ·rw [if_neg (fun h=>h.2 e)];simp [e]
   ·rw [if_pos ⟨h12,e⟩];simp
  ·rw [if_neg h12,if_neg (fun h=>h12 h.1)];simp
def lkN (g : GrD) : zK:=g.pts.map lkP
theorem Vq {g : GrD} : (lkN g).length=(zh g).length:=by rw [lkN,zh,List.length_map,List.length_map]
def LookG (r : Gh) (v : Value) (g : GrD) : Prop:=∃ b x1 x2 x3 x4 y1 y2 y3 y4 vn,v = .pointer (some ⟨b,0,none⟩)∧GrG r (grL g x1 x2 x3 x4 y1 y2 y3 y4) g∧NetG r vn (lkN g)∧
 (∀ j u,(grL g x1 x2 x3 x4 y1 y2 y3 y4 ++ [vn])[j]? = some u→Ob r fun w=>w.cell? ⟨b,j,none⟩=some u)
theorem LookG.up {r s : Gh} {v : Value} {g : GrD} (h : LookG r v g) [le : Le r s] : LookG s v g:=by
 obtain ⟨b,x1,x2,x3,x4,y1,y2,y3,y4,vn,h1,h2,h3,h4⟩:=h
 exact ⟨b,x1,x2,x3,x4,y1,y2,y3,y4,vn,h1,GrG.up h2,h3.up,fun j u hj=>(h4 j u hj).up⟩
set_option maxHeartbeats 2000000 in
theorem jR {u : UnD} {n : Int} {v : Value} {w : World} {r : Gh} {K : Value→World→Prop} (hr : Holds r w) (hu : UnG r v u)
  (h : ∀ v' s w',Ext w w'→New w s w'→(fnE u n=0→∃ g,u.fs[n.toNat]? = some g∧netU u n=zh g∧LookG (r.or s) v' g)→(fnE u n≠0→v' = .pointer none)→K (.tuple #[v',.int .i64 (fnE u n)]) w') : zd Tryz.prog Tryz.ky #[v,.int .i64 n] w K:=by
 refine Tryz.ahh ?_
 unfold Tryz.adc
 have hu0:=hu
 obtain ⟨p0,cap0,vf,rfl,_,_,hst,hsl,hfn⟩:=hu
 obtain ⟨qf,capf,rfl,_,_⟩:=hfn.sl.shape
 have S:=St.start hr
 refine S.box fun b2 w1 S=>?_
 have S : StX noX w r w1 [.cell b2 [.slice p0 u.ss.length cap0,.slice qf u.fs.length capf,.int .i64 u.mn] 25]:=S
 refine gp_ ?_
 refine zj (c:=decide ((u.fs.length : Int)≤n)) (fun _ K2 hK2=>by refine gg_ ?_;exact hK2) ?_
 refine yP (c:=!vS u) (fun _ K2 hK2=>?_) fun w5 e5=>?_
 ·refine S.ldB (b:=b2) ?_ rfl
  refine VY S.holds hu0 fun w5 e5=>?_
  refine gp_ ?_
  exact hK2 _ e5
 have S:=S.go e5
 refine c_b (fun hbad=>?_) (fun hgood=>?_)
 ·have hE : fnE u n=2:=by rw [fnE,if_pos hbad]
  rw [hE] at h
  exact h _ nothing _ S.ext New.nothing (fun h=>by cases h) fun _=>rfl
 have hE : fnE u n=0:=by rw [fnE,if_neg (by rw [hgood];simp)]
 rw [hE] at h
 obtain ⟨hM,hn0,hlt⟩:=Jv hE
 simp only [Bool.or_eq_false_iff,decide_eq_false_iff_not,Bool.not_eq_false'] at hgood
 obtain ⟨⟨_,hn1⟩,_⟩:=hgood
 obtain ⟨bf,of,cf,hqE,hcf,hgc,hfo⟩:=hfn.sl.get (by decide) hlt
 cases hqE
 have hp24:=(hM.hd hlt).pt1024
 have hgi : u.fs[n.toNat]? = some u.fs[n.toNat]:=List.getElem?_eq_getElem hlt
 have hnu : netU u n=zh u.fs[n.toNat]:=by rw [netU,hgi]
 generalize u.fs[n.toNat]=g at hgc hp24 hgi hnu
 obtain ⟨x1,x2,x3,x4,y1,y2,y3,y4,rfl,hg0⟩:=Ye hgc
 obtain ⟨_,_,_,_,hEE,m1,m2,m3,m4⟩:=id hg0
 cases hEE
 refine gg_ ?_
 refine zq (n:=7) rfl (fun j v hj=>S.at (hfo j v hj)) ?_
 refine gg_ ?_
 refine S.box fun bx w6 S=>?_
 have S:=S.ownNil 32 1
 have S : StX noX w (r.or nothing) w6 [.row (.slice none 0 0) 32 1 0 [],.cell bx (grL g x1 x2 x3 x4 y1 y2 y3 y4 ++ [.slice none 0 0]) 99,.cell b2 [.slice p0 u.ss.length cap0,.slice (some ⟨bf,of,none⟩) u.fs.length capf,.int .i64 u.mn] 25]:=S.less (fun b o h=>h.elim id fun h=>h.elim) (List.Sublist.refl _)
 refine gg_ ?_
 refine zi (ι:=Nat × Value × Gh × List Value) (fun i=>[.int .i64 (i.1 : Nat)])
  (fun i w'=>i.1≤g.pts.length∧Above w i.2.2.1∧RowOf 1 (RowC i.2.2.1) i.2.2.2 ((lkN g).take i.1)∧StX noX w (r.or i.2.2.1) w' [.row i.2.1 32 1 i.1 i.2.2.2,.cell bx (grL g x1 x2 x3 x4 y1 y2 y3 y4 ++ [i.2.1]) 99,.cell b2 [.slice p0 u.ss.length cap0,.slice (some ⟨bf,of,none⟩) u.fs.length capf,.int .i64 u.mn] 25])
  (fun i=>g.pts.length - i.1) (0,.slice none 0 0,nothing,[]) rfl ⟨Nat.zero_le _,Above.no,by simpa using RowOf.nil,S⟩ ?_
 repeat clear S
 rintro ⟨i,vr,s,xs⟩ d w7 ⟨hi,ha,hR,S⟩ K11 hK11
 simp only at hi ha hR S ⊢
 simp only [List.getD_cons_zero,List.getD_cons_succ]
 refine gg_ ?_
 refine zk (fun hlt2=>?_) (fun hge=>?_)
 ·have hlt2 : i<g.pts.length:=by omega
  have hil : i<(lkN g).length:=by rw [Vq,z6];exact hlt2
  obtain ⟨bp,op,cp,hqp,hcp,hpc,hpo⟩:=m4.sl.get (by decide) hlt2
  rw [hqp]
  have hni : (lkN g)[i]=lkP g.pts[i]:=by simp [lkN]
  have htk : (lkN g).take (i+1)=(lkN g).take i ++ [lkP g.pts[i]]:=by rw [List.take_succ_eq_append_getElem hil,hni]
  generalize g.pts[i]=p at hpc htk
  obtain ⟨z1,z2,z3,z4,z5,t1,t2,t3,t4,t5,rfl,hp0⟩:=xf hpc
  refine gg_ ?_
  refine zq (n:=21) hcp (fun j v hj=>by rw [Int.toNat_natCast];exact S.at (hpo j v hj)) ?_
  refine S.al fun b8 w7 S=>?_
  refine S.stB (b:=b8) fun w8 S=>?_
  have S:=S.ownNil 3 1
  have S : StX noX w (r.or s) w8 [.row (.slice none 0 0) 3 1 ([] : List Int).length (ints []),.cell b8 (ptL p z1 z2 z3 z4 z5 t1 t2 t3 t4 t5) 64,.row vr 32 1 i xs,.cell bx (grL g x1 x2 x3 x4 y1 y2 y3 y4 ++ [vr]) 99,.cell b2 [.slice p0 u.ss.length cap0,.slice (some ⟨bf,of,none⟩) u.fs.length capf,.int .i64 u.mn] 25]:=S
  refine zp (fun x w'=>∃ v1,x = [v1]∧StX noX w (r.or s) w' [.row v1 3 1 (if p.op=14 then [] else [p.nx]).length (ints (if p.op=14 then [] else [p.nx])),.cell b8 (ptL p z1 z2 z3 z4 z5 t1 t2 t3 t4 t5) 64,.row vr 32 1 i xs,.cell bx (grL g x1 x2 x3 x4 y1 y2 y3 y4 ++ [vr]) 99,.cell b2 [.slice p0 u.ss.length cap0,.slice (some ⟨bf,of,none⟩) u.fs.length capf,.int .i64 u.mn] 25]) (fun K18 hK18=>?_) ?_
  ·refine gg_ ?_
   refine zk (fun h14=>?_) (fun h14=>?_)
   ·rw [if_neg h14] at hK18
    refine gg_ ?_
    refine S.lit (e:=3) (cs:=[.int .i64 p.nx]) (by kernel_rfl) fun b9 w9 S=>?_
    refine S.ap (v:=.slice none 0 0) (m':=1) (Sl.blk (S.blk b9)) (fun v4 w10 S=>?_) (by decide)
    exact hK18 _ _ ⟨v4,rfl,S.drop b9⟩
   ·rw [if_pos (Decidable.not_not.1 h14)] at hK18
    exact hK18 _ _ ⟨_,rfl,S⟩
  repeat clear S
  rintro _ w9 ⟨v1,rfl,S⟩ d
  rw [List.getD_cons_zero]
  generalize hl1 : (if p.op=14 then [] else [p.nx])=l1 at S
  have hl1f : l1.length≤1:=by rw [← hl1];split<;>simp
  refine zp (fun x w'=>∃ v2,x = [v2]∧StX noX w (r.or s) w' [.row v2 3 1 (lkP p).length (ints (lkP p)),.cell b8 (ptL p z1 z2 z3 z4 z5 t1 t2 t3 t4 t5) 64,.row vr 32 1 i xs,.cell bx (grL g x1 x2 x3 x4 y1 y2 y3 y4 ++ [vr]) 99,.cell b2 [.slice p0 u.ss.length cap0,.slice (some ⟨bf,of,none⟩) u.fs.length capf,.int .i64 u.mn] 25]) (fun K24 hK24=>?_) ?_
  ·refine gg_ ?_
   refine zk (fun h12=>?_) (fun h12=>?_)
   ·have e : lkP p=l1 ++ [p.el]:=by rw [lkP,hl1,if_pos h12]
    rw [e,List.length_append,xU] at hK24
    refine gg_ ?_
    refine S.lit (e:=3) (cs:=[.int .i64 p.el]) (by kernel_rfl) fun b9 w10 S=>?_
    refine S.ap (v:=v1) (m':=1) (Sl.blk (S.blk b9)) (fun v4 w11 S=>?_) (by omega)
    exact hK24 _ _ ⟨v4,rfl,S.drop b9⟩
   ·have e : lkP p=l1:=by rw [lkP,hl1,if_neg h12,List.append_nil]
    rw [e] at hK24
    exact hK24 _ _ ⟨_,rfl,S⟩
  repeat clear S
  rintro _ w10 ⟨v2,rfl,S⟩ d
  rw [List.getD_cons_zero]
  have hlf : (lkP p).length≤2:=by
   rw [lkP,List.length_append]
   split<;>split<;>simp
  generalize lkP p=l2 at S htk hlf
  obtain ⟨s2,T,hs2,_,ha2⟩:=S.doneRow yO (by decide) rfl
  repeat clear S
  have ha2 : Above w s2:=fun b o ho=>(ha2 b o ho).resolve_right id
  obtain ⟨q2,c2,rfl,_,_⟩:=hs2.shape
  have S:=T.reGh
  clear T
  have S:=S.drop b8
  refine gg_ ?_
  refine S.lit (e:=32) (cs:=[.slice q2 l2.length c2]) (by kernel_rfl) fun b10 w11 S=>?_
  refine S.ap (v:=vr) (m':=1) (Sl.blk (S.blk b10)) (fun v4 w12 S=>?_) (by omega)
  have S:=S.drop b10
  refine gg_ ?_
  refine S.st (b:=bx) (fun w13 S=>?_) (by simp) (S.row1 v4)
  refine gg_ ?_
  refine hK11 (i+1,v4,s.or s2,xs ++ [.slice q2 l2.length c2]) _ ⟨hlt2,ha.or' ha2,?_,S⟩ (by show g.pts.length - (i+1)<g.pts.length - i;omega)
  show RowOf 1 (RowC (s.or s2)) (xs ++ [.slice q2 l2.length c2]) ((lkN g).take (i+1))
  rw [htk]
  exact (hR.mono fun _ _ h=>RowC.up h).snoc rfl ⟨_,rfl,hs2.cells,by show l2.length≤maxLen;rw [maxLen];omega⟩
 have hie : i=g.pts.length:=by omega
 clear hK11 K11 hge hi
 subst hie
 have hlk : (lkN g).length=g.pts.length:=by rw [Vq,z6]
 rw [← hlk,List.take_length] at hR
 rw [← hlk] at S
 obtain ⟨s2,T,hs,_,hab⟩:=S.doneRow hR (by decide) rfl
 repeat clear S
 have hab : Above w s2:=fun b o ho=>(hab b o ho).resolve_right id
 have hbx:=(T.mine (.cell bx (grL g x1 x2 x3 x4 y1 y2 y3 y4 ++ [vr]) 99) (by simp) bx rfl).1.resolve_right id
 have T:=T.reGh.frzAt bx
 have ab3 : Above w (Go.Sh.one bx (grL g x1 x2 x3 x4 y1 y2 y3 y4 ++ [vr]) 99):=by rintro b o ⟨rfl,_⟩;exact hbx
 refine h _ ((s.or s2).or (Go.Sh.one bx (grL g x1 x2 x3 x4 y1 y2 y3 y4 ++ [vr]) 99)) _ T.ext (StX.newOf (q:=(s.or s2).or (Go.Sh.one bx (grL g x1 x2 x3 x4 y1 y2 y3 y4 ++ [vr]) 99)) T.reGh ((ha.or' hab).or' ab3)) (fun _=>⟨g,hgi,hnu,bx,x1,x2,x3,x4,y1,y2,y3,y4,vr,rfl,hg0.up,⟨hs.up' inferInstance fun _ _ h=>RowC.up h,by rw [hlk];exact Nat.le_trans hp24 (by decide)⟩,fun j u hj w' hw'=>?_⟩) fun h=>absurd rfl h
 have B : Blk w' bx (grL g x1 x2 x3 x4 y1 y2 y3 y4 ++ [vr]) 99:=zG w' (hw'.le (h:=inferInstance))
 show w'.cell? ⟨bx,j,none⟩=some u
 rw [B.cell]
 exact hj
end Go.Proofs
end
section
namespace Go.Sh
open Go.RowKit
def Drt (X : Nat→Prop) (n : Nat) (r : Gh) (W : World) (L : List Asr) (D : Nat→Prop) : Prop:=
 ∀ d,D d→(n≤d∨X d)∧d<W.heap.size∧(∀ o,¬ r d o)∧¬ xV L d
structure Cbk (P : Program) (f : Value) (xs : List Int) (J : Nat→(Nat→Prop)→World→Prop) (Jx : World→Prop) : Prop where
 ext : ∀ k D W1 W2,J k D W1→Ext W1 W2→J k D W2
 extx : ∀ W1 W2,Jx W1→Ext W1 W2→Jx W2
 call : ∀ k D W x,xs[k]? = some x→J k D W→∀ K1 : Value→World→Prop,
  (∀ (b : Bool) W2,ExtBut D W W2→(if b=true then ∃ D2 : Nat→Prop,(∀ d,D2 d→D d∨(W.heap.size≤d∧d<W2.heap.size))∧J (k+1) D2 W2 else Jx W2)→K1 (.bool b) W2)→zH P f #[.int .i64 x] W K1
section
variable {P : Program} {X : Nat→Prop} {w0 w w' : World} {r : Gh} {L : List Asr} {D D2 : Nat→Prop} {n : Nat}
theorem StX.dirty (S : StX X w0 r w L) (e : ExtBut D w w') (hd : Drt X w0.heap.size r w L D) : StX X w0 r w' L:=
 ⟨S.x.but e fun k hk=>(hd k hk).1,S.holds.but e fun b o hb hk=>(hd b hk).2.2.1 o hb,
  fun x hx=>Asr.keep (S.has x hx) fun k hk=>e.block k (Asr.lt (S.has x hx) hk) fun hD=>(hd k hD).2.2.2 (xW.2 ⟨x,hx,hk⟩),S.mine,S.apart⟩
theorem Drt.next (S : StX X w0 r w L) (hd : Drt X w0.heap.size r w L D) (e : w.heap.size≤w'.heap.size) (h2 : ∀ d,D2 d→D d∨(w.heap.size≤d∧d<w'.heap.size)) : Drt X w0.heap.size r w' L D2:=fun d hD=>by
 rcases h2 d hD with h|⟨h3,h4⟩
 ·obtain ⟨h5,h6,h7,h8⟩:=hd d h
  exact ⟨h5,by omega,h7,h8⟩
 ·have:=S.x.size
  refine ⟨.inl (by omega),h4,fun o ho=>?_,fun hm=>?_⟩
  ·have:=S.holds.lt ho;omega
  ·have:=S.dlt hm;omega
theorem Drt.more (hd : Drt X n r w L D) (e : w.heap.size≤w'.heap.size) : Drt X n r w' L D:=fun d hD=>by
 obtain ⟨h5,h6,h7,h8⟩:=hd d hD
 exact ⟨h5,by omega,h7,h8⟩
theorem StX.open (S : StX noX w0 r w L) (X : Nat→Prop) : StX X w0 r w L:=
 ⟨⟨S.x.os,S.x.tape,S.x.output,S.x.size,fun k hk _=>S.x.block k hk fun h=>h⟩,S.holds,S.has,fun x hx k hk=>⟨.inl ((S.mine x hx k hk).1.resolve_right fun h=>h),(S.mine x hx k hk).2⟩,S.apart⟩
end
end Go.Sh
end
section
namespace Go.Proofs
open Go.Sh Go.RowKit
set_option maxRecDepth 100000
set_option linter.unusedSimpArgs false
set_option linter.unusedVariables false
theorem vd {g : GrD} {q : Int} {v : Value} {w : World} {r : Gh} {K : Value→World→Prop} (hr : Holds r w) (hx : LookG r v g)
  (h : K (.bool (decide (isN (zh g) q))) w) : zd Tryz.prog Tryz.yV #[v,.int .i64 q] w K:=by
 refine Tryz.JT ?_
 unfold Tryz.Z3
 obtain ⟨b,x1,x2,x3,x4,y1,y2,y3,y4,vn,rfl,hg,hn,hc⟩:=hx
 have e : (decide (0≤q)&&decide (q<(g.pts.length : Int)))=decide (isN (zh g) q):=by
  rw [Bool.eq_iff_iff,Bool.and_eq_true,decide_eq_true_eq,decide_eq_true_eq,decide_eq_true_eq,isN,z6]
 rw [← e] at h
 refine gg_ ?_
 refine zf (c:=decide (q<(g.pts.length : Int))) (fun _ K2 hK2=>?_) h
 refine gg_ ?_
 refine zg (hc 6 _ rfl w hr) ?_
 refine gg_ ?_
 exact hK2
theorem X9 {p : PtD} {c : List Value} {w : World} {r : Gh} {K : Value→World→Prop} (hr : Holds r w) (hp : PtG r c p)
  (h : ∀ w',Ext w w'→K (.bool (xr p)) w') : zd Tryz.prog Tryz.qQ #[.agg c.toArray] w K:=by
 refine Tryz.abM ?_
 unfold Tryz.X8
 obtain ⟨z1,z2,z3,z4,z5,t1,t2,t3,t4,t5,rfl,hp0⟩:=xf hp
 have S:=St.start hr
 refine S.box fun b1 w1 S=>?_
 have S : StX noX w r w1 [.cell b1 (ptL p z1 z2 z3 z4 z5 t1 t2 t3 t4 t5) 64]:=S
 refine gg_ ?_
 refine zf (c:=decide (p.op≤8)) (fun _ K2 hK2=>by refine gg_ ?_;exact hK2) ?_
 exact h _ S.ext
theorem agy {r : Gh} {p : Option Addr} {n cap : Nat} {l : List Int} (h : SlG 1 r ZK (.slice p n cap) l) {i : Nat} (hi : i<l.length) : ∃ b off,p=some ⟨b,off,none⟩∧n=l.length∧Ob r fun w=>w.cell? ⟨b,off+i,none⟩=some (.int .i64 l[i]):=
 yr (h.mono fun c x hx=>hx.1) hi
theorem afp {l : List Int} {x : Int} {v : Value} {w : World} {r : Gh} {K : Value→World→Prop} (hr : Holds r w) (hl : SlB 1 r ZK v l)
  (h : ∀ i : Int,(0≤i↔x ∈ l)→K (.int .i64 i) w) : zd Tryz.prog Tryz.yI #[v,.int .i64 x] w K:=by
 refine Tryz.ji ?_
 unfold Tryz.xC
 obtain ⟨p,cap,rfl,_,_⟩:=hl.sl.shape
 have hf : l.length≤9223372036854775807:=hl.few
 refine gp_ ?_
 refine zi (ι:=Nat) (fun i=>[.int .i64 (i : Nat)]) (fun i w'=>w'=w∧i≤l.length∧x ∉ l.take i) (fun i=>l.length - i) 0 rfl ⟨rfl,Nat.zero_le _,by simp⟩ ?_
 rintro i d w' ⟨rfl,hi,hn⟩ K1 hK1
 simp only [List.getD_cons_zero]
 refine gp_ ?_
 refine zk (fun hlt=>?_) (fun hge=>?_)
 ·have hlt : i<l.length:=by omega
  obtain ⟨b,off,rfl,_,hc⟩:=agy hl.sl hlt
  refine gp_ ?_
  refine zg (by rw [Int.toNat_natCast];exact hc _ hr) ?_
  refine gp_ ?_
  refine zk (fun he=>?_) (fun he=>?_)
  ·exact h _ ⟨fun _=>by rw [he];exact List.getElem_mem hlt,fun _=>Int.natCast_nonneg _⟩
  ·refine gp_ ?_
   refine hK1 (i+1) _ ⟨rfl,hlt,?_⟩ (by omega)
   rw [List.take_succ_eq_append_getElem hlt,List.mem_append,List.mem_singleton]
   exact fun h=>h.elim hn he
 ·have : i=l.length:=by omega
  subst this
  rw [List.take_length] at hn
  exact h _ ⟨fun h=>by omega,fun h=>absurd h hn⟩
theorem abO {l : List Int} {x : Int} {v : Value} {w : World} {r : Gh} {K : Value→World→Prop} (hr : Holds r w) (hl : SlB 1 r ZK v l)
  (h : K (.bool (decide (x ∈ l))) w) : zd Tryz.prog Tryz.yu #[v,.int .i64 x] w K:=by
 refine Tryz.qA ?_
 unfold Tryz.xh
 refine afp hr hl fun i hi=>?_
 refine gp_ ?_
 have e : decide (0≤i)=decide (x ∈ l):=by
  rw [decide_eq_decide];exact hi
 rw [e];exact h
theorem aji {c b : Bool} {a : Value} {K : Value→Prop} (h1 : c=true→a = .bool b) (h0 : c=false→b=false) (k : K (.bool b)) : zb (.bool c) a (.bool false) K:=by
 cases c with
 |true=>rw [h1 rfl];exact k_pickT k
 |false=>rw [h0 rfl] at k;exact k_pickF k
theorem aig {l : List OpD} {i : Nat} (hi : i<l.length) : kk (l.take (i+1))=kk (l.take i)++(if kW l[i]=true then [l[i].pl.l] else []):=by
 rw [kk,kk,List.take_succ_eq_append_getElem hi,List.filter_append,List.map_append]
 congr 1
 by_cases h : kW l[i]=true
 ·rw [if_pos h,List.filter_cons_of_pos h];rfl
 ·rw [if_neg h,List.filter_cons_of_neg h];rfl
theorem ajj {l : List OpD} {i : Nat} : kk (l.take i) <+: kk l:=by
 refine ⟨kk (l.drop i),?_⟩
 rw [kk,kk,kk,← List.map_append,← List.filter_append,List.take_append_drop]
theorem akk {A B C : List Int} {x : Int} (h : A ++ [x] <+: B) : (B++C)[A.length]? = some x:=by
 obtain ⟨t,rfl⟩:=h
 simp
set_option maxHeartbeats 4000000 in
theorem V5 {g : GrD} {p : PtD} {q : Int} {v f : Value} {w : World} {r : Gh} {K : Value→World→Prop} {D0 : Nat→Prop} {J : Nat→(Nat→Prop)→World→Prop} {Jx : World→Prop}
  (hr : Holds r w) (hx : LookG r v g) (hq : 0≤q) (hp : g.pts[q.toNat]? = some p) (hb : p.args.length≤1000) (hD : ∀ d,D0 d→d<w.heap.size∧∀ o,¬ r d o) (hf : Cbk Tryz.prog f (zF p) J Jx) (h0 : J 0 D0 w)
  (h : ∀ w',((∃ D,J (zF p).length D w')∨Jx w')→K (.tuple #[]) w') : zd Tryz.prog Tryz.xy #[v,.int .i64 q,f] w K:=by
 refine Tryz.VD ?_
 unfold Tryz.YO
 obtain ⟨bl,x1,x2,x3,x4,y1,y2,y3,y4,vn,rfl,hg,hn,hc⟩:=hx
 obtain ⟨_,_,_,_,hEE,m1,m2,m3,m4⟩:=id hg
 cases hEE
 obtain ⟨hlt,hpe⟩:=List.getElem?_eq_some_iff.1 hp
 obtain ⟨bp,op,cp,hqp,hcp,hpc,hpo⟩:=m4.sl.get (by decide) hlt
 cases hqp
 rw [hpe] at hpc
 obtain ⟨z1,z2,z3,z4,z5,t1,t2,t3,t4,t5,rfl,hp0⟩:=xf hpc
 obtain ⟨kto,ka,kb,kl,kf⟩:=Ql hp0
 have S:=St.start hr
 refine gg_ ?_
 refine zg (S.at (hc 6 _ rfl)) ?_
 refine gg_ ?_
 refine zq (n:=21) hcp (fun j v hj=>S.at (hpo j v hj)) ?_
 refine S.al fun b6 w1 S=>?_
 refine S.stB (b:=b6) fun w2 S=>?_
 have S : StX noX w r w2 [.cell b6 (ptL p z1 z2 z3 z4 z5 t1 t2 t3 t4 t5) 64]:=S
 refine gg_ ?_
 refine S.ldN (b:=b6) (vs:=[.int .u8 p.a.k,.int .i64 p.a.n,.int .i64 p.a.pl.l,.slice z2 p.a.pl.ps.length t2]) ?_
 refine gg_ ?_
 refine S.ldN (b:=b6) (vs:=[.int .u8 p.b.k,.int .i64 p.b.n,.int .i64 p.b.pl.l,.slice z3 p.b.pl.ps.length t3]) ?_
 refine S.lit (e:=61) (cs:=[.int .u8 p.a.k,.int .i64 p.a.n,.int .i64 p.a.pl.l,.slice z2 p.a.pl.ps.length t2,.int .u8 p.b.k,.int .i64 p.b.n,.int .i64 p.b.pl.l,.slice z3 p.b.pl.ps.length t3]) (by kernel_rfl) fun b7 w3 S=>?_
 have S:=S.toRow 2 4 rfl (by decide)
 refine gg_ ?_
 obtain ⟨xs,hxr,hxs⟩:=agl (by decide) kl.sl
 obtain ⟨_,_,hE,hq4,_⟩:=kl.sl.shape
 cases hE
 refine S.ap (v:=.slice (some ⟨b7,0,none⟩) 2 2) (S.at hxs) (fun v24 w4 S=>?_) (by omega) hxr.1 hq4 (abv hxr (by decide) fun c x hx=>agm hx)
 have hrow : RowOf 4 (OpG r) ([.int .u8 p.a.k,.int .i64 p.a.n,.int .i64 p.a.pl.l,.slice z2 p.a.pl.ps.length t2,.int .u8 p.b.k,.int .i64 p.b.n,.int .i64 p.b.pl.l,.slice z3 p.b.pl.ps.length t3]++xs) (p.a::p.b::p.args):=
  RowOf.app (l:=[p.a,p.b]) (yH (c:=[.int .u8 p.a.k,.int .i64 p.a.n,.int .i64 p.a.pl.l,.slice z2 p.a.pl.ps.length t2]) rfl ka (yq rfl kb)) hxr
 obtain ⟨s5,T,hs5,_,ha5⟩:=S.doneRow hrow (by decide) (by simp;omega)
 repeat clear S
 have ha5 : Above w s5:=fun b o ho=>(ha5 b o ho).resolve_right id
 have hb6:=(T.mine (.cell b6 (ptL p z1 z2 z3 z4 z5 t1 t2 t3 t4 t5) 64) (by simp) b6 rfl).1.resolve_right id
 have E4:=T.ext
 have T:=T.frzAt b6
 have hp6 : ∀ j u,(ptL p z1 z2 z3 z4 z5 t1 t2 t3 t4 t5)[j]? = some u→Ob ((r.or s5).or (Go.Sh.one b6 (ptL p z1 z2 z3 z4 z5 t1 t2 t3 t4 t5) 64)) fun w=>w.cell? ⟨b6,j,none⟩=some u:=fun j u hj w' hw'=>by
  have B : Blk w' b6 (ptL p z1 z2 z3 z4 z5 t1 t2 t3 t4 t5) 64:=zG w' (hw'.le (h:=inferInstance))
  show w'.cell? ⟨b6,j,none⟩=some u
  rw [B.cell]
  exact hj
 have hd : Drt D0 w.heap.size ((r.or s5).or (Go.Sh.one b6 (ptL p z1 z2 z3 z4 z5 t1 t2 t3 t4 t5) 64)) w4 [] D0:=fun d hd=>by
  obtain ⟨h1,h2⟩:=hD d hd
  refine ⟨.inr hd,Nat.lt_of_lt_of_le h1 E4.size,fun o ho=>?_,fun h=>h⟩
  rcases ho with (ho|ho)|ho
  ·exact h2 o ho
  ·have:=ha5 d o ho;omega
  ·have:=ho.1;omega
 have S:=T.open D0
 clear T
 have hs5:=hs5.cells (s:=(r.or s5).or (Go.Sh.one b6 (ptL p z1 z2 z3 z4 z5 t1 t2 t3 t4 t5) 64))
 have hto : SlB 1 ((r.or s5).or (Go.Sh.one b6 (ptL p z1 z2 z3 z4 z5 t1 t2 t3 t4 t5) 64)) ZK (.slice z1 p.to.ps.length t1) p.to.ps:=by
  obtain ⟨vq,hE,hq'⟩:=kto
  cases hE
  exact hq'.cells
 have hp0':=hp0.up (s:=(r.or s5).or (Go.Sh.one b6 (ptL p z1 z2 z3 z4 z5 t1 t2 t3 t4 t5) 64))
 generalize (r.or s5).or (Go.Sh.one b6 (ptL p z1 z2 z3 z4 z5 t1 t2 t3 t4 t5) 64)=r' at S hd hp6 hs5 hto hp0'
 have hJ0:=hf.ext _ _ _ _ h0 E4
 obtain ⟨q5,c5,rfl,_,_⟩:=hs5.shape
 have hol : (p.a::p.b::p.args).length≤1002:=by simp;omega
 generalize hops : p.a::p.b::p.args=ops at hs5 hol
 have hxs : zF p=kk ops++((if p.op=4 then [p.fr.l] else [])++(if p.op=14∨(xr p=true∧-1 ∈ p.to.ps) then [p.to.l] else [])):=by rw [zF,hops]
 rw [hxs] at hf h
 refine gg_ ?_
 refine zi (ι:=Nat × (Nat→Prop)) (fun i=>[.int .i64 (i.1 : Nat)]) (fun i w'=>i.1≤ops.length∧J (kk (ops.take i.1)).length i.2 w'∧Drt D0 w.heap.size r' w' [] i.2∧StX D0 w r' w' []) (fun i=>ops.length - i.1) (0,D0) rfl ⟨Nat.zero_le _,hJ0,hd,S⟩ ?_
 clear S hd hJ0 E4
 rintro ⟨i,D⟩ d w8 ⟨hi,hJ,hd,S⟩ K5 hK5
 simp only at hi hJ hd S ⊢
 rw [List.getD_cons_zero]
 refine gg_ ?_
 refine zk (fun hlti=>?_) (fun hge=>?_)
 ·have hlti : i<ops.length:=by omega
  obtain ⟨bo,oo,co,hqo,hcl,hoc,hoo⟩:=hs5.get (by decide) hlti
  have hnx:=aig hlti
  have hpre:=ajj (l:=ops) (i:=i+1)
  rw [hnx] at hpre
  generalize ops[i]=o at hoc hnx hpre
  obtain ⟨qo,ko,rfl⟩:=acn hoc
  cases hqo
  refine gg_ ?_
  refine zq (n:=4) rfl (fun j v hj=>by rw [Int.toNat_natCast];exact S.at (hoo j v hj)) ?_
  have R : StX noX w8 r' w8 []:=St.start S.holds
  refine R.al fun b8 w9 R=>?_
  refine R.stB (b:=b8) fun w10 R=>?_
  have R : StX noX w8 r' w10 [.cell b8 [.int .u8 o.k,.int .i64 o.n,.int .i64 o.pl.l,.slice qo o.pl.ps.length ko] 61]:=R
  refine gg_ ?_
  refine R.ld (b:=b8) ?_
  refine gg_ ?_
  refine zj (c:=decide (o.k=4)) (fun _ K2 hK2=>?_) ?_
  ·refine gg_ ?_
   refine R.ld (b:=b8) ?_
   refine gg_ ?_
   exact hK2
  have hpl : kW o=(decide (o.k=3)||decide (o.k=4)):=rfl
  rw [← hpl]
  have S:=S.go R.ext
  have hd:=hd.more R.ext.size
  have hJ:=hf.ext _ _ _ _ hJ R.ext
  cases hc : kW o with
  |false=>
   rw [hc] at hnx
   rw [if_neg (by decide),List.append_nil] at hnx
   (intro K9 hK9;refine gd_ ?_;refine hK9 _ _ fun _=>?_;clear hK9 K9)
   refine gd_ ?_
   refine c_f rfl ?_
   refine gg_ ?_
   refine hK5 (i+1,D) _ ⟨hlti,?_,hd,S⟩ (by show ops.length - (i+1)<ops.length - i;omega)
   show J (kk (ops.take (i+1))).length D w10
   rw [hnx];exact hJ
  |true=>
   rw [hc,if_pos rfl] at hnx hpre
   have hget:=akk (C:=(if p.op=4 then [p.fr.l] else [])++(if p.op=14∨(xr p=true∧-1 ∈ p.to.ps) then [p.to.l] else [])) hpre
   refine zp (fun s w'=>∃ b,s = [.bool (!b)]∧if b=true then ∃ D2 : Nat→Prop,J (kk (ops.take (i+1))).length D2 w'∧Drt D0 w.heap.size r' w' [] D2∧StX D0 w r' w' [] else Jx w') (fun K15 hK15=>?_) ?_
   ·refine g_TT ?_
    refine gg_ ?_
    refine R.ld (b:=b8) ?_
    refine hf.call _ _ _ _ hget hJ _ fun b W2 e2 hb2=>?_
    refine gp_ ?_
    refine hK15 _ _ ⟨b,rfl,?_⟩
    cases b with
    |false=>exact hb2
    |true=>
     obtain ⟨D2,hd2,hj2⟩:=hb2
     refine ⟨D2,?_,hd.next S e2.size hd2,S.dirty e2 hd⟩
     rw [hnx,List.length_append,List.length_singleton];exact hj2
   rintro _ w18 ⟨b,rfl,hb2⟩ d
   refine gd_ ?_
   cases b with
   |false=>
    refine c_t rfl ?_
    exact h _ (.inr hb2)
   |true=>
    refine c_f rfl ?_
    obtain ⟨D2,hj2,hd2,S2⟩:=hb2
    refine gg_ ?_
    exact hK5 (i+1,D2) _ ⟨hlti,hj2,hd2,S2⟩ (by show ops.length - (i+1)<ops.length - i;omega)
 have hie : i=ops.length:=by omega
 clear hK5 K5 hge hi d
 subst hie
 rw [List.take_length] at hJ
 clear hs5
 generalize hA : kk ops=A at hJ hf h
 clear hxs hol hA hops
 refine gg_ ?_
 refine zg (S.at (hp6 0 _ rfl)) ?_
 refine gg_ ?_
 refine zp (fun s w'=>∃ b : Bool,(p.op=4→s.getD 0 undef = .bool (!b))∧(p.op≠4→b=true)∧if b=true then ∃ D2 : Nat→Prop,J (A++(if p.op=4 then [p.fr.l] else [])).length D2 w'∧Drt D0 w.heap.size r' w' [] D2∧StX D0 w r' w' [] else Jx w') (fun K21 hK21=>?_) ?_
 ·by_cases h4 : p.op=4
  ·rw [decide_eq_true h4]
   rw [if_pos h4] at hf hK21
   refine g_TT ?_
   refine gg_ ?_
   refine zg (S.at (hp6 13 _ rfl)) ?_
   refine hf.call A.length _ _ _ (by simp) hJ _ fun b W2 e2 hb2=>?_
   refine gp_ ?_
   refine hK21 _ _ ⟨b,fun _=>rfl,fun h=>absurd h4 h,?_⟩
   cases b with
   |false=>exact hb2
   |true=>
    obtain ⟨D2,hd2,hj2⟩:=hb2
    exact ⟨D2,by rw [List.length_append];exact hj2,hd.next S e2.size hd2,S.dirty e2 hd⟩
  ·rw [decide_eq_false h4]
   rw [if_neg h4,List.append_nil] at hK21
   refine gd_ ?_
   exact hK21 _ _ ⟨true,fun h=>absurd h h4,fun _=>rfl,D,hJ,hd,S⟩
 clear S hd hJ
 rintro s w18 ⟨b,hs1,hs2,hb2⟩ d
 refine aji (b:=!b) (fun hc=>hs1 (of_decide_eq_true hc)) (fun hc=>by rw [hs2 (of_decide_eq_false hc)];rfl) ?_
 clear hs1 hs2
 cases b with
 |false=>
  refine c_t rfl ?_
  exact h _ (.inr hb2)
 |true=>
 refine c_f rfl ?_
 obtain ⟨D,hJ,hd,S⟩:=hb2
 rw [← List.append_assoc] at hf h
 generalize A++(if p.op=4 then [p.fr.l] else [])=B at hf h hJ
 refine gg_ ?_
 refine zg (S.at (hp6 0 _ rfl)) ?_
 refine gg_ ?_
 have fin : ∀ W D,J B.length D W→(p.op=14∨(xr p=true∧-1 ∈ p.to.ps))→zH Tryz.prog f #[.int .i64 p.to.l] W fun _ w41=>K (.tuple #[]) w41:=fun W D hJ hc=>by
  rw [if_pos hc] at hf h
  refine hf.call B.length _ _ _ (by simp) hJ _ fun b W2 e2 hb2=>?_
  cases b with
  |false=>exact h _ (.inr hb2)
  |true=>
   obtain ⟨D2,hd2,hj2⟩:=hb2
   exact h _ (.inl ⟨D2,by rw [List.length_append];exact hj2⟩)
 by_cases h14 : p.op=14
 ·rw [decide_eq_true h14]
  (intro K9 hK9;refine gd_ ?_;refine hK9 _ _ fun _=>?_;clear hK9 K9)
  (intro K9 hK9;refine gd_ ?_;refine hK9 _ _ fun _=>?_;clear hK9 K9)
  (intro K9 hK9;refine gd_ ?_;refine hK9 _ _ fun _=>?_;clear hK9 K9)
  refine gd_ ?_
  refine c_t rfl ?_
  refine gg_ ?_
  refine zg (S.at (hp6 1 _ rfl)) ?_
  exact fin _ _ hJ (.inl h14)
 rw [decide_eq_false h14]
 refine zp (fun s w'=>s = [.bool (xr p)]∧Ext w18 w') (fun K27 hK27=>?_) ?_
 ·refine g_FF ?_
  refine zq (n:=21) rfl (fun j v hj=>by rw [Nat.zero_add];exact S.at (hp6 j v hj)) ?_
  refine X9 S.holds hp0' fun w19 e19=>?_
  exact hK27 _ _ ⟨rfl,e19⟩
 rintro _ w19 ⟨rfl,e19⟩ d2
 rw [List.getD_cons_zero]
 have S:=S.go e19
 have hd:=hd.more e19.size
 have hJ:=hf.ext _ _ _ _ hJ e19
 cases hc : xr p with
 |false=>
  have hno : ¬ (p.op=14∨(xr p=true∧-1 ∈ p.to.ps)):=by rintro (h|⟨h,_⟩);exact h14 h;rw [hc] at h;cases h
  rw [if_neg hno,List.append_nil] at hf h
  (intro K9 hK9;refine gd_ ?_;refine hK9 _ _ fun _=>?_;clear hK9 K9)
  (intro K9 hK9;refine gd_ ?_;refine hK9 _ _ fun _=>?_;clear hK9 K9)
  refine gd_ ?_
  refine c_f rfl ?_
  exact h _ (.inl ⟨D,hJ⟩)
 |true=>
  refine zp (fun s w'=>s = [.bool (decide (-1 ∈ p.to.ps))]∧w'=w19) (fun K32 hK32=>?_) ?_
  ·refine g_TT ?_
   refine gg_ ?_
   refine zg (S.at (hp6 2 _ rfl)) ?_
   refine abO S.holds hto ?_
   exact hK32 _ _ ⟨rfl,rfl⟩
  rintro _ w20 ⟨rfl,rfl⟩ d3
  rw [List.getD_cons_zero]
  (intro K9 hK9;refine gd_ ?_;refine hK9 _ _ fun _=>?_;clear hK9 K9)
  refine gd_ ?_
  refine c_b (fun hm=>?_) (fun hm=>?_)
  ·have hm:=of_decide_eq_true hm
   refine gg_ ?_
   refine zg (S.at (hp6 1 _ rfl)) ?_
   exact fin _ _ hJ (.inr ⟨hc,hm⟩)
  ·have hm:=of_decide_eq_false hm
   have hno : ¬ (p.op=14∨(xr p=true∧-1 ∈ p.to.ps)):=by rintro (h|⟨_,h⟩);exact h14 h;exact hm h
   rw [if_neg hno,List.append_nil] at hf h
   exact h _ (.inl ⟨D,hJ⟩)
end Go.Proofs
end
section
namespace Go.Proofs.Tryz
open Go.Sh
set_option maxRecDepth 100000
def V6 (t0 : Value) (w : World) (K : VW) : Prop:=
 pw w (Instr.box 49 t0) fun t1 w1=>
 fl w1 t1 49 0 3 fun t5=>bt .lss 3 t5 (i6 0) fun t6=>za (fun K2=>gIf t6 false (fl w1 t1 49 0 3 fun t9=>bt .gtr 3 t9 (i6 1032) fun t10=>K2 [t10] w1) (K2 [undef] w1)) (fun s3 _d4 w5=>
 zb t6 tr_ (s3.getD 0 undef) fun t11=>za (fun K6=>gIf t11 false (fl w5 t1 49 1 47 fun t14=>pp (Builtin.len_ #[47] 3 #[t14]) fun t15=>fl w5 t1 49 0 3 fun t17=>bt .add 3 t17 (i6 63) fun t18=>bt .quo 3 t18 (i6 64) fun t19=>bf .neq 3 t15 t19 fun t20=>K6 [t20] w5) (K6 [undef] w5)) (fun s7 _d8 w9=>
 zb t11 tr_ (s7.getD 0 undef) fun t21=>zc t21 (K fa_ w9) (fl w9 t1 49 0 3 fun t23=>zo [t23] w9 (fun s11 _d12 w13 K10=>
 fl w13 t1 49 1 47 fun t26=>pp (Builtin.len_ #[47] 3 #[t26]) fun t27=>bt .mul 3 (i6 64) t27 fun t28=>bf .lss 3 (s11.getD 0 undef) t28 fun t29=>zc t29 (fl w13 t1 49 1 47 fun t33=>bt .quo 3 (s11.getD 0 undef) (i6 64) fun t35=>xl w13 47 t33 t35 53 fun t37=>bt .rem 3 (s11.getD 0 undef) (i6 64) fun t39=>bf .shr 53 t37 t39 fun t40=>bt .and 53 t40 (Value.int .u64 1) fun t41=>bt .eql 53 t41 (Value.int .u64 1) fun t42=>zc t42 (K fa_ w13) (bt .add 3 (s11.getD 0 undef) (i6 1) fun t31=>K10 [t31] w13)) (K tr_ w13)))))
theorem afq {t0 : Value} {w : World} {K : VW} (h : V6 t0 w K) : zd prog XF #[t0] w K:=
 okC false (.s (.r (rz 2 0 2)) (.s (.s (.r (ra 4 0 4 (.grp 7 false (ri 3 4 4) [10] (ra 2 7 0 (.grp 12 false (ri 8 9 260) [20] (rz 1 17 0)))))) (.c (.s (.r (rz 1 0 0)) (.n)) (.n))) (.s (.s (.r (rz 3 0 4)) (.b (.lp [3] (.s (.s (.r (rz 6 0 16)) (.c (.n) (.n))) (.s (.b (.s (.r (rz 11 0 1028)) (.c (.s (.r (rz 1 0 0)) (.n)) (.n)))) (.r (rz 3 0 0))))))) (.s (.r (rz 1 0 0)) (.n))))) func12 rfl (by kernel_rfl) (by kernel_rfl) h
def JW (t0 : Value) (w : World) (K : VW) : Prop:=
 pw w (Instr.box 49 t0) fun t1 w1=>
 zo [(Value.slice Option.none 0 0),(i6 0)] w1 (fun s3 _d4 w5 K2=>
 fl w5 t1 49 0 3 fun t7=>bf .lss 3 (s3.getD 1 undef) t7 fun t8=>zc t8 (za (fun K6=>
 lo w5 49 t1 fun t11=>ca Qt #[t11,(s3.getD 1 undef)] w5 fun t13 w10=>
 zc t13 (pw w10 (Instr.buildSlice 32 1 #[(0,(s3.getD 1 undef))]) fun t16 w11=>
 pw w11 (Builtin.append_ #[32,32] 32 #[(s3.getD 0 undef),t16]) fun t17 w12=>
 K6 [t17] w12) (K6 [(s3.getD 0 undef)] w10)) (fun s7 _d8 w9=>
 bt .add 3 (s3.getD 1 undef) (i6 1) fun t10=>K2 [(s7.getD 0 undef),t10] w9)) (K (s3.getD 0 undef) w5))
theorem adT {t0 : Value} {w : World} {K : VW} (h : JW t0 w K) : zd prog vc #[t0] w K:=
 okC false (.s (.r (rz 2 0 2)) (.s (.r (rz 1 0 0)) (.s (.s (.r (rz 1 0 0)) (.b (.lp [3,4] (.s (.s (.r (rz 4 0 16)) (.c (.n) (.n))) (.j [3] (.b (.s (.r (rz 3 0 33)) (.c (.r (rz 5 0 160)) (.n)))) (.r (rz 3 0 0))))))) (.s (.r (rz 2 0 0)) (.n))))) func14 rfl (by kernel_rfl) (by kernel_rfl) h
def abP (t0 t1 : Value) (w : World) (K : VW) : Prop:=
 pw w (Instr.box 49 t0) fun t2 w1=>
 fl w1 t2 49 1 47 fun t6=>bt .quo 3 t1 (i6 64) fun t8=>xl w1 47 t6 t8 53 fun t10=>bt .rem 3 t1 (i6 64) fun t12=>bf .shr 53 t10 t12 fun t13=>bt .and 53 t13 (Value.int .u64 1) fun t14=>bt .eql 53 t14 (Value.int .u64 1) fun t15=>K t15 w1
theorem af3 {t0 t1 : Value} {w : World} {K : VW} (h : abP t0 t1 w K) : zd prog Qt #[t0,t1] w K:=
 okC false (.s (.r (rz 2 0 2)) (.s (.r (rz 12 0 1028)) (.n))) func31 rfl (by kernel_rfl) (by kernel_rfl) h
def abQ (t0 : Value) (w : World) (K : VW) : Prop:=
 pw w (Instr.alloc 49 true (.tuple #[])) fun t2 w1=>
 bt .lss 3 t0 (i6 0) fun t5=>za (fun K2=>gIf t5 false (bt .gtr 3 t0 (i6 1032) fun t8=>K2 [t8] w1) (K2 [undef] w1)) (fun s3 _d4 w5=>
 zb t5 tr_ (s3.getD 0 undef) fun t9=>zc t9 (pp (Instr.build 49 #[]) fun t10=>so w5 49 t2 t10 fun w6=>pq w6 (zn 49 t2) fun r7=>K (.tuple #[r7,(i6 2)]) w6) (bt .add 3 t0 (i6 63) fun t13=>bt .quo 3 t13 (i6 64) fun t14=>pw w5 (Instr.makeSlice 47 t14 t14) fun t15 w8=>
 pp (Instr.build 49 #[(0,t0),(1,t15)]) fun t16=>so w8 49 t2 t16 fun w9=>pq w9 (zn 49 t2) fun r10=>K (.tuple #[r10,(i6 0)]) w9))
theorem af4 {t0 : Value} {w : World} {K : VW} (h : abQ t0 w K) : zd prog Qu #[t0] w K:=
 okC false (.s (.r (rz 2 0 2)) (.s (.s (.r (ra 3 0 0 (.grp 6 false (ri 2 3 0) [8] (rz 1 5 0)))) (.c (.s (.r (rz 3 0 8)) (.n)) (.n))) (.s (.r (rz 8 0 8704)) (.n)))) func22 rfl (by kernel_rfl) (by kernel_rfl) h
def abR (t0 : Value) (w : World) (K : VW) : Prop:=
 pw w (Instr.box 49 t0) fun t1 w1=>
 fl w1 t1 49 0 3 fun t4=>bt .lss 3 t4 (i6 0) fun t5=>za (fun K2=>gIf t5 false (fl w1 t1 49 0 3 fun t8=>bt .gtr 3 t8 (i6 1032) fun t9=>K2 [t9] w1) (K2 [undef] w1)) (fun s3 _d4 w5=>
 zb t5 tr_ (s3.getD 0 undef) fun t10=>za (fun K6=>gIf t10 false (fl w5 t1 49 1 47 fun t13=>pp (Builtin.len_ #[47] 3 #[t13]) fun t14=>fl w5 t1 49 0 3 fun t16=>bt .add 3 t16 (i6 63) fun t17=>bt .quo 3 t17 (i6 64) fun t18=>bf .neq 3 t14 t18 fun t19=>K6 [t19] w5) (K6 [undef] w5)) (fun s7 _d8 w9=>
 zb t10 tr_ (s7.getD 0 undef) fun t20=>zc t20 (K fa_ w9) (fl w9.drew t1 49 0 3 fun t22=>bt .rem 3 t22 (i6 64) fun t23=>bt .eql 3 t23 (i6 0) fun t24=>za (fun K10=>gIf t24 false (fl w9.drew t1 49 1 47 fun t27=>fl w9.drew t1 49 1 47 fun t29=>pp (Builtin.len_ #[47] 3 #[t29]) fun t30=>bt .sub 3 t30 (i6 1) fun t31=>xl w9.drew 47 t27 t31 53 fun t33=>fl w9.drew t1 49 0 3 fun t35=>bt .rem 3 t35 (i6 64) fun t36=>bf .shr 53 t33 t36 fun t37=>bt .eql 53 t37 (Value.int .u64 0) fun t38=>K10 [t38] w9.drew) (K10 [undef] w9.drew)) (fun s11 _d12 w13=>
 zb t24 tr_ (s11.getD 0 undef) fun t39=>K t39 w13))))
theorem af5 {t0 : Value} {w : World} {K : VW} (h : abR t0 w K) : zd prog Qv #[t0] w K:=
 okC false (.s (.r (rz 2 0 2)) (.s (.s (.r (ra 4 0 4 (.grp 6 false (ri 3 4 4) [9] (ra 2 7 0 (.grp 11 false (ri 8 9 260) [19] (rz 1 17 0)))))) (.c (.s (.r (rz 1 0 0)) (.n)) (.n))) (.s (.r (ra 5 0 4 (.grp 25 false (ri 13 5 278596) [38] (rz 2 18 0)))) (.n)))) func44 rfl (by kernel_rfl) (by kernel_rfl) h
end Go.Proofs.Tryz
end
section
namespace Go.Proofs
open Go.Sh Go.RowKit Go.BM
set_option maxRecDepth 100000
set_option linter.unusedSimpArgs false
set_option linter.unusedVariables false
def WdC (c : List Value) (x : BitVec 64) : Prop:=c = [u64 x]
def RwbC (r : Gh) (c : List Value) (x : Int × List (BitVec 64)) : Prop:=∃ p cap,c = [.int .i64 x.1,.slice p x.2.length cap]∧SlB 1 r WdC (.slice p x.2.length cap) x.2
theorem RwbC.up {r s : Gh} {c : List Value} {x : Int × List (BitVec 64)} (h : RwbC r c x) [le : Le r s] : RwbC s c x:=by
 obtain ⟨p,cap,h1,h2⟩:=h;exact ⟨p,cap,h1,h2.cells⟩
theorem abS {r : Gh} {p : Option Addr} {n cap : Nat} {l : List (BitVec 64)} (h : SlG 1 r WdC (.slice p n cap) l) {i : Nat} (hi : i<l.length) : ∃ b off,p=some ⟨b,off,none⟩∧n=l.length∧Ob r fun w=>w.cell? ⟨b,off+i,none⟩=some (u64 l[i]):=afm (V:=u64) h hi
theorem ahk {W : Int} {ws : List (BitVec 64)} {c : List Value} {w : World} {r : Gh} {K : Value→World→Prop} (hr : Holds r w) (hx : RwbC r c (W,ws))
  (h : ∀ w',Ext w w'→K (.bool (BM.mayB W ws)) w') : zd Tryz.prog Tryz.Qv #[.agg c.toArray] w K:=by
 refine Tryz.af5 ?_
 unfold Tryz.abR
 obtain ⟨p,cap,rfl,hS⟩:=hx
 have hfew : ws.length≤9223372036854775807:=hS.few
 have S:=St.start hr
 refine S.box fun b1 w1 S=>?_
 have S : StX noX w r w1 [.cell b1 [.int .i64 W,.slice p ws.length cap] 49]:=S
 refine gg_ ?_
 refine zj (c:=decide (1032<W)) (fun _ K2 hK2=>by refine gg_ ?_;exact hK2) ?_
 refine zj (c:=decide ((ws.length : Int)≠(W+63) / 64)) (fun hb K2 hK2=>?_) ?_
 ·simp only [Bool.or_eq_false_iff,decide_eq_false_iff_not] at hb
  refine gg_ ?_
  exact hK2
 refine c_b (fun hb=>?_) (fun hb=>?_)
 ·rw [BM.mayB_false (fun hm=>by
   simp only [Bool.or_eq_true,decide_eq_true_eq] at hb
   have:=hm.1;have:=hm.2.1;have:=hm.2.2.1
   omega)] at h
  exact h _ S.ext
 simp only [Bool.or_eq_false_iff,decide_eq_false_iff_not,Decidable.not_not] at hb
 obtain ⟨⟨h0,h1⟩,h2⟩:=hb
 have S:=S.go (Ext.drew _)
 refine gg_ ?_
 by_cases h3 : W % 64=0
 ·rw [decide_eq_true h3]
  refine zj (c:=true) (fun hc=>by cases hc) ?_
  rw [BM.mayB_true (aiC (by omega) (by omega) h2 h3)] at h
  exact h _ S.ext
 rw [decide_eq_false h3]
 have hlt : ws.length - 1<ws.length:=by omega
 obtain ⟨b2,o2,rfl,_,hc⟩:=abS hS.sl hlt
 have hz : (((ws[ws.length - 1] >>> (W % 64).toNat).toNat : Int)=0)↔BM.May W ws:=by
  rw [aiB (by omega) (by omega) h2 h3 hlt]
  constructor
  ·intro hz;apply BitVec.eq_of_toNat_eq;have h9 : (ws[ws.length - 1] >>> (W % 64).toNat).toNat=0:=by omega
   rw [h9];rfl
  ·intro hz;rw [hz];rfl
 have hE : BM.mayB W ws=decide (((ws[ws.length - 1] >>> (W % 64).toNat).toNat : Int)=0):=by unfold BM.mayB;simp only [← hz]
 rw [hE] at h
 generalize ws[ws.length - 1]=x at hc h
 refine zj (c:=decide (((x >>> (W % 64).toNat).toNat : Int)=0)) (fun _ K2 hK2=>?_) ?_
 ·refine gg_ ?_
  refine zg (by rw [show ((ws.length : Int) - 1).toNat=ws.length - 1 by omega];exact S.at hc) ?_
  refine gg_ ?_
  exact hK2
 exact h _ S.ext
theorem ahl {W : Int} {ws : List (BitVec 64)} {k : Int} {c : List Value} {w : World} {r : Gh} {K : Value→World→Prop} (hr : Holds r w) (hx : RwbC r c (W,ws)) (hk : 0≤k) (hk2 : k<64*ws.length) (hl : ws.length≤100000)
  (h : ∀ w',Ext w w'→K (.bool (bit ws k.toNat)) w') : zd Tryz.prog Tryz.Qt #[.agg c.toArray,.int .i64 k] w K:=by
 refine Tryz.af3 ?_
 unfold Tryz.abP
 obtain ⟨p,cap,rfl,hS⟩:=hx
 have hfew : ws.length≤9223372036854775807:=hS.few
 have S:=St.start hr
 refine S.box fun b1 w1 S=>?_
 have S : StX noX w r w1 [.cell b1 [.int .i64 W,.slice p ws.length cap] 49]:=S
 have hlt : k.toNat / 64<ws.length:=by omega
 obtain ⟨b2,o2,rfl,_,hc⟩:=abS hS.sl hlt
 have hB : bit ws k.toNat=decide (((ws[k.toNat / 64] >>> (k.toNat % 64)) &&& BitVec.ofInt 64 1).toNat=(1 : Int)):=by
  rw [bit,List.getD_eq_getElem?_getD,List.getElem?_eq_getElem hlt,Option.getD_some,Bool.eq_iff_iff,decide_eq_true_eq,Xu]
 rw [hB] at h
 generalize ws[k.toNat / 64]=x at hc h
 refine gg_ ?_
 refine zg (by rw [show (k / 64).toNat=k.toNat / 64 by omega];exact S.at hc) ?_
 refine gg_ ?_
 rw [show (k % 64).toNat=k.toNat % 64 by omega]
 exact h _ S.ext
end Go.Proofs
end
section
namespace Go.Proofs
open Go.Sh Go.RowKit
set_option maxRecDepth 100000
set_option linter.unusedSimpArgs false
set_option linter.unusedVariables false
abbrev aea (x : Int) : List Value:=[.int .i64 x]
theorem adg {fid : FuncId} (he : xk Tryz.prog fid=true) (hok : ∀ {t0 t1 t2 : Value} {w : World} {K : Value→World→Prop},Tryz.qz t0 t1 t2 w K→zd Tryz.prog fid #[t0,t1,t2] w K)
  {g : GrD} {p : PtD} {q : Int} {v : Value} {w : World} {r : Gh} {b1 b2 : Nat} {D0 : Nat→Prop} (hr : Holds r w) (hx : LookG r v g)
  (h1 : Ob r fun w=>w.cell? ⟨b1,0,none⟩=some v) (h2 : Ob r fun w=>w.cell? ⟨b2,0,none⟩=some (.int .i64 q)) (hq : 0≤q) (hp : g.pts[q.toNat]? = some p) (hb : p.args.length≤1000)
  (hD : ∀ d,D0 d→d<w.heap.size∧∀ o,¬ r d o) : ad4 Tryz.prog (.func (.func fid) #[] #[.pointer (some ⟨b1,0,none⟩),.pointer (some ⟨b2,0,none⟩)]) w ((zF p).map aea) D0:=by
 refine ⟨_,_,rfl,he,fun l W J Jx hW hl hlW hJ hJx hround h0=>?_⟩
 have S : StX noX W r W []:=St.start (hr.ext hW)
 refine Calls.mono (hok (t0:=.func (.yield l) #[] #[]) (t1:=.pointer (some ⟨b1,0,none⟩)) (t2:=.pointer (some ⟨b2,0,none⟩)) (K:=fun _ W'=>(∃ D,J (zF p).length D W')∨Jx W') ?_) (fun e W' hh=>?_)
 rotate_left
 ·obtain ⟨v,he,hk⟩:=hh
  exact ⟨⟨v,he⟩,by rwa [List.length_map]⟩
 unfold Tryz.qz
 refine zg (S.at h1) ?_
 refine zg (S.at h2) ?_
 refine V5 (D0:=fun b=>D0 b∨b=l) (J:=fun k D' W1=>∃ D,D'=(fun b=>D b∨b=l)∧J k D W1∧l<W1.heap.size) (Jx:=Jx) S.holds hx hq hp hb ?_ ?_ ⟨D0,rfl,h0,hlW⟩ ?_
 ·rintro d (hd|rfl)
  ·obtain ⟨h3,h4⟩:=hD d hd
   exact ⟨Nat.lt_of_lt_of_le h3 hW.size,h4⟩
  ·exact ⟨hlW,fun o ho=>by have:=hr.lt ho;omega⟩
 ·refine ⟨?_,hJx,?_⟩
  ·rintro k _ W1 W2 ⟨D,rfl,hj,hlt⟩ e
   exact ⟨D,rfl,hJ _ _ _ _ hj e,Nat.lt_of_lt_of_le hlt e.size⟩
  ·rintro k _ W1 x hx ⟨D,rfl,hj,hlt⟩ K1 hK1
   refine ajZ (YieldC.mono (hround k (aea x) D W1 (by rw [List.getElem?_map,hx];rfl) hj) ?_)
   rintro e W2 ⟨b,rfl,hx2,hb2⟩
   refine ⟨_,rfl,hK1 b W2 hx2 ?_⟩
   cases b with
   |false=>exact hb2
   |true=>
    obtain ⟨D2,hd2,hj2⟩:=hb2
    refine ⟨fun b=>D2 b∨b=l,?_,D2,rfl,hj2,Nat.lt_of_lt_of_le hlt hx2.size⟩
    rintro d (hd|rfl)
    ·exact (hd2 d hd).imp .inl id
    ·exact .inl (.inr rfl)
 ·rintro W' (⟨_,D,rfl,hj,_⟩|hj)
  ·exact .inl ⟨D,hj⟩
  ·exact .inr hj
set_option maxHeartbeats 1000000 in
theorem XG {g : GrD} {p : PtD} {q x : Int} {v : Value} {w : World} {r : Gh} {K : Value→World→Prop} (hr : Holds r w) (hx : LookG r v g) (hq : 0≤q) (hp : g.pts[q.toNat]? = some p) (hb : p.args.length≤1000)
  (h : ∀ w',Ext w w'→K (.bool (decide (x ∈ zF p))) w') : zd Tryz.prog Tryz.xz #[v,.int .i64 q,.int .i64 x] w K:=by
 refine Tryz.VE ?_
 unfold Tryz.YP
 obtain ⟨bl,_,_,_,_,_,_,_,_,_,hv,_⟩:=id hx
 subst hv
 have S:=St.start hr
 have hlow:=S.low
 refine S.boxN fun b3 w1 _ S=>?_
 refine S.boxN fun b4 w2 _ S=>?_
 refine S.boxN fun b5 w3 _ S=>?_
 refine S.alN fun b6 w4 _ S=>?_
 have S : StX noX w r w4 [.cell b6 [.bool false] 4,.cell b5 [.int .i64 x] 3,.cell b4 [.int .i64 q] 3,.cell b3 [.pointer (some ⟨bl,0,none⟩)] 73]:=S
 have hb3:=(S.mine (.cell b3 [.pointer (some ⟨bl,0,none⟩)] 73) (by simp) b3 rfl).1.resolve_right id
 have hb4:=(S.mine (.cell b4 [.int .i64 q] 3) (by simp) b4 rfl).1.resolve_right id
 have S:=S.frzAt b3
 have S:=S.frzAt b4
 have S:=S.frzAt b5
 have S : StX noX w (((r.or (Go.Sh.one b3 [.pointer (some ⟨bl,0,none⟩)] 73)).or (Go.Sh.one b4 [.int .i64 q] 3)).or (Go.Sh.one b5 [.int .i64 x] 3)) w4 [.cell b6 [.bool false] 4]:=S
 have h3 : Ob (((r.or (Go.Sh.one b3 [.pointer (some ⟨bl,0,none⟩)] 73)).or (Go.Sh.one b4 [.int .i64 q] 3)).or (Go.Sh.one b5 [.int .i64 x] 3)) fun w=>w.cell? ⟨b3,0,none⟩=some (.pointer (some ⟨bl,0,none⟩)):=fun w' hw'=>by
  have B : Blk w' b3 [.pointer (some ⟨bl,0,none⟩)] 73:=zG w' (hw'.le (h:=inferInstance))
  exact B.cell 0
 have h4 : Ob (((r.or (Go.Sh.one b3 [.pointer (some ⟨bl,0,none⟩)] 73)).or (Go.Sh.one b4 [.int .i64 q] 3)).or (Go.Sh.one b5 [.int .i64 x] 3)) fun w=>w.cell? ⟨b4,0,none⟩=some (.int .i64 q):=fun w' hw'=>by
  have B : Blk w' b4 [.int .i64 q] 3:=zG w' (hw'.le (h:=inferInstance))
  exact B.cell 0
 have h5 : Ob (((r.or (Go.Sh.one b3 [.pointer (some ⟨bl,0,none⟩)] 73)).or (Go.Sh.one b4 [.int .i64 q] 3)).or (Go.Sh.one b5 [.int .i64 x] 3)) fun w=>w.cell? ⟨b5,0,none⟩=some (.int .i64 x):=fun w' hw'=>by
  have B : Blk w' b5 [.int .i64 x] 3:=zG w' (hw'.le (h:=inferInstance))
  exact B.cell 0
 have hx':=hx.up (s:=((r.or (Go.Sh.one b3 [.pointer (some ⟨bl,0,none⟩)] 73)).or (Go.Sh.one b4 [.int .i64 q] 3)).or (Go.Sh.one b5 [.int .i64 x] 3))
 have hlow' : Low w.heap.size (((r.or (Go.Sh.one b3 [.pointer (some ⟨bl,0,none⟩)] 73)).or (Go.Sh.one b4 [.int .i64 q] 3)).or (Go.Sh.one b5 [.int .i64 x] 3)):=inferInstance
 generalize ((r.or (Go.Sh.one b3 [.pointer (some ⟨bl,0,none⟩)] 73)).or (Go.Sh.one b4 [.int .i64 q] 3)).or (Go.Sh.one b5 [.int .i64 x] 3)=r' at S h3 h4 h5 hx' hlow'
 clear hlow
 refine gp_ ?_
 have hD : ∀ d,(fun b=>b=b6) d→d<w4.heap.size∧∀ o,¬ r' d o:=by
  rintro d rfl
  exact ⟨S.dlt (.inl rfl),fun o=>(S.mine (.cell d [.bool false] 4) (by simp) d rfl).2 o⟩
 have hw4 : w.heap.size≤w4.heap.size:=S.x.size
 have hlow4:=S.low
 refine alz ((zF p).map aea) (fun b=>b=b6) (fun k D W=>D=(fun b=>b=b6)∧x ∉ (zF p).take k∧StX noX w r' W [.cell b6 [.bool false] 4]) (fun W=>x ∈ zF p∧StX noX w r' W [.cell b6 [.bool true] 4]) ?_ (adg (by kernel_rfl) (fun h=>Tryz.Q2 h) S.holds hx' h3 h4 hq hp hb hD) ?_ ?_ ?_ ⟨rfl,by simp,S⟩ ?_ ?_ ?_
 ·rintro b rfl
  exact ⟨_,S.has (.cell b [.bool false] 4) (by simp),rfl⟩
 ·intro y hy
  obtain ⟨z,_,rfl⟩:=List.mem_map.1 hy
  rfl
 ·rintro k D W W' ⟨h1,h2,S⟩ e
  exact ⟨h1,h2,S.nl e hw4⟩
 ·rintro W W' ⟨h1,S⟩ e
  exact ⟨h1,S.nl e hw4⟩
 ·rintro k y D W hy ⟨rfl,hno,S⟩ KR hN hR
  rw [List.getElem?_map,Option.map_eq_some_iff] at hy
  obtain ⟨z,hz,rfl⟩:=hy
  refine ⟨.refl _,fun W9 e9=>?_⟩
  have S:=S.nl e9 hw4
  rw [List.getD_cons_zero]
  refine zg (S.at h5) ?_
  refine gg_ ?_
  refine zk (fun he=>?_) (fun he=>?_)
  ·have R:=S.part
   refine R.stN' (b:=b6) fun w10 R=>?_
   have S2:=S.whole R fun _ h=>h
   refine ⟨⟨R.x.os,R.x.tape,R.x.output,R.x.size,fun k hk hn=>R.x.block k hk fun h=>h.elim hn fun h=>h⟩,hR _ ⟨?_,S2⟩⟩
   rw [← he]
   exact List.mem_of_getElem? hz
  ·refine ⟨.refl _ _,hN _ _ (fun d hd=>.inl hd) ⟨rfl,?_,S⟩⟩
   obtain ⟨hk,hze⟩:=List.getElem?_eq_some_iff.1 hz
   rw [List.take_succ_eq_append_getElem hk,List.mem_append,List.mem_singleton,hze]
   exact fun h=>h.elim hno fun e=>he e.symm
 ·rintro D W ⟨_,hno,S⟩
  rw [List.length_map,List.take_length] at hno
  refine S.stN' (b:=b6) fun w12 S=>?_
  intro w13 e13
  have S:=S.shut e13
  refine S.ce (b:=b6) ?_
  have:=h _ S.ext
  rwa [decide_eq_false hno] at this
 ·rintro W ⟨hin,S⟩
  intro w13 e13
  have S:=S.shut e13
  refine S.ce (b:=b6) ?_
  have:=h _ S.ext
  rwa [decide_eq_true hin] at this
end Go.Proofs
end
section
namespace Go.Sh
end Go.Sh
namespace Go.Proofs
open Go.Sh Go.RowKit
set_option maxRecDepth 100000
set_option linter.unusedSimpArgs false
set_option linter.unusedVariables false
end Go.Proofs
end
section
namespace Go.Proofs
open Go.Sh Go.RowKit
set_option maxRecDepth 100000
set_option linter.unusedSimpArgs false
set_option linter.unusedVariables false
end Go.Proofs
end
section
namespace Go.Proofs
open Go.Sh Go.RowKit
set_option maxRecDepth 100000
set_option linter.unusedSimpArgs false
set_option linter.unusedVariables false
end Go.Proofs
end
section
namespace Go.Proofs.Tryz
open Go.Sh
set_option maxRecDepth 100000
def JX (t0 t1 : Value) (w : World) (K : VW) : Prop:=
 pw w (Instr.box 43 t0) fun t2 w1=>
 lo w1 43 t2 fun t5=>ca Yp #[t5,t1] w1 fun t7 w2=>
 K t7 w2
theorem adU {t0 t1 : Value} {w : World} {K : VW} (h : JX t0 t1 w K) : zd prog Yq #[t0,t1] w K:=
 okC false (.s (.r (rz 2 0 2)) (.s (.r (rz 4 0 33)) (.n))) func30 rfl (by kernel_rfl) (by kernel_rfl) h
end Go.Proofs.Tryz
end
section
namespace Go.Proofs
open Go.Sh Go.RowKit
set_option maxRecDepth 100000
set_option linter.unusedSimpArgs false
set_option linter.unusedVariables false
theorem ahm {g : GrD} {q : Int} {c : List Value} {w : World} {r : Gh} {K : Value→World→Prop} (hr : Holds r w) (hg : GrG r c g) (hq : isN (zh g) q)
  (h : ∀ v' s w',Ext w w'→New w s w'→SlG 1 s zU v' (nxt (zh g) q)→K v' w') : zd Tryz.prog Tryz.Yq #[.agg c.toArray,.int .i64 q] w K:=by
 refine Tryz.adU ?_
 unfold Tryz.JX
 have hg0:=hg
 obtain ⟨x1,x2,x3,x4,y1,y2,y3,y4,rfl,_⟩:=Ye hg
 have S:=St.start hr
 refine S.box fun b2 w1 S=>?_
 have S : StX noX w r w1 [.cell b2 (grL g x1 x2 x3 x4 y1 y2 y3 y4) 43]:=S
 refine S.ldB (b:=b2) ?_ rfl
 have h0:=hq.1;have h1:=hq.2
 rw [z6] at h1
 refine ae5 S.holds hg0 h0 (by omega) rfl fun v' s w2 e2 n2 hs=>?_
 obtain ⟨S,_,a2⟩:=S.tell e2 n2
 rw [agq hq] at h
 exact h _ s _ S.ext (StX.newOf S a2) hs
end Go.Proofs
end
section
namespace Go.Proofs
open Go.Sh Go.RowKit
set_option maxRecDepth 100000
set_option linter.unusedSimpArgs false
set_option linter.unusedVariables false
end Go.Proofs
end
section
namespace Go.Proofs
open Go.Sh Go.RowKit
set_option maxRecDepth 100000
set_option linter.unusedSimpArgs false
set_option linter.unusedVariables false
end Go.Proofs
end
section
namespace Go.Sh
end Go.Sh
namespace Go.Proofs
open Go.Sh Go.RowKit
set_option maxRecDepth 100000
set_option linter.unusedSimpArgs false
set_option linter.unusedVariables false
end Go.Proofs
end
section
namespace Go.Proofs
open Go.Sh Go.RowKit
set_option maxRecDepth 100000
set_option linter.unusedSimpArgs false
set_option linter.unusedVariables false
end Go.Proofs
end
section
namespace Go.Proofs
set_option linter.unusedSimpArgs false
set_option linter.unusedVariables false
end Go.Proofs
end
section
namespace Go.Proofs
open Go.Sh Go.RowKit
set_option maxRecDepth 100000
set_option linter.unusedSimpArgs false
set_option linter.unusedVariables false
theorem afr {m : List Bool} {x : Int} (h : x.toNat<m.length) : (bls m)[0+x.toNat]? = some (.bool (mk' m x)):=by
 rw [Nat.zero_add,bls,List.getElem?_map,mk',List.getD_eq_getElem?_getD,List.getElem?_eq_getElem h];rfl
end Go.Proofs
end
section
namespace Go.Proofs
open Go.Sh Go.RowKit
set_option maxRecDepth 100000
set_option linter.unusedSimpArgs false
set_option linter.unusedVariables false
end Go.Proofs
end
section
namespace Go.Proofs.Tryz
open Go.Sh
set_option maxRecDepth 100000
end Go.Proofs.Tryz
end
section
namespace Go.Proofs
open Go.Sh Go.RowKit
set_option maxRecDepth 100000
set_option linter.unusedSimpArgs false
set_option linter.unusedVariables false
end Go.Proofs
end
section
namespace Go.Proofs
open Go.Sh
set_option maxRecDepth 100000
set_option linter.unusedSimpArgs false
set_option linter.unusedVariables false
end Go.Proofs
end
section
namespace Go.Proofs
open Go.Sh
set_option maxRecDepth 100000
set_option linter.unusedSimpArgs false
set_option linter.unusedVariables false
end Go.Proofs
end
section
namespace Go.Proofs
open Go.Sh
set_option maxRecDepth 100000
set_option linter.unusedSimpArgs false
set_option linter.unusedVariables false
end Go.Proofs
end
section
namespace Go.Sh
open Go.RowKit Go.MapKept
set_option linter.unusedVariables false
def mpI (P : Program) (t : TypeId) : Option (TypeId × TypeId):=match P.underlying t with
 |some (.map k e)=>(match P.underlying k with|some (.int .i64)=>some (k,e)|_=>none)
 |_=>none
theorem afs {P : Program} {t k e : TypeId} (h : mpI P t=some (k,e)) : P.underlying t=some (.map k e)∧P.underlying k=some (.int .i64):=by
 unfold mpI at h
 split at h
 ·rename_i k' e' h1
  split at h
  ·rename_i h2
   cases h;exact ⟨h1,h2⟩
  ·cases h
 ·cases h
def ak5 (m : MapEntry) (x : Int × Value) : Prop:=m.key = .int .i64 x.1∧m.val=x.2
inductive EntsI : List MapEntry→List (Int × Value)→Prop
 |nil : EntsI [] []
 |cons {m : MapEntry} {x : Int × Value} {l : List MapEntry} {M : List (Int × Value)} : ak5 m x→EntsI l M→EntsI (m::l) (x::M)
theorem EntsI.snoc {l : List MapEntry} {M : List (Int × Value)} {m : MapEntry} {x : Int × Value} (h : EntsI l M) (hm : ak5 m x) : EntsI (l ++ [m]) (M ++ [x]):=by
 induction h with
 |nil=>exact .cons hm .nil
 |cons h _ ih=>exact .cons h ih
def qZ (M : List (Int × Value)) (o : Obj) : Prop:=∃ es c,o = .map es c∧EntsI es.toList M
theorem adh {x : Int} {kd : IntKind} {l : List MapEntry} {M : List (Int × Value)} (h : EntsI l M) : ∀ {i : Nat},∃ o,Instr.findNow (.int kd) (.int .i64 x) l i=some o∧o.map (·.2)=M.lookup x:=by
 induction h with
 |nil=>intro i;exact ⟨none,rfl,rfl⟩
 |@cons m y l M hm h ih=>
  intro i
  obtain ⟨hk,hv⟩:=hm
  obtain ⟨y1,y2⟩:=y
  by_cases hx : x=y1
  ·subst hx
   refine ⟨some (i,m.val),?_,?_⟩
   ·rw [Instr.findNow,hk];simp [Instr.sameNow]
   ·rw [List.lookup_cons,show (x == x)=true by simp,hv];rfl
  ·obtain ⟨o,h1,h2⟩:=ih (i:=i+1)
   have hb : (x == y1)=false:=by simpa using hx
   refine ⟨o,?_,?_⟩
   ·rw [Instr.findNow,hk];simp [Instr.sameNow,hb,h1]
   ·rw [List.lookup_cons,hb,h2]
class aft (b : Nat) (L : List Asr) (Q : outParam (Obj→Prop)) (f : outParam (Asr→List Asr)) : Prop where
 h : ∃ p q,L=p ++ .obj b Q::q∧∀ y,f y=p++y::q
instance {b : Nat} {Q : Obj→Prop} {L : List Asr} : aft b (.obj b Q::L) Q fun y=>y::L:=⟨[],L,rfl,fun _=>rfl⟩
instance (priority:=low) {b : Nat} {Q : Obj→Prop} {x : Asr} {L : List Asr} {f : Asr→List Asr} [h : aft b L Q f] : aft b (x::L) Q fun y=>x::f y:=⟨by
 obtain ⟨p,q,h1,h2⟩:=h.h
 exact ⟨x::p,q,by rw [h1];rfl,fun c'=>by rw [h2];rfl⟩⟩
section
variable {P : Program} {X : Nat→Prop} {w0 w : World} {r : Gh} {L : List Asr} {t k e : TypeId} {b : Nat} {M : List (Int × Value)} {f : Asr→List Asr}
theorem StX.mkMapI (S : StX X w0 r w L) {K : Value→World→Prop} (h : ∀ b w',StX X w0 r w' (.obj b (qZ [])::L)→K (.map (some b)) w') : opW P w (Instr.makeMap t none) K:=
 S.mkMap fun b w' S'=>h b w' ⟨S'.x,S'.holds,fun x hx=>by
  rcases List.mem_cons.1 hx with rfl|hx
  ·obtain ⟨o,h1,h2,rfl⟩:=S'.has _ List.mem_cons_self
   exact ⟨_,h1,h2,_,_,rfl,.nil⟩
  ·exact S'.has x (List.mem_cons_of_mem _ hx),fun x hx=>by
  rcases List.mem_cons.1 hx with rfl|hx
  ·exact S'.mine (.obj b (· = .map #[] 0)) List.mem_cons_self
  ·exact S'.mine x (List.mem_cons_of_mem _ hx),by
  have:=S'.apart
  rw [List.pairwise_cons] at this ⊢
  exact this⟩
theorem StX.mapAddI (S : StX X w0 r w L) {x : Int} {v : Value} [h0 : aft b L (qZ M) f] (ht : mpI P t=some (k,e)) (hn : M.lookup x=none) {K : World→Prop}
  (h : ∀ w',StX X w0 r w' (f (.obj b (qZ (M ++ [(x,v)]))))→K w') : opU P w (Instr.mapUpdate t (.map (some b)) (.int .i64 x) v) K:=by
 obtain ⟨ht,hk⟩:=afs ht
 obtain ⟨p,q,e1,e2⟩:=h0.h
 obtain ⟨o,hb,_,es,c,rfl,hE⟩:=S.has (.obj b (qZ M)) (by rw [e1];simp)
 obtain ⟨o,h1,h2⟩:=adh (x:=x) (kd:=.i64) hE (i:=0)
 have h3 : o=none:=by
  rw [hn] at h2
  cases o with
  |none=>rfl
  |some y=>cases h2
 subst h3
 have hf:=run_findKey (w:=w) hk h1
 refine ⟨{ w with heap:=w.heap.setIfInBounds b (.map (es.push { key:=.int .i64 x,val:=v,born:=c }) (c+1)) },?_,h _ ?_⟩
 ·simp [Instr.mapUpdate,run_underlying ht,MapKept.run_getObj_map hb,run_checkKey (w:=w) hk (k:=.int .i64 x) rfl false 9999,hf,MapKept.run_setObj_map _ hb,Result.andThen]
 ·obtain ⟨a1,a2⟩:=heap_set hb (o':=.map (es.push { key:=.int .i64 x,val:=v,born:=c }) (c+1))
  rw [e2]
  rw [e1] at S
  exact S.turn (x:=.obj b (qZ M)) (y:=.obj b (qZ (M ++ [(x,v)]))) ⟨rfl,rfl,rfl,by simp,fun k _ hk=>a2 k hk⟩ ⟨_,a1,rfl,_,_,rfl,by rw [Array.toList_push];exact hE.snoc ⟨rfl,rfl⟩⟩ fun k hk=>.inl hk
theorem StX.mapGetI (S : StX X w0 r w L) {x : Int} {z : Value} [h0 : aft b L (qZ M) f] (ht : mpI P t=some (k,e)) (hz : zr1 P e=some z) {K : Value→Prop} (h : K ((M.lookup x).getD z)) :
  opQ P w (Instr.lookup t (.map (some b)) (.int .i64 x) false) K:=by
 obtain ⟨ht,hk⟩:=afs ht
 obtain ⟨p,q,e1,e2⟩:=h0.h
 obtain ⟨o,hb,_,es,c,rfl,hE⟩:=S.has (.obj b (qZ M)) (by rw [e1];simp)
 obtain ⟨o,h1,h2⟩:=adh (x:=x) (kd:=.i64) hE (i:=0)
 refine ⟨_,fun w' ex=>?_,h⟩
 have hb' : w'.heap[b]? = some (.map es c):=(ex.block b (Array.getElem?_eq_some_iff.1 hb).1).trans hb
 have hf:=run_findKey (w:=w') hk h1
 rw [← h2]
 cases o with
 |none=>simp [Instr.lookup,run_underlying ht,MapKept.run_getObj_map hb',run_checkKey (w:=w') hk (k:=.int .i64 x) rfl _ 9999,hf,ac5 hz,Result.andThen]
 |some y=>simp [Instr.lookup,run_underlying ht,MapKept.run_getObj_map hb',run_checkKey (w:=w') hk (k:=.int .i64 x) rfl _ 9999,hf,Result.andThen]
end
end Go.Sh
end
section
namespace Go.Proofs
open Go.Sh Go.RowKit
set_option maxRecDepth 100000
set_option linter.unusedSimpArgs false
set_option linter.unusedVariables false
inductive WmG (s : Gh) : List (Int × Value)→zW→Prop
 |nil : WmG s [] []
 |cons {p : Int} {v : Value} {w : List Int} {E : List (Int × Value)} {M : zW} : SlG 1 s zU v w→w≠[]→WmG s E M→WmG s ((p,v)::E) ((p,w)::M)
theorem WmG.up {s t : Gh} {E : List (Int × Value)} {M : zW} (h : WmG s E M) [l : Le s t] : WmG t E M:=by
 induction h with
 |nil=>exact .nil
 |cons h1 h2 _ ih=>exact .cons h1.cells h2 ih
theorem WmG.snoc {s : Gh} {E : List (Int × Value)} {M : zW} {p : Int} {v : Value} {w : List Int} (h : WmG s E M) (h1 : SlG 1 s zU v w) (h2 : w≠[]) : WmG s (E ++ [(p,v)]) (M ++ [(p,w)]):=by
 induction h with
 |nil=>exact .cons h1 h2 .nil
 |cons a b _ ih=>exact .cons a b ih
theorem WmG.look {s : Gh} {E : List (Int × Value)} {M : zW} (h : WmG s E M) (p : Int) : (M.lookup p=none∧E.lookup p=none)∨∃ w b off cap,M.lookup p=some w∧w≠[]∧E.lookup p=some (.slice (some ⟨b,off,none⟩) w.length cap)∧SlG 1 s zU (.slice (some ⟨b,off,none⟩) w.length cap) w:=by
 induction h with
 |nil=>exact .inl ⟨rfl,rfl⟩
 |@cons p' v w E M h1 h2 _ ih=>
  by_cases e : p=p'
  ·subst e
   obtain ⟨q,cap,rfl,_,_⟩:=h1.shape
   obtain ⟨b,off,rfl,_,_⟩:=yr h1 (i:=0) (List.length_pos_iff.2 h2)
   exact .inr ⟨w,b,off,cap,by rw [List.lookup_cons];simp,h2,by rw [List.lookup_cons];simp,h1⟩
  ·have hb : (p == p')=false:=by simpa using e
   rw [List.lookup_cons,List.lookup_cons,hb]
   exact ih
theorem ajk {wq : List Int} {st : zW × List Int} {p : Int} : st.1 <+: (yf wq st p).1:=by
 rw [yf];split
 ·exact List.prefix_refl _
 ·exact List.prefix_append _ _
theorem JY {wq : List Int} : ∀ {l : List Int} {st : zW × List Int},st.1 <+: (l.foldl (yf wq) st).1
 |[],st=>List.prefix_refl _
 |p::l,st=>ajk.trans JY
theorem ajl {n : zK} {so : List Int→List Int} {W : List Int} {s : Int} {M : zW} {l : List Int} {q : Int} {st : zW × List Int} : rndW n so W s M (l ++ [q]) st=if q≠s∧q ∈ W then rndW n so W s M l st else (so (nxt n q)).foldl (yf (getW M q)) (rndW n so W s M l st):=by
 rw [rndW,List.foldl_append];rfl
theorem agz {n : zK} {so : List Int→List Int} {W : List Int} {s : Int} {M : zW} : ∀ {l : List Int} {st : zW × List Int},st.1 <+: (rndW n so W s M l st).1
 |[],st=>List.prefix_refl _
 |q::l,st=>by
  rw [rndW,List.foldl_cons]
  refine List.IsPrefix.trans ?_ (agz (l:=l))
  split
  ·exact List.prefix_refl _
  ·exact JY
theorem ajm {M N : zW} {p : Int} (h : M <+: N) (hs : (M.lookup p).isSome=true) : N.lookup p=M.lookup p:=by
 obtain ⟨t,rfl⟩:=h
 rw [List.lookup_append]
 cases hm : M.lookup p with
 |none=>rw [hm] at hs;cases hs
 |some w=>rfl
theorem ajO : abG sortI:=fun l=>⟨by
  have:=List.pairwise_mergeSort (le:=fun x y : Int=>decide (x≤y)) (by intro a b c h1 h2;simp only [decide_eq_true_eq] at *;omega) (by intro a b;simp only [Bool.or_eq_true,decide_eq_true_eq];omega) l
  exact this.imp fun h=>by simpa using h,
 fun x=>List.mem_mergeSort⟩
theorem mpW : mpI Tryz.prog 120=some (3,32):=by kernel_rfl
theorem afu : zr1 Tryz.prog 32=some (.slice none 0 0):=by kernel_rfl
noncomputable def okW (u : UnD) (n a b : Int) (W : List Int) : Bool:=!((decide (fnE u n≠0) || !decide (∀ x ∈ [a,b],isN (netU u n) x)) || !decide (∀ x ∈ W,isN (netU u n) x))
set_option maxHeartbeats 4000000 in
theorem ahn {u : UnD} {n a b : Int} {W : List Int} {v vw : Value} {w : World} {r : Gh} {K : Value→World→Prop} (hr : Holds r w) (hu : UnG r v u) (hWs : SlG 1 r zU vw W) (hWf : W.length≤1000000)
  (h : ∀ v' s w',Ext w w'→New w s w'→SlG 1 s zU v' (if okW u n a b W=true then (wayE (netU u n) a b W).getD [] else [])→K (.tuple #[v',.bool (okW u n a b W&&(wayE (netU u n) a b W).isSome),.int .i64 (if okW u n a b W=true then 0 else 2)]) w') :
  zd Tryz.prog Tryz.Qc #[v,.int .i64 n,.int .i64 a,.int .i64 b,vw] w K:=by
 refine Tryz.af1 ?_
 unfold Tryz.abK
 have hu0:=hu
 obtain ⟨p0,cap0,vf,rfl,_,_,hst,hsl,hfn⟩:=hu
 obtain ⟨qf,capf,rfl,_,_⟩:=hfn.sl.shape
 have S:=St.start hr
 refine S.box fun b3 w1 S=>?_
 have S : StX noX w r w1 [.cell b3 [.slice p0 u.ss.length cap0,.slice qf u.fs.length capf,.int .i64 u.mn] 25]:=S
 refine S.ldB (b:=b3) ?_ rfl
 refine aif S.holds hu0 fun vn sn w2 e2 n2 hnet=>?_
 obtain ⟨S,_,a2⟩:=S.tell e2 n2
 have S:=S.tl
 refine gS_ ?_
 refine ahK (c:=!decide (∀ x ∈ [a,b],isN (netU u n) x)) (fun w'=>StX noX w (r.or sn) w' []) (fun _=>S) (fun hb K2 hK2=>?_) fun w3 S=>?_
 ·have hE : fnE u n=0:=by simpa using hb
  obtain ⟨hlt,he,hF⟩:=j8 hE
  obtain ⟨_,hN⟩:=hnet hE
  rw [← he] at hN
  refine S.lit (e:=3) (cs:=[.int .i64 a,.int .i64 b]) (by kernel_rfl) fun b5 w3 S=>?_
  obtain ⟨S,hs5,_⟩:=S.litNew b5 (sz:=1) (R:=zU) (l:=[a,b]) (yH (c:=[.int .i64 a]) rfl rfl (yq rfl rfl)) (by decide)
  have hs5 : SlG 1 (Go.Sh.one b5 [.int .i64 a,.int .i64 b] 3) zU (.slice (some ⟨b5,0,none⟩) 2 2) [a,b]:=hs5
  have S : StX noX w ((r.or sn).or (Go.Sh.one b5 [.int .i64 a,.int .i64 b] 3)) w3 []:=S
  refine ajN S.holds hN.up hs5.cells (by simp) fun w4 e4=>?_
  have S:=S.go e4
  refine gp_ ?_
  exact hK2 _ (S.to _)
 refine yP (c:=!decide (∀ x ∈ W,isN (netU u n) x)) (fun hb K2 hK2=>?_) fun w4 e4=>?_
 ·rw [Bool.or_eq_false_iff] at hb
  have hE : fnE u n=0:=by simpa using hb.1
  obtain ⟨hlt,he,hF⟩:=j8 hE
  obtain ⟨_,hN⟩:=hnet hE
  rw [← he] at hN
  refine ajN S.holds hN.up hWs.cells hWf fun w5 e5=>?_
  refine gp_ ?_
  exact hK2 _ e5
 have S:=S.go e4
 have hok : okW u n a b W = !((decide (fnE u n≠0) || !decide (∀ x ∈ [a,b],isN (netU u n) x)) || !decide (∀ x ∈ W,isN (netU u n) x)):=rfl
 refine c_b (fun hb=>?_) (fun hb=>?_)
 ·rw [hb] at hok
  rw [hok] at h
  exact h _ nothing _ S.ext New.nothing SlG.nil
 rw [hb] at hok
 rw [hok] at h
 simp only [Bool.or_eq_false_iff,decide_eq_false_iff_not,Decidable.not_not,Bool.not_eq_false',decide_eq_true_eq,ne_eq] at hb
 obtain ⟨⟨hE,hab⟩,hWN⟩:=hb
 obtain ⟨hlt,he,hF⟩:=j8 hE
 obtain ⟨_,hN⟩:=hnet hE
 rw [← he] at hN
 have hfew:=hF.few
 have haN:=hab a (by simp)
 have hbN:=hab b (by simp)
 generalize netU u n=nn at *
 clear hnet hE he hlt hst hfn hu0
 refine S.mkMapI fun bm w5 S=>?_
 refine S.lit (e:=3) (cs:=[.int .i64 a]) (by kernel_rfl) fun b6 w6 S=>?_
 obtain ⟨S,hs6,ha6⟩:=S.litNew b6 (sz:=1) (R:=zU) (l:=[a]) (yq rfl rfl) (by decide)
 refine S.mapAddI mpW (by rfl) fun w7 S=>?_
 refine S.lit (e:=3) (cs:=[.int .i64 a]) (by kernel_rfl) fun b7 w8 S=>?_
 obtain ⟨S,hs7,ha7⟩:=S.litNew b7 (sz:=1) (R:=zU) (l:=[a]) (yq rfl rfl) (by decide)
 have S : StX noX w ((r.or sn).or ((Go.Sh.one b6 [.int .i64 a] 3).or (Go.Sh.one b7 [.int .i64 a] 3))) w8 [.obj bm (qZ [(a,.slice (some ⟨b6,0,none⟩) 1 1)])]:=S.reGh
 have hs6 : SlG 1 (Go.Sh.one b6 [.int .i64 a] 3) zU (.slice (some ⟨b6,0,none⟩) 1 1) [a]:=hs6
 have hs7 : SlG 1 (Go.Sh.one b7 [.int .i64 a] 3) zU (.slice (some ⟨b7,0,none⟩) 1 1) [a]:=hs7
 have ha0:=ha6.or' ha7
 have hE0 : WmG ((Go.Sh.one b6 [.int .i64 a] 3).or (Go.Sh.one b7 [.int .i64 a] 3)) [(a,.slice (some ⟨b6,0,none⟩) 1 1)] [(a,[a])]:=.cons hs6.cells (by simp) .nil
 have hl0 : SlG 1 ((Go.Sh.one b6 [.int .i64 a] 3).or (Go.Sh.one b7 [.int .i64 a] 3)) zU (.slice (some ⟨b7,0,none⟩) 1 1) [a]:=hs7.cells
 have hF0:=Fw.start (n:=nn) (W:=W) haN
 generalize (Go.Sh.one b6 [.int .i64 a] 3).or (Go.Sh.one b7 [.int .i64 a] 3)=s0 at S ha0 hE0 hl0
 clear hs6 hs7 ha6 ha7
 refine zi (ι:=Value × Gh × List (Int × Value) × zW × List Int × Nat) (fun i=>[i.1]) (fun i w'=>Fw nn W a i.2.2.2.2.2 i.2.2.2.1 i.2.2.2.2.1∧Above w i.2.1∧SlG 1 i.2.1 zU i.1 i.2.2.2.2.1∧WmG i.2.1 i.2.2.1 i.2.2.2.1∧i.2.2.2.2.1.length≤nn.length∧(i.2.2.2.2.1≠[]→i.2.2.2.2.2+1≤i.2.2.2.1.length)∧
   StX noX w ((r.or sn).or i.2.1) w' [.obj bm (qZ i.2.2.1)])
  (fun i=>2*(nn.length - i.2.2.2.1.length)+(if i.2.2.2.2.1 = [] then 0 else 1)) (.slice (some ⟨b7,0,none⟩) 1 1,s0,[(a,.slice (some ⟨b6,0,none⟩) 1 1)],[(a,[a])],[a],0) rfl ⟨hF0,ha0,hl0,hE0,hF.pos,fun _=>Nat.le_refl _,S⟩ ?_
 repeat clear S
 clear hF0 ha0 hl0 hE0
 rintro ⟨vl,s,E,M,L,k⟩ d w9 ⟨hFw,ha,hL,hEM,hLf,hkM,S⟩ K18 hK18
 simp only at hFw ha hL hEM hLf hkM S ⊢
 rw [List.getD_cons_zero]
 have hMf:=hFw.few
 obtain ⟨pl,capl,rfl,_,_⟩:=hL.shape
 refine gg_ ?_
 have hnone : ∀ {K : Value→Prop},K (.bool (M.lookup b).isNone)→opQ Tryz.prog w9 (Instr.lookup 120 (.map (some bm)) (.int .i64 b) false) fun t57=>opP Tryz.prog (zM .eql 32 true t57 (.slice none 0 0)) K:=fun {K} hK=>by
  refine S.mapGetI mpW afu ?_
  rcases hEM.look b with ⟨h1,h2⟩|⟨wl,bb,oo,cc,h1,_,h2,_⟩
  ·rw [h2,Option.getD_none]
   rw [h1] at hK
   refine gp_ ?_
   exact hK
  ·rw [h2,Option.getD_some]
   rw [h1] at hK
   refine gp_ ?_
   exact hK
 refine zf (c:=(M.lookup b).isNone) (fun _ K2 hK2=>hnone hK2) ?_
 clear hnone
 refine c_b (fun hgo=>?_) (fun hend=>?_)
 ·simp only [Bool.and_eq_true,decide_eq_true_eq] at hgo
  have hLne : L≠[]:=fun e=>by rw [e] at hgo;simp at hgo
  have hk1:=hkM hLne
  obtain ⟨hFw2,hlen2⟩:=hFw.next hF.ok ajO
  have hMf2:=hFw2.few
  refine gg_ ?_
  refine zi (ι:=Value × Nat × Gh × List (Int × Value)) (fun i=>[i.1,.int .i64 (i.2.1 : Nat)]) (fun i w'=>i.2.1≤L.length∧Above w i.2.2.1∧WmG i.2.2.1 i.2.2.2 (rndW nn sortI W a M (L.take i.2.1) (M,[])).1∧(rndW nn sortI W a M (L.take i.2.1) (M,[])).2.length≤2*i.2.1∧(∀ b o,s b o→i.2.2.1 b o)∧
    StX noX w ((r.or sn).or i.2.2.1) w' [.row i.1 3 1 (rndW nn sortI W a M (L.take i.2.1) (M,[])).2.length (ints (rndW nn sortI W a M (L.take i.2.1) (M,[])).2),.obj bm (qZ i.2.2.2)])
   (fun i=>L.length - i.2.1) (.slice none 0 0,0,s,E) rfl ⟨Nat.zero_le _,ha,hEM,Nat.zero_le _,fun _ _ h=>h,S.ownNil 3 1⟩ ?_
  repeat clear S
  rintro ⟨vx,i,s2,E2⟩ d w10 ⟨hi,ha2',hEM2,hnl,hsub,S⟩ K26 hK26
  simp only at hi ha2' hEM2 hnl hsub S ⊢
  simp only [List.getD_cons_zero,List.getD_cons_succ]
  have leS : Le s s2:=⟨hsub⟩
  refine gg_ ?_
  refine zk (fun hlti=>?_) (fun hge=>?_)
  ·have hlti : i<L.length:=by omega
   obtain ⟨bl,ol,hpl,_,hcl⟩:=yr hL hlti
   subst hpl
   have htk : L.take (i+1)=L.take i ++ [L[i]]:=List.take_succ_eq_append_getElem hlti
   have hqL : L[i] ∈ L:=List.getElem_mem hlti
   obtain ⟨hqM,hql⟩:=hFw.lenL hqL
   have hqN:=(hFw.min _ _ hqM).1
   generalize L[i]=q at hcl htk hqL hqM hql hqN
   have q0:=hqN.1;have q1:=hqN.2
   have hpre : M <+: (rndW nn sortI W a M (L.take i) (M,[])).1:=agz (st:=(M,[]))
   refine zp (fun x w'=>∃ vx' s3 E3,x = [vx']∧Above w s3∧WmG s3 E3 (rndW nn sortI W a M (L.take (i+1)) (M,[])).1∧(rndW nn sortI W a M (L.take (i+1)) (M,[])).2.length≤2*(i+1)∧(∀ b o,s b o→s3 b o)∧
    StX noX w ((r.or sn).or s3) w' [.row vx' 3 1 (rndW nn sortI W a M (L.take (i+1)) (M,[])).2.length (ints (rndW nn sortI W a M (L.take (i+1)) (M,[])).2),.obj bm (qZ E3)]) (fun K30 hK30=>?_) ?_
   ·refine gg_ ?_
    refine zg (by rw [Int.toNat_natCast];exact S.at hcl) ?_
    refine gg_ ?_
    refine zf (c:=decide (q ∈ W)) (fun _ K2 hK2=>acA S.holds hWs.cells (Nat.le_trans hWf (by decide)) hK2) ?_
    rw [htk,ajl] at hK30
    refine c_b (fun hsk=>?_) (fun hsk=>?_)
    ·simp only [Bool.and_eq_true,decide_eq_true_eq] at hsk
     rw [if_pos hsk] at hK30
     exact hK30 _ _ ⟨vx,s2,E2,rfl,ha2',hEM2,by omega,hsub,S⟩
    ·rw [if_neg (by simpa using hsk)] at hK30
     generalize rndW nn sortI W a M (L.take i) (M,[])=st at hK30 hEM2 hnl S hpre
     obtain ⟨pn,capn,rfl,_,_⟩:=hN.sl.shape
     obtain ⟨bn,on,un,hpn,_,hcn,hun⟩:=Vo hN (i:=q.toNat) (by omega)
     subst hpn
     have hnx : nxt nn q=nn[q.toNat]:=ae6 hqN
     rw [hnx] at hK30
     have hn2 : nn[q.toNat].length≤2:=hF.nar _ (List.getElem_mem _)
     generalize nn[q.toNat]=ln at hK30 hun hn2
     refine gg_ ?_
     refine zg (S.at hcn) ?_
     refine V2 S hun.sl.cells (by omega) fun v78 w11 S=>?_
     refine QR S (by omega) fun w12 S=>?_
     have hsl2 : (sortI ln).length=ln.length:=jP
     rw [← hsl2] at S
     obtain ⟨s5,T,hs5,_,ha5⟩:=S.doneRow yO (by decide) rfl
     repeat clear S
     obtain ⟨p78,c78,rfl,_,_⟩:=hs5.shape
     have S:=T
     clear T
     have ha5' : Above w s5:=fun b o ho=>(ha5 b o ho).resolve_right id
     refine gg_ ?_
     generalize sortI ln=l2 at hK30 hs5 hsl2
     have hMq : M.lookup q=some (getW M q):=(jB hFw.nod).1 hqM
     generalize getW M q=wq at hK30 hMq hql
     refine zi (ι:=Value × Nat × Gh × List (Int × Value)) (fun i=>[i.1,.int .i64 (i.2.1 : Nat)]) (fun j w'=>j.2.1≤l2.length∧Above w j.2.2.1∧WmG j.2.2.1 j.2.2.2 ((l2.take j.2.1).foldl (yf wq) st).1∧((l2.take j.2.1).foldl (yf wq) st).2.length≤2*i+j.2.1∧(∀ b o,s b o→j.2.2.1 b o)∧
       StX noX w (((r.or sn).or s5).or j.2.2.1) w' [.row j.1 3 1 ((l2.take j.2.1).foldl (yf wq) st).2.length (ints ((l2.take j.2.1).foldl (yf wq) st).2),.obj bm (qZ j.2.2.2)])
      (fun j=>l2.length - j.2.1) (vx,0,s2,E2) rfl ⟨Nat.zero_le _,ha2',hEM2,hnl,hsub,S.less (fun b o x=>Or.elim x (fun x=>Or.elim x (fun x=>.inl (.inl x)) .inr) fun x=>.inl (.inr x)) (List.Sublist.refl _)⟩ ?_
     repeat clear S
     rintro ⟨vy,j,s6,E6⟩ d w13 ⟨hj,ha6,hEM6,hnl6,hsub6,S⟩ K41 hK41
     simp only at hj ha6 hEM6 hnl6 hsub6 S ⊢
     simp only [List.getD_cons_zero,List.getD_cons_succ]
     have leS6 : Le s s6:=⟨hsub6⟩
     refine gg_ ?_
     refine zk (fun hltj=>?_) (fun hgej=>?_)
     ·have hltj : j<l2.length:=by omega
      obtain ⟨b78,o78,hp78,_,hc78⟩:=yr hs5 hltj
      subst hp78
      have hst : (l2.take (j+1)).foldl (yf wq) st=yf wq ((l2.take j).foldl (yf wq) st) l2[j]:=by
       rw [List.take_succ_eq_append_getElem hltj,List.foldl_append];rfl
      have hpre6 : M <+: ((l2.take j).foldl (yf wq) st).1:=hpre.trans JY
      generalize (l2.take j).foldl (yf wq) st=st6 at hst hEM6 hnl6 S hpre6
      generalize l2[j]=y at hst hc78
      refine zp (fun x w'=>∃ vy' s7 E7,x = [vy']∧Above w s7∧WmG s7 E7 (yf wq st6 y).1∧(yf wq st6 y).2.length≤2*i+(j+1)∧(∀ b o,s b o→s7 b o)∧
       StX noX w (((r.or sn).or s5).or s7) w' [.row vy' 3 1 (yf wq st6 y).2.length (ints (yf wq st6 y).2),.obj bm (qZ E7)]) (fun K45 hK45=>?_) ?_
      ·refine gg_ ?_
       refine zg (by rw [Int.toNat_natCast];exact S.at hc78) ?_
       refine S.mapGetI mpW afu ?_
       rcases hEM6.look y with ⟨h1,h2⟩|⟨wl,bb,oo,cc,h1,_,h2,_⟩
       ·rw [h2,Option.getD_none]
        have e : yf wq st6 y=(st6.1 ++ [(y,wq ++ [y])],st6.2 ++ [y]):=by rw [yf,h1];rfl
        rw [e] at hK45
        refine gp_ ?_
        refine c_t rfl ?_
        refine S.mapGetI mpW afu ?_
        have hq6 : st6.1.lookup q=some wq:=by rw [ajm hpre6 (by rw [hMq];rfl)];exact hMq
        rcases hEM6.look q with ⟨g1,_⟩|⟨wl,bb,oo,cc,g1,_,g2,g3⟩
        ·rw [hq6] at g1;cases g1
        rw [hq6] at g1
        cases g1
        rw [g2,Option.getD_some]
        refine V2 S g3.cells (by omega) fun v96 w14 S=>?_
        refine S.lit (e:=3) (cs:=[.int .i64 y]) (by kernel_rfl) fun b8 w15 S=>?_
        refine S.ap (v:=v96) (m':=1) (Sl.blk (S.blk b8)) (fun v99 w16 S=>?_) (by omega)
        have S:=S.drop b8
        have S : StX noX w (((r.or sn).or s5).or s6) w16 [.row v99 3 1 (wq ++ [y]).length (ints (wq ++ [y])),.row vy 3 1 st6.2.length (ints st6.2),.obj bm (qZ E6)]:=by
         rw [xU,List.length_append];exact S
        obtain ⟨s7,S,hs7,_,ha7⟩:=S.doneRow yO (by decide) rfl
        have hE6n : E6.lookup y=none:=h2
        refine S.mapAddI mpW hE6n fun w17 S=>?_
        refine S.lit (e:=3) (cs:=[.int .i64 y]) (by kernel_rfl) fun b9 w18 S=>?_
        refine S.ap (v:=vy) (m':=1) (Sl.blk (S.blk b9)) (fun v5 w19 S=>?_) (by omega)
        have S:=S.drop b9
        refine hK45 _ _ ⟨v5,s6.or s7,E6 ++ [(y,v99)],rfl,ha6.or' fun b o ho=>(ha7 b o ho).resolve_right id,(hEM6.up.snoc hs7.cells (by simp)),by rw [List.length_append,List.length_singleton];omega,fun b o ho=>.inl (hsub6 b o ho),?_⟩
        have S:=S.reGh
        rw [List.length_append,xU];exact S
       ·rw [h2,Option.getD_some]
        have e : yf wq st6 y=st6:=by rw [yf,h1];rfl
        rw [e] at hK45
        refine gp_ ?_
        refine c_f rfl ?_
        exact hK45 _ _ ⟨vy,s6,E6,rfl,ha6,hEM6,by omega,hsub6,S⟩
      rintro x w14 ⟨vy',s7,E7,rfl,i1,i2,i3,i4,S⟩ d
      simp only [List.getD_cons_zero]
      refine gp_ ?_
      refine hK41 (vy',j+1,s7,E7) _ ⟨hltj,i1,?_,?_,i4,?_⟩ (by show l2.length - (j+1)<l2.length - j;omega)
      ·show WmG s7 E7 ((l2.take (j+1)).foldl (yf wq) st).1
       rw [hst];exact i2
      ·show ((l2.take (j+1)).foldl (yf wq) st).2.length≤2*i+(j+1)
       rw [hst];exact i3
      ·show StX noX w (((r.or sn).or s5).or s7) w14 [.row vy' 3 1 ((l2.take (j+1)).foldl (yf wq) st).2.length (ints ((l2.take (j+1)).foldl (yf wq) st).2),.obj bm (qZ E7)]
       rw [hst];exact S
     have hje : j=l2.length:=by omega
     subst hje
     rw [List.take_length] at hEM6 hnl6 S
     clear hK41
     refine hK30 _ _ ⟨vy,s5.or s6,E6,rfl,ha5'.or' ha6,hEM6.up,by omega,fun b o ho=>.inr (hsub6 b o ho),S.reGh⟩
   rintro x w11 ⟨vx',s3,E3,rfl,i1,i2,i3,i4,S⟩ d
   simp only [List.getD_cons_zero]
   refine gp_ ?_
   exact hK26 (vx',i+1,s3,E3) _ ⟨hlti,i1,i2,i3,i4,S⟩ (by show L.length - (i+1)<L.length - i;omega)
  have hie : i=L.length:=by omega
  subst hie
  rw [List.take_length] at hEM2 hnl S
  clear hK26
  obtain ⟨s4,S,hs4,_,ha4⟩:=S.doneRow yO (by decide) rfl
  refine hK18 (vx,s2.or s4,E2,_,_,k+1) _ ⟨hFw2,ha2'.or' fun b o ho=>(ha4 b o ho).resolve_right id,hs4.cells,hEM2.up,(show (rndW nn sortI W a M L (M,[])).2.length≤nn.length by omega),fun hne=>?_,S.reGh⟩ ?_
  ·have : 0<(rndW nn sortI W a M L (M,[])).2.length:=List.length_pos_iff.2 hne
   show k+1+1≤(rndW nn sortI W a M L (M,[])).1.length
   omega
  ·show 2*(nn.length - (rndW nn sortI W a M L (M,[])).1.length)+(if (rndW nn sortI W a M L (M,[])).2 = [] then 0 else 1)<2*(nn.length - M.length)+(if L = [] then 0 else 1)
   rw [if_neg hLne]
   by_cases e : (rndW nn sortI W a M L (M,[])).2 = []
   ·rw [if_pos e];rw [e] at hlen2;simp only [List.length_nil] at hlen2;omega
   ·rw [if_neg e]
    have : 0<(rndW nn sortI W a M L (M,[])).2.length:=List.length_pos_iff.2 e
    omega
 have S:=S.go (Ext.drew _)
 have hfound:=hFw.found (t:=b) (by
  simp only [Bool.and_eq_false_iff,decide_eq_false_iff_not] at hend
  rcases hend with h1|h1
  ·refine .inl (List.length_eq_zero_iff.1 ?_);omega
  ·refine .inr ?_
   cases hl : M.lookup b with
   |none=>rw [hl] at h1;cases h1
   |some x=>rfl)
 refine S.mapGetI mpW afu ?_
 refine S.mapGetI mpW afu ?_
 rw [← hfound] at h
 rcases hEM.look b with ⟨h1,h2⟩|⟨wl,bb,oo,cc,h1,_,h2,h3⟩
 ·rw [h2,Option.getD_none]
  rw [h1] at h
  refine gg_ ?_
  exact h _ (sn.or s) _ S.ext (StX.newOf S.reGh (a2.or' ha)) SlG.nil
 ·rw [h2,Option.getD_some]
  rw [h1] at h
  refine gg_ ?_
  exact h _ (sn.or s) _ S.ext (StX.newOf S.reGh (a2.or' ha)) h3.cells
end Go.Proofs
end
section
namespace Go.Proofs
open Go.Sh
set_option maxRecDepth 100000
set_option linter.unusedSimpArgs false
set_option linter.unusedVariables false
end Go.Proofs
end
section
namespace Go.Proofs
open Go.Sh
set_option maxRecDepth 100000
set_option linter.unusedSimpArgs false
set_option linter.unusedVariables false
theorem ajn {u : UnD} {n : Int} : decide (fnE u n=0)=((decide (0≤n)&&decide (n<u.fs.length))&&vS u):=by
 rw [fnE]
 cases vS u with
 |false=>rw [Bool.and_false,if_pos (by simp)];rfl
 |true=>
  by_cases h : 0≤n∧n<u.fs.length
  ·rw [if_neg (by simp;omega),decide_eq_true h.1,decide_eq_true h.2];rfl
  ·rw [if_pos (by simp;omega),Bool.and_true]
   by_cases h1 : 0≤n
   ·rw [decide_eq_true h1,decide_eq_false (fun h2=>h ⟨h1,h2⟩)];rfl
   ·rw [decide_eq_false h1];rfl
theorem ajo {u : UnD} {n : Int} : ((u.fs[n.toNat]?.map fun g=>(g.pts.length : Int)).getD 0)=(netU u n).length:=by
 rw [netU]
 cases u.fs[n.toNat]? with
 |none=>rfl
 |some g=>show (g.pts.length : Int)=(zh g).length;rw [z6]
theorem akl {u : UnD} {n q : Int} : isU u n q=(decide (fnE u n=0)&&decide (q<(netU u n).length)):=by
 rw [isU,ajo,ajn,Bool.and_assoc,Bool.and_assoc,Bool.and_assoc]
theorem agA {u : UnD} {n : Int} : isU u n (-1)=decide (fnE u n=0):=by
 rw [akl,decide_eq_true (show (-1 : Int)<(netU u n).length by omega),Bool.and_true]
theorem JZ {u : UnD} {n q : Int} (h : okQ u n q=true) : fnE u n=0∧isN (netU u n) q:=by
 rw [okQ] at h
 simp only [Bool.not_eq_true',Bool.or_eq_false_iff,decide_eq_false_iff_not,Bool.not_eq_false',decide_eq_true_eq,Decidable.not_not] at h
 exact h
theorem ajp {u : UnD} {n : Int} {r : Gh} {qf : Option Addr} {capf : Nat} (hfn : SlB 7 r (GrG r) (.slice qf u.fs.length capf) u.fs) (h : fnE u n=0) :
  ∃ b off g x1 x2 x3 x4 y1 y2 y3 y4,qf=some ⟨b,off,none⟩∧u.fs[n.toNat]? = some g∧netU u n=zh g∧ajh (zh g)∧0≤n∧n<u.fs.length∧GrG r (grL g x1 x2 x3 x4 y1 y2 y3 y4) g∧(∀ j v,(grL g x1 x2 x3 x4 y1 y2 y3 y4)[j]? = some v→Ob r fun w=>w.cell? ⟨b,off+n.toNat*7+j,none⟩=some v):=by
 obtain ⟨hlt,he,hF⟩:=j8 h
 obtain ⟨_,hn0,_⟩:=Jv h
 obtain ⟨bf,of,cf,hp,hcf,hgc,hfo⟩:=hfn.sl.get (by decide) hlt
 have hgi : u.fs[n.toNat]? = some u.fs[n.toNat]:=List.getElem?_eq_getElem hlt
 rw [he] at hF
 generalize u.fs[n.toNat]=g at *
 obtain ⟨x1,x2,x3,x4,y1,y2,y3,y4,rfl,hg0⟩:=Ye hgc
 exact ⟨bf,of,g,x1,x2,x3,x4,y1,y2,y3,y4,hp,hgi,he,hF,hn0,by omega,hg0,hfo⟩
theorem Yf {m : List Bool} : (mkd m).length≤m.length:=by
 rw [mkd,List.length_map]
 exact Nat.le_trans (List.length_filter_le ..) (by simp)
end Go.Proofs
end
section
namespace Go.Proofs
open Go.Sh Go.RowKit
set_option maxRecDepth 100000
set_option linter.unusedSimpArgs false
set_option linter.unusedVariables false
end Go.Proofs
end
section
namespace Go.Proofs
open Go.Sh Go.RowKit
set_option maxRecDepth 100000
set_option linter.unusedSimpArgs false
set_option linter.unusedVariables false
end Go.Proofs
end
section
namespace Go.Proofs
open Go.Sh Go.RowKit
set_option maxRecDepth 100000
set_option linter.unusedSimpArgs false
set_option linter.unusedVariables false
end Go.Proofs
end
section
namespace Go.Sh
section
variable {P : Program} {t : TypeId} {c : Bool} {a b a' b' : Int} {i j : IntKind}
end
end Go.Sh
end
section
namespace Go.Proofs
open Go.Sh
set_option maxRecDepth 100000
set_option linter.unusedSimpArgs false
set_option linter.unusedVariables false
end Go.Proofs
end
section
namespace Go.Proofs
open Go.Sh Go.RowKit
set_option maxRecDepth 100000
set_option linter.unusedSimpArgs false
set_option linter.unusedVariables false
end Go.Proofs
end
section
namespace Go.Proofs
open Go.Sh Go.RowKit
set_option maxRecDepth 100000
set_option linter.unusedSimpArgs false
set_option linter.unusedVariables false
end Go.Proofs
end
