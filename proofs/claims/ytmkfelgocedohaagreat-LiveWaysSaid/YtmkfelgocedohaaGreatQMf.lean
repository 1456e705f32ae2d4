/-
  Plain: shortest ways, the first of them by number; found level by level.
  Plain: a round of levels; the way that is found.
  Plain: the document's shortest way: how far it is to the end, then always the least that comes nearer.
  Plain: where one goes round: what reaches a point without going through another one.
  Plain: who lies above whom is a chain; right above.
  Plain: places in the order; two small nets, reckoned.
  Plain: what the statements of Flow ask of ways, of what lies above, of the order.
  Plain: which locals a point uses, which one ends there; where a local is live; why.
  Plain: where locals are live, as marks; a list of work; round and round.
  Plain: why a local is live; step by step; the least closed rows.
  Plain: marks as rows of bits.
  Rows of one's own as cells, and back; a row cut shorter.
  Shallow readings of functions. Made by a program (wip/gen/gen.py) out of the translation; the kernel checks each equality.
  Contracts: slices of numbers and of marks: Contains, Clone, Equal, Repeat, Reverse.
  Shallow readings of functions. Made by a program (wip/gen/gen.py) out of the translation; the kernel checks each equality.
  Contracts of flow: a net is told of a program; has, before, marked, reached.
  Contracts of flow: the net of a program; what is reached.
  Contract of flow: the walk.
  Contract of flow: who lies above whom. Rows of marks in memory.
  Contract of flow: (net).above.
  Contracts of flow: Before, Reach, Above, Order, Back. Made by a program (wip/gen/flowc.py).
  More of the seat's types, reckoned. Made by a program (wip/gen/gen.py).
  Shallow readings of functions. Made by a program (wip/gen/gen.py) out of the translation; the kernel checks each equality.
  Shallow readings of functions. Made by a program (wip/gen/gen.py) out of the translation; the kernel checks each equality.
  Contracts of live: of, point, assigns.
  A function value that is handed things one by one, and what it may write.
  Contracts of live: point, assigns; the locals that a point uses, handed one by one.
  Shallow readings of functions. Made by a program (wip/gen/gen.py) out of the translation; the kernel checks each equality.
  Contracts: rows of bits: May, New of bits; May, Is, List of the document's.
  Contracts of live: the locals that a point uses as an iterator; used, ends.
  Contracts of flow: Is, Right.
  Contracts of flow: Right, Loop.
  Contract of flow: Loop.
  Shallow readings of functions. Made by a program (wip/gen/gen.py) out of the translation; the kernel checks each equality.
  Contracts of loanwordref12: Next, in, rising, Before, reach, Reach.
  Contracts of loanwordref12: reach, Reach, Above.
  Contracts of loanwordref12: Reach, Above, Is.
  Contracts of loanwordref12: Is, Loop.
  Contract of loanwordref12: Right.
  Plain law: the walk's marks as two rows of truths, and the walk as a recursion.
  Contract of loanwordref12: walker.walk.
  Contract of loanwordref12: Walk.
  Shallow readings of functions. Made by a program (wip/gen/gen.py) out of the translation; the kernel checks each equality.
  Contracts of loanwordlaw12: in, same, inside.
  Contract of loanwordlaw12: fits.
  loanwordlaw12's small units: plain facts.
  Contract of loanwordlaw12: line.
-/
import Derived.Test.YtmkfelgocedohaaGreatQMe
import Derived.Test.YtmkfelgocedohaaGreatQMa
import Derived.Test.YtmkfelgocedohaaGreatQMc
import Derived.Test.YtmkfelgocedohaaGreatQMb
import Derived.Test.YtmkfelgocedohaaGreatQMd
section
namespace Go.Proofs
set_option linter.unusedVariables false
set_option linter.unusedSimpArgs false
def ltL : List Int→List Int→Prop
 |x::a,y::b=>x<y∨(x=y∧ltL a b)
 |_,_=>False
def leL (a b : List Int) : Prop:=a=b∨ltL a b
theorem agx : ∀ {a : List Int},¬ ltL a a
 |[],h=>h
 |x::a,h=>by
  rcases h with h|⟨_,h⟩
  ·omega
  ·exact agx h
theorem JN : ∀ {a b c : List Int},ltL a b→ltL b c→ltL a c
 |x::a,y::b,z::c,h,k=>by
  rcases h with h|⟨rfl,h⟩
  ·rcases k with k|⟨rfl,k⟩
   ·exact .inl (by omega)
   ·exact .inl h
  ·rcases k with k|⟨rfl,k⟩
   ·exact .inl k
   ·exact .inr ⟨rfl,JN h k⟩
theorem leL.refl {a : List Int} : leL a a:=.inl rfl
theorem adp {a b c : List Int} (h : leL a b) (k : leL b c) : leL a c:=by
 rcases h with rfl|h
 ·exact k
 rcases k with rfl|k
 ·exact .inr h
 ·exact .inr (JN h k)
theorem ajn {a b : List Int} (h : leL a b) (k : leL b a) : a=b:=by
 rcases h with rfl|h
 ·rfl
 rcases k with rfl|k
 ·rfl
 ·exact absurd (JN h k) agx
theorem Vl : ∀ {a b x y : List Int},ltL a b→a.length=b.length→ltL (a++x) (b++y)
 |x::a,y::b,_,_,h,hl=>by
  rcases h with h|⟨rfl,h⟩
  ·exact .inl h
  ·exact .inr ⟨rfl,Vl h (by simpa using hl)⟩
theorem acG : ∀ {a x y : List Int},ltL x y→ltL (a++x) (a++y)
 |[],_,_,h=>h
 |z::a,_,_,h=>.inr ⟨rfl,acG h⟩
theorem agy {a b x : List Int} (h : leL a b) (hl : a.length=b.length) : leL (a++x) (b++x):=by
 rcases h with rfl|h
 ·exact .inl rfl
 ·exact .inr (Vl h hl)
def Stp (n : zz) (W : List Int) (s q p : Int) : Prop:=(q=s∨q ∉ W)∧p ∈ nxt n q
def Pth (n : zz) (W : List Int) (s : Int) : Int→List Int→Int→Prop
 |x,[],t=>x=t
 |x,y::r,t=>Stp n W s x y∧Pth n W s y r t
theorem Pth.app {n : zz} {W : List Int} {s : Int} : ∀ {a b : List Int} {x t : Int},Pth n W s x (a++b) t↔∃ m,Pth n W s x a m∧Pth n W s m b t
 |[],b,x,t=>⟨fun h=>⟨x,rfl,h⟩,fun ⟨m,h,k⟩=>by have h : x=m:=h;rw [h];exact k⟩
 |y::a,b,x,t=>by
  rw [List.cons_append,Pth,Pth.app (a:=a)]
  constructor
  ·rintro ⟨h,m,h1,h2⟩;exact ⟨m,⟨h,h1⟩,h2⟩
  ·rintro ⟨m,⟨h,h1⟩,h2⟩;exact ⟨h,m,h1,h2⟩
def Vw (n : zz) (W : List Int) (s : Int) (w : List Int) (p : Int) : Prop:=∃ r,w=s::r∧Pth n W s s r p
theorem Vw.base {n : zz} {W : List Int} {s : Int} : Vw n W s [s] s:=⟨[],rfl,rfl⟩
theorem Vw.snoc {n : zz} {W : List Int} {s q p : Int} {w : List Int} (h : Vw n W s w q) (k : Stp n W s q p) : Vw n W s (w ++ [p]) p:=by
 obtain ⟨r,rfl,h⟩:=h
 exact ⟨r ++ [p],rfl,Pth.app.2 ⟨q,h,k,rfl⟩⟩
theorem Vw.last {n : zz} {W : List Int} {s p : Int} {w : List Int} (h : Vw n W s w p) : (w = [s]∧p=s)∨∃ u q,w=u ++ [p]∧Vw n W s u q∧Stp n W s q p:=by
 obtain ⟨r,rfl,h⟩:=h
 rcases List.eq_nil_or_concat r with rfl|⟨u,y,rfl⟩
 ·exact .inl ⟨rfl,Eq.symm h⟩
 ·rw [List.concat_eq_append] at h ⊢
  obtain ⟨m,h1,h2,h3⟩:=Pth.app.1 h
  have h3 : y=p:=h3
  subst h3
  exact .inr ⟨s::u,m,rfl,⟨u,rfl,h1⟩,h2⟩
theorem Vw.pos {n : zz} {W : List Int} {s p : Int} {w : List Int} (h : Vw n W s w p) : 1≤w.length:=by
 obtain ⟨r,rfl,_⟩:=h;simp
def MinW (n : zz) (W : List Int) (s p : Int) (w : List Int) : Prop:=Vw n W s w p∧∀ w',Vw n W s w' p→w.length≤w'.length∧(w'.length=w.length→leL w w')
theorem MinW.one {n : zz} {W : List Int} {s p : Int} {w w' : List Int} (h : MinW n W s p w) (k : MinW n W s p w') : w=w':=by
 have h1:=h.2 w' k.1
 have h2:=k.2 w h.1
 have hl : w'.length=w.length:=by omega
 exact ajn (h1.2 hl) (h2.2 hl.symm)
abbrev zZ:=List (Int × List Int)
def getW (M : zZ) (p : Int) : List Int:=(M.lookup p).getD []
theorem jF {M : zZ} {p : Int} {w : List Int} : (M.map Prod.fst).Nodup→((p,w) ∈ M↔M.lookup p=some w):=by
 induction M with
 |nil=>intro _;simp
 |cons x M ih=>
  intro h
  obtain ⟨y,v⟩:=x
  have h':=List.nodup_cons.1 h
  have ih:=ih h'.2
  rw [List.lookup_cons,List.mem_cons]
  by_cases e : p=y
  ·subst e
   rw [show (p == p)=true by simp]
   simp only [Option.some.injEq,Prod.mk.injEq,true_and]
   constructor
   ·rintro (e|hm)
    ·exact e.symm
    ·exact absurd (List.mem_map.2 ⟨(p,w),hm,rfl⟩) h'.1
   ·rintro e;exact .inl e.symm
  ·rw [show (p == y)=false by simpa using e]
   simp only [Prod.mk.injEq,e,false_and,false_or]
   exact ih
theorem ajo {M : zZ} {p q : Int} {w : List Int} : (M ++ [(q,w)]).lookup p=(M.lookup p).or (if p=q then some w else none):=by
 induction M with
 |nil=>
  rw [List.nil_append,List.lookup_cons]
  by_cases e : p=q
  ·simp [e]
  ·rw [show (p == q)=false by simpa using e];simp [e]
 |cons x M ih=>
  obtain ⟨y,v⟩:=x
  rw [List.cons_append,List.lookup_cons,List.lookup_cons,ih]
  split<;>rfl
def yg (wq : List Int) (st : zZ × List Int) (p : Int) : zZ × List Int:=if (st.1.lookup p).isSome then st else (st.1 ++ [(p,wq ++ [p])],st.2 ++ [p])
structure Fw (n : zz) (W : List Int) (s : Int) (k : Nat) (M : zZ) (L : List Int) : Prop where
 min : ∀ p w,(p,w) ∈ M→isN n p∧MinW n W s p w∧w.length≤k+1
 nod : (M.map Prod.fst).Nodup
 all : ∀ p w,Vw n W s w p→w.length≤k+1→(M.lookup p).isSome=true
 lev : ∀ p,p ∈ L↔∃ w,(p,w) ∈ M∧w.length=k+1
 srt : L.Pairwise fun p p'=>ltL (getW M p) (getW M p')
theorem Fw.start {n : zz} {W : List Int} {s : Int} (hs : isN n s) : Fw n W s 0 [(s,[s])] [s]:=by
 refine ⟨fun p w h=>?_,by simp,fun p w h hl=>?_,fun p=>?_,by simp⟩
 ·simp only [List.mem_singleton,Prod.mk.injEq] at h
  obtain ⟨rfl,rfl⟩:=h
  refine ⟨hs,⟨.base,fun w' h'=>⟨h'.pos,fun hl=>?_⟩⟩,Nat.le_refl _⟩
  obtain ⟨r,rfl,_⟩:=h'
  have : r = []:=by simpa using hl
  subst this;exact .refl
 ·rcases h.last with ⟨_,rfl⟩|⟨u,q,rfl,h,_⟩
  ·simp
  ·have:=h.pos
   rw [List.length_append,List.length_singleton] at hl
   omega
 ·rw [List.mem_singleton]
  constructor
  ·rintro rfl;exact ⟨[p],by simp,rfl⟩
  ·rintro ⟨w,h,_⟩
   simp only [List.mem_singleton,Prod.mk.injEq] at h
   exact h.1
structure Md (n : zz) (W : List Int) (s : Int) (M0 : zZ) (L : List Int) (cur : List Int→Prop) (M : zZ) (nx : List Int) : Prop where
 app : ∃ N : zZ,M=M0++N∧nx=N.map Prod.fst
 new : ∀ p w,(p,w) ∈ M→(p,w) ∈ M0∨(M0.lookup p=none∧(∃ q ∈ L,Stp n W s q p∧w=getW M0 q ++ [p])∧(∀ q ∈ L,Stp n W s q p→leL w (getW M0 q ++ [p])))
 nod : (M.map Prod.fst).Nodup
 srt : nx.Pairwise fun p p'=>ltL (getW M p) (getW M p')
 less : ∀ p ∈ nx,∀ x,cur x→ltL (getW M p) x
theorem acH {M : zZ} {p : Int} {w : List Int} (hn : (M.map Prod.fst).Nodup) (h : (p,w) ∈ M) : getW M p=w:=by rw [getW,(jF hn).1 h];rfl
theorem ah8 {M : zZ} {p : Int} (h : M.lookup p=none) : p ∉ M.map Prod.fst:=by
 intro hm
 obtain ⟨⟨y,w⟩,hx,e⟩:=List.mem_map.1 hm
 have e : y=p:=e
 subst e
 rw [List.lookup_eq_none_iff] at h
 have:=h _ hx
 simp at this
theorem adq {M : zZ} {p : Int} (h : (M.lookup p).isSome=true) : ∃ w,(p,w) ∈ M:=by
 induction M with
 |nil=>cases h
 |cons x M ih=>
  obtain ⟨y,v⟩:=x
  rw [List.lookup_cons] at h
  by_cases e : p=y
  ·subst e;exact ⟨v,List.mem_cons_self⟩
  ·rw [show (p == y)=false by simpa using e] at h
   obtain ⟨w,hw⟩:=ih h
   exact ⟨w,List.mem_cons_of_mem _ hw⟩
theorem Md.mono {n : zz} {W : List Int} {s : Int} {M0 : zZ} {L : List Int} {cur cur' : List Int→Prop} {M : zZ} {nx : List Int} (h : Md n W s M0 L cur M nx) (hc : ∀ x,cur' x→cur x) : Md n W s M0 L cur' M nx:=
 ⟨h.app,h.new,h.nod,h.srt,fun p hp x hx=>h.less p hp x (hc x hx)⟩
theorem ah9 {M : zZ} {N : zZ} {p : Int} (h : (M.lookup p).isSome=true) : getW (M++N) p=getW M p:=by
 rw [getW,getW,List.lookup_append]
 cases hm : M.lookup p with
 |none=>rw [hm] at h;cases h
 |some w=>rfl
theorem aj8 {M N : zZ} {p : Int} (h : (M.lookup p).isSome=true) : ((M++N).lookup p).isSome=true:=by
 rw [List.lookup_append]
 cases hm : M.lookup p with
 |none=>rw [hm] at h;cases h
 |some w=>rfl
theorem Md.add {n : zz} {W : List Int} {s q p : Int} {M0 : zZ} {L : List Int} {M : zZ} {nx : List Int} {cur : List Int→Prop} (h : Md n W s M0 L cur M nx) (hc : cur (getW M0 q ++ [p]))
  (hq : q ∈ L) (hst : Stp n W s q p) (hmin : M.lookup p=none→∀ q' ∈ L,Stp n W s q' p→leL (getW M0 q ++ [p]) (getW M0 q' ++ [p])) :
  Md n W s M0 L (fun x=>cur x∧ltL (getW M0 q ++ [p]) x) (yg (getW M0 q) (M,nx) p).1 (yg (getW M0 q) (M,nx) p).2∧((yg (getW M0 q) (M,nx) p).1.lookup p).isSome=true∧(∀ x,(M.lookup x).isSome=true→((yg (getW M0 q) (M,nx) p).1.lookup x).isSome=true):=by
 rw [yg]
 cases hl : M.lookup p with
 |some w=>
  simp only [hl,Option.isSome_some,if_true]
  exact ⟨h.mono fun x hx=>hx.1,trivial,fun x hx=>hx⟩
 |none=>
  simp only [Option.isSome_none,Bool.false_eq_true,if_false,hl]
  have hnp:=ah8 hl
  have hnodM : ((M ++ [(p,getW M0 q ++ [p])]).map Prod.fst).Nodup:=by
   rw [List.map_append,List.nodup_append]
   refine ⟨h.nod,by simp,fun a ha b hb=>?_⟩
   simp only [List.map_cons,List.map_nil,List.mem_singleton] at hb
   subst hb
   intro e;subst e;exact hnp ha
  have hM0 : M0.lookup p=none:=by
   obtain ⟨N,e,_⟩:=h.app
   rw [e,List.lookup_append,Option.or_eq_none_iff] at hl
   exact hl.1
  have hold : ∀ x ∈ nx,getW (M ++ [(p,getW M0 q ++ [p])]) x=getW M x:=fun x hx=>by
   obtain ⟨N,e,e2⟩:=h.app
   rw [e2] at hx
   obtain ⟨⟨y,w⟩,hy,e3⟩:=List.mem_map.1 hx
   have e3 : y=x:=e3
   subst e3
   have hyM : (y,w) ∈ M:=by rw [e];exact List.mem_append_right _ hy
   exact ah9 (by rw [(jF h.nod).1 hyM];rfl)
  have hnew : getW (M ++ [(p,getW M0 q ++ [p])]) p=getW M0 q ++ [p]:=acH hnodM (by simp)
  refine ⟨⟨?_,fun p' w hm=>?_,hnodM,?_,fun p' hp' x hx=>?_⟩,?_,fun x hx=>aj8 hx⟩
  ·obtain ⟨N,e,e2⟩:=h.app
   exact ⟨N ++ [(p,getW M0 q ++ [p])],by rw [e,List.append_assoc],by rw [e2];simp⟩
  ·rcases List.mem_append.1 hm with hm|hm
   ·exact h.new p' w hm
   ·simp only [List.mem_singleton,Prod.mk.injEq] at hm
    obtain ⟨rfl,rfl⟩:=hm
    exact .inr ⟨hM0,⟨q,hq,hst,rfl⟩,hmin hl⟩
  ·rw [List.pairwise_append]
   refine ⟨?_,by simp,fun a ha b hb=>?_⟩
   ·exact h.srt.imp_of_mem fun ha hb hh=>by rw [hold _ ha,hold _ hb];exact hh
   ·rw [List.mem_singleton.1 hb,hold a ha,hnew]
    exact h.less a ha _ hc
  ·rcases List.mem_append.1 hp' with hp'|hp'
   ·rw [hold p' hp'];exact h.less p' hp' x hx.1
   ·rw [List.mem_singleton.1 hp',hnew];exact hx.2
  ·rw [ajo,if_pos rfl,hl];rfl
theorem Md.adds {n : zz} {W : List Int} {s q : Int} {M0 : zZ} {L : List Int} (hq : q ∈ L) : ∀ {l : List Int} {M : zZ} {nx : List Int} {cur : List Int→Prop},Md n W s M0 L cur M nx→(∀ p ∈ l,Stp n W s q p)→l.Pairwise (·≤·)→(∀ p ∈ l,cur (getW M0 q ++ [p])∨(M.lookup p).isSome=true)→
  (∀ p ∈ l,M.lookup p=none→∀ q' ∈ L,Stp n W s q' p→leL (getW M0 q ++ [p]) (getW M0 q' ++ [p]))→
  Md n W s M0 L (fun x=>cur x∧∀ p ∈ l,ltL (getW M0 q ++ [p]) x) (l.foldl (yg (getW M0 q)) (M,nx)).1 (l.foldl (yg (getW M0 q)) (M,nx)).2∧(∀ p ∈ l,((l.foldl (yg (getW M0 q)) (M,nx)).1.lookup p).isSome=true)∧
  (∀ x,(M.lookup x).isSome=true→((l.foldl (yg (getW M0 q)) (M,nx)).1.lookup x).isSome=true)
 |[],M,nx,cur,h,_,_,_,_=>⟨h.mono fun x hx=>hx.1,by simp,fun x hx=>hx⟩
 |p::l,M,nx,cur,h,hst,hs,hc,hmin=>by
  have hs':=List.pairwise_cons.1 hs
  rw [List.foldl_cons]
  have key : Md n W s M0 L (fun x=>cur x∧ltL (getW M0 q ++ [p]) x) (yg (getW M0 q) (M,nx) p).1 (yg (getW M0 q) (M,nx) p).2∧((yg (getW M0 q) (M,nx) p).1.lookup p).isSome=true∧(∀ x,(M.lookup x).isSome=true→((yg (getW M0 q) (M,nx) p).1.lookup x).isSome=true):=by
   rcases hc p List.mem_cons_self with hcp|hl
   ·exact h.add hcp hq (hst p List.mem_cons_self) (hmin p List.mem_cons_self)
   ·rw [yg]
    simp only [hl,if_true]
    exact ⟨h.mono fun x hx=>hx.1,trivial,fun x hx=>hx⟩
  obtain ⟨h1,h2,h3⟩:=key
  obtain ⟨k1,k2,k3⟩:=Md.adds hq (l:=l) h1 (fun x hx=>hst x (List.mem_cons_of_mem _ hx)) hs'.2 (fun x hx=>by
   rcases hc x (List.mem_cons_of_mem _ hx) with hcx|hlx
   ·have hle:=hs'.1 x hx
    by_cases e : x=p
    ·subst e;exact .inr h2
    ·exact .inl ⟨hcx,acG (.inl (by omega))⟩
   ·exact .inr (h3 x hlx)) (fun x hx hl=>hmin x (List.mem_cons_of_mem _ hx) (by
    cases hm : M.lookup x with
    |none=>rfl
    |some w=>have:=h3 x (by rw [hm];rfl);rw [hl] at this;cases this))
  refine ⟨k1.mono fun x hx=>⟨⟨hx.1,hx.2 p List.mem_cons_self⟩,fun y hy=>hx.2 y (List.mem_cons_of_mem _ hy)⟩,fun x hx=>?_,fun x hx=>k3 x (h3 x hx)⟩
  rcases List.mem_cons.1 hx with rfl|hx
  ·exact k3 _ h2
  ·exact k2 x hx
end Go.Proofs
end
section
namespace Go.Proofs
set_option linter.unusedVariables false
set_option linter.unusedSimpArgs false
def rndW (n : zz) (so : List Int→List Int) (W : List Int) (s : Int) (M : zZ) (L : List Int) (st : zZ × List Int) : zZ × List Int:=
 L.foldl (fun st q=>if q≠s∧q ∈ W then st else (so (nxt n q)).foldl (yg (getW M q)) st) st
def abO (so : List Int→List Int) : Prop:=∀ l,(so l).Pairwise (·≤·)∧∀ x,x ∈ so l↔x ∈ l
theorem Fw.lenL {n : zz} {W : List Int} {s : Int} {k : Nat} {M : zZ} {L : List Int} (h : Fw n W s k M L) {q : Int} (hq : q ∈ L) : (q,getW M q) ∈ M∧(getW M q).length=k+1:=by
 obtain ⟨w,hw,hl⟩:=(h.lev q).1 hq
 rw [acH h.nod hw];exact ⟨hw,hl⟩
theorem Fw.rnd {n : zz} {so : List Int→List Int} (hso : abO so) {W : List Int} {s : Int} {k : Nat} {M0 : zZ} {L : List Int} (h : Fw n W s k M0 L) : ∀ {rest : List Int} {M : zZ} {nx : List Int},(∃ done,L=done++rest∧∀ q ∈ done,∀ p,Stp n W s q p→(M.lookup p).isSome=true)→
  Md n W s M0 L (fun x=>∃ q ∈ rest,∃ p,x=getW M0 q ++ [p]) M nx→(∀ x,(M0.lookup x).isSome=true→(M.lookup x).isSome=true)→
  Md n W s M0 L (fun _=>False) (rndW n so W s M0 rest (M,nx)).1 (rndW n so W s M0 rest (M,nx)).2∧∀ q ∈ L,∀ p,Stp n W s q p→((rndW n so W s M0 rest (M,nx)).1.lookup p).isSome=true
 |[],M,nx,hd,hm,_=>by
  obtain ⟨done,e,hd⟩:=hd
  rw [List.append_nil] at e
  subst e
  exact ⟨hm.mono fun x hx=>hx.elim,hd⟩
 |q::rest,M,nx,hd,hm,h0=>by
  obtain ⟨done,e,hd⟩:=hd
  have hqL : q ∈ L:=by rw [e];simp
  have hsrt : ∀ q' ∈ rest,ltL (getW M0 q) (getW M0 q'):=fun q' hq'=>by
   have:=h.srt
   rw [e,List.pairwise_append] at this
   exact (List.pairwise_cons.1 this.2.1).1 q' hq'
  have hlen : ∀ q' ∈ L,(getW M0 q').length=k+1:=fun q' hq'=>(h.lenL hq').2
  have e' : L=(done ++ [q])++rest:=by rw [e];simp
  have hrL : ∀ q' ∈ rest,q' ∈ L:=fun q' hq'=>by rw [e];simp [hq']
  rw [rndW,List.foldl_cons]
  by_cases hsk : q≠s∧q ∈ W
  ·rw [if_pos hsk]
   refine Fw.rnd hso h (rest:=rest) ⟨done ++ [q],e',fun q' hq' p hp=>?_⟩ (hm.mono fun x ⟨q',hq',p,e⟩=>⟨q',List.mem_cons_of_mem _ hq',p,e⟩) h0
   rcases List.mem_append.1 hq' with hq'|hq'
   ·exact hd q' hq' p hp
   ·obtain rfl:=List.mem_singleton.1 hq'
    rcases hp.1 with h1|h1
    ·exact absurd h1 hsk.1
    ·exact absurd hsk.2 h1
  ·rw [if_neg hsk]
   have hst : ∀ p ∈ so (nxt n q),Stp n W s q p:=fun p hp=>by
    refine ⟨?_,((hso _).2 p).1 hp⟩
    by_cases e1 : q=s
    ·exact .inl e1
    ·exact .inr fun hw=>hsk ⟨e1,hw⟩
   obtain ⟨k1,k2,k3⟩:=Md.adds hqL (l:=so (nxt n q)) hm hst (hso _).1 (fun p hp=>.inl ⟨q,List.mem_cons_self,p,rfl⟩) fun p hp hl q' hq' hst'=>by
    rw [e] at hq'
    rcases List.mem_append.1 hq' with hq'|hq'
    ·have:=hd q' hq' p hst'
     rw [hl] at this;cases this
    rcases List.mem_cons.1 hq' with rfl|hq'
    ·exact .refl
    ·exact agy (.inr (hsrt q' hq')) (by rw [hlen q hqL,hlen q' (hrL q' hq')])
   refine Fw.rnd hso h (rest:=rest) ⟨done ++ [q],e',fun q' hq' p hp=>?_⟩ (k1.mono fun x ⟨q',hq',p,e⟩=>⟨⟨q',List.mem_cons_of_mem _ hq',p,e⟩,fun p' hp'=>?_⟩) fun x hx=>k3 x (h0 x hx)
   ·rcases List.mem_append.1 hq' with hq'|hq'
    ·exact k3 p (hd q' hq' p hp)
    ·obtain rfl:=List.mem_singleton.1 hq'
     exact k2 p (((hso _).2 p).2 hp.2)
   ·rw [e]
    exact Vl (hsrt q' hq') (by rw [hlen q hqL,hlen q' (hrL q' hq')])
theorem Fw.next {n : zz} (hn : xM n) {so : List Int→List Int} (hso : abO so) {W : List Int} {s : Int} {k : Nat} {M : zZ} {L : List Int} (h : Fw n W s k M L) :
  Fw n W s (k+1) (rndW n so W s M L (M,[])).1 (rndW n so W s M L (M,[])).2∧M.length+(rndW n so W s M L (M,[])).2.length=(rndW n so W s M L (M,[])).1.length:=by
 obtain ⟨hm,hall⟩:=Fw.rnd hso h (rest:=L) (M:=M) (nx:=[]) ⟨[],rfl,fun q hq=>by cases hq⟩ ⟨⟨[],by simp,rfl⟩,fun p w hp=>.inl hp,h.nod,.nil,fun p hp=>by cases hp⟩ fun x hx=>hx
 generalize (rndW n so W s M L (M,[])).1=M' at *
 generalize (rndW n so W s M L (M,[])).2=nx at *
 obtain ⟨N,eN,eN2⟩:=hm.app
 have hlast : ∀ p w,Vw n W s w p→w.length≤k+2→M.lookup p=none→∃ u q,w=u ++ [p]∧Vw n W s u q∧Stp n W s q p∧q ∈ L∧u.length=k+1∧leL (getW M q) u:=fun p w hw hl hno=>by
  rcases hw.last with ⟨rfl,rfl⟩|⟨u,q,rfl,hu,hst⟩
  ·have:=h.all _ _ hw (by simp);rw [hno] at this;cases this
  ·rw [List.length_append,List.length_singleton] at hl
   obtain ⟨wq,hwq⟩:=adq (h.all q u hu (by omega))
   obtain ⟨_,hmq,hlq⟩:=h.min q wq hwq
   have h1:=hmq.2 u hu
   have hlt : ¬ wq.length≤k:=fun hle=>by
    have:=h.all p (wq ++ [p]) (hmq.1.snoc hst) (by rw [List.length_append,List.length_singleton];omega)
    rw [hno] at this;cases this
   have hul : u.length=k+1:=by omega
   refine ⟨u,q,rfl,hu,hst,(h.lev q).2 ⟨wq,hwq,by omega⟩,hul,?_⟩
   rw [acH h.nod hwq]
   exact h1.2 (by omega)
 have hNnew : ∀ p w,(p,w) ∈ N→M.lookup p=none∧w.length=k+2:=fun p w hp=>by
  have hpM : (p,w) ∈ M':=by rw [eN];exact List.mem_append_right _ hp
  have hno : M.lookup p=none:=by
   cases hl : M.lookup p with
   |none=>rfl
   |some v=>
    have h1:=(jF h.nod).2 hl
    have h2:=hm.nod
    rw [eN,List.map_append,List.nodup_append] at h2
    exact absurd rfl (h2.2.2 p (List.mem_map.2 ⟨_,h1,rfl⟩) p (List.mem_map.2 ⟨_,hp,rfl⟩))
  rcases hm.new p w hpM with h1|⟨_,⟨q,hq,hst,rfl⟩,_⟩
  ·rw [(jF h.nod).1 h1] at hno;cases hno
  ·exact ⟨hno,by rw [List.length_append,(h.lenL hq).2];rfl⟩
 refine ⟨⟨fun p w hp=>?_,hm.nod,fun p w hw hl=>?_,fun p=>?_,hm.srt⟩,by rw [eN,eN2];simp⟩
 ·rcases hm.new p w hp with h1|⟨hno,⟨q,hq,hst,rfl⟩,hle⟩
  ·obtain ⟨a,b,c⟩:=h.min p w h1
   exact ⟨a,b,by omega⟩
  ·obtain ⟨hqM,hql⟩:=h.lenL hq
   obtain ⟨hqN,hqm,_⟩:=h.min q _ hqM
   have hl2 : (getW M q ++ [p]).length=k+2:=by rw [List.length_append,hql];rfl
   refine ⟨qC hn hst.2,⟨hqm.1.snoc hst,fun w' hw'=>?_⟩,by omega⟩
   have hge : k+2≤w'.length:=by
    refine Nat.le_of_not_lt fun hlt=>?_
    have:=h.all p w' hw' (by omega)
    rw [hno] at this;cases this
   refine ⟨by omega,fun he=>?_⟩
   obtain ⟨u,q',rfl,hu,hst',hq',hul,hlu⟩:=hlast p w' hw' (by omega) hno
   exact adp (hle q' hq' hst') (agy hlu (by rw [(h.lenL hq').2,hul]))
 ·cases hno : M.lookup p with
  |some v=>rw [eN];exact aj8 (by rw [hno];rfl)
  |none=>
   obtain ⟨u,q,rfl,hu,hst,hq,_,_⟩:=hlast p w hw hl hno
   exact hall q hq p hst
 ·rw [eN2]
  constructor
  ·intro hp
   obtain ⟨⟨y,w⟩,hy,e⟩:=List.mem_map.1 hp
   have e : y=p:=e
   subst e
   exact ⟨w,by rw [eN];exact List.mem_append_right _ hy,(hNnew y w hy).2⟩
  ·rintro ⟨w,hw,hl⟩
   rw [eN] at hw
   rcases List.mem_append.1 hw with hw|hw
   ·have:=(h.min p w hw).2.2;omega
   ·exact List.mem_map.2 ⟨_,hw,rfl⟩
theorem Fw.few {n : zz} {W : List Int} {s : Int} {k : Nat} {M : zZ} {L : List Int} (h : Fw n W s k M L) : M.length≤n.length:=by
 have hsub : ∀ x ∈ (M.map Prod.fst).map Int.toNat,x ∈ List.range n.length:=fun x hx=>by
  obtain ⟨p,hp,rfl⟩:=List.mem_map.1 hx
  obtain ⟨⟨y,w⟩,hy,rfl⟩:=List.mem_map.1 hp
  have:=(h.min y w hy).1
  have h0:=this.1;have h1:=this.2
  exact List.mem_range.2 (by show y.toNat<_;omega)
 have hnd : ((M.map Prod.fst).map Int.toNat).Nodup:=by
  rw [List.Nodup,List.pairwise_map]
  refine h.nod.imp_of_mem fun {a b} ha hb hab e=>?_
  obtain ⟨⟨y,w⟩,hy,rfl⟩:=List.mem_map.1 ha
  obtain ⟨⟨z,v⟩,hz,rfl⟩:=List.mem_map.1 hb
  have h1:=(h.min y w hy).1.1
  have h2:=(h.min z v hz).1.1
  dsimp only at e hab
  omega
 have : ∀ {a b : List Nat},a.Nodup→(∀ x ∈ a,x ∈ b)→a.length≤b.length:=by
  intro a
  induction a with
  |nil=>intro b _ _;exact Nat.zero_le _
  |cons x a ih=>
   intro b hn hs
   have hn':=List.nodup_cons.1 hn
   have hx:=hs x List.mem_cons_self
   have:=ih (b:=b.erase x) hn'.2 fun y hy=>by
    have hne : y≠x:=fun e=>hn'.1 (e ▸ hy)
    exact (List.mem_erase_of_ne hne).2 (hs y (List.mem_cons_of_mem _ hy))
   rw [List.length_erase_of_mem hx] at this
   have hp : 0<b.length:=List.length_pos_of_mem hx
   rw [List.length_cons];omega
 have:=this hnd hsub
 simpa using this
theorem Fw.end {n : zz} {W : List Int} {s : Int} {k : Nat} {M : zZ} (h : Fw n W s k M []) {p : Int} {w : List Int} (hw : Vw n W s w p) : (M.lookup p).isSome=true:=by
 obtain ⟨m,hm⟩ : ∃ m,w.length=m:=⟨_,rfl⟩
 induction m generalizing p w with
 |zero=>have:=hw.pos;omega
 |succ m ih=>
  rcases hw.last with ⟨rfl,rfl⟩|⟨u,q,rfl,hu,hst⟩
  ·exact h.all _ _ hw (by simp)
  ·rw [List.length_append,List.length_singleton] at hm
   obtain ⟨wq,hwq⟩:=adq (ih hu (by omega))
   obtain ⟨_,hmq,hlq⟩:=h.min q wq hwq
   have hne : wq.length≠k+1:=fun e=>by
    have:=(h.lev q).2 ⟨wq,hwq,e⟩
    cases this
   exact h.all p (wq ++ [p]) (hmq.1.snoc hst) (by rw [List.length_append,List.length_singleton];omega)
noncomputable def wayE (n : zz) (s t : Int) (W : List Int) : Option (List Int):=by
 classical exact if h : ∃ w,MinW n W s t w then some h.choose else none
theorem jW {n : zz} {W : List Int} {s t : Int} {w : List Int} : wayE n s t W=some w↔MinW n W s t w:=by
 rw [wayE]
 constructor
 ·intro h
  split at h
  ·rename_i hx;cases h;exact hx.choose_spec
  ·cases h
 ·intro h
  rw [dif_pos ⟨w,h⟩]
  congr 1
  exact MinW.one (Exists.choose_spec (⟨w,h⟩ : ∃ w,MinW n W s t w)) h
theorem adr {n : zz} {W : List Int} {s t : Int} (h : ∀ w,¬ Vw n W s w t) : wayE n s t W=none:=by
 cases hw : wayE n s t W with
 |none=>rfl
 |some w=>exact absurd (jW.1 hw).1 (h w)
theorem Fw.found {n : zz} {W : List Int} {s t : Int} {k : Nat} {M : zZ} {L : List Int} (h : Fw n W s k M L) (he : L = []∨(M.lookup t).isSome=true) : M.lookup t=wayE n s t W:=by
 cases hl : M.lookup t with
 |some w=>exact (jW.2 (h.min t w ((jF h.nod).2 hl)).2.1).symm
 |none=>
  rcases he with rfl|he
  ·refine (adr fun w hw=>?_).symm
   have:=h.end hw
   rw [hl] at this;cases this
  ·rw [hl] at he;cases he
end Go.Proofs
end
section
namespace Go.Proofs
set_option linter.unusedVariables false
set_option linter.unusedSimpArgs false
def faA (far : List Int) (x : Int) : Int:=far.getD x.toNat (-1)
theorem Vm {far : List Int} {x y v : Int} (hx : 0≤x) (hx2 : x<far.length) (hy : 0≤y) : faA (far.set x.toNat v) y=if y=x then v else faA far y:=by
 rw [faA,List.getD_eq_getElem?_getD,List.getElem?_set]
 by_cases h : y=x
 ·subst h;rw [if_pos rfl,if_pos rfl,if_pos (by omega)];rfl
 ·rw [if_neg (by omega),if_neg h,faA,List.getD_eq_getElem?_getD]
def xN (W : List Int) (s : Int) (y : Int) (st : List Int × List Int) (x : Int) : List Int × List Int:=
 if faA st.1 x<0∧(x ∉ W∨x=s) then (st.1.set x.toNat (faA st.1 y+1),if x=s then st.2 else st.2 ++ [x]) else st
structure Bk (n : zz) (W : List Int) (s t : Int) (far todo : List Int) (m : Int) (P : Int→Int→Prop) : Prop where
 len : far.length=n.length
 td : ∀ x ∈ todo,isN n x∧x≠s∧0≤faA far x
 inn : ∀ x,isN n x→0≤faA far x→x=s∨x ∈ todo
 val : ∀ x,isN n x→-1≤faA far x
 snd : ∀ x,isN n x→0<faA far x→(x=s∨x ∉ W)∧∃ y ∈ todo,y ∈ nxt n x∧faA far y+1=faA far x
 zer : ∀ x,isN n x→faA far x=0→x=t
 tt : t ∈ todo∧faA far t=0
 srt : todo.Pairwise fun a b=>faA far a≤faA far b
 lim : ∀ x,isN n x→faA far x≤m+1
 cls : ∀ y x,P y x→y ∈ todo∧(isN n x→(x=s∨x ∉ W)→0≤faA far x∧faA far x≤faA far y+1)
theorem Bk.start {n : zz} {W : List Int} {s t : Int} (ht : isN n t) (hs : t≠s) : Bk n W s t ((List.replicate n.length (-1)).set t.toNat 0) [t] 0 (fun _ _=>False):=by
 have e : ∀ x,isN n x→faA ((List.replicate n.length (-1)).set t.toNat 0) x=if x=t then 0 else -1:=fun x hx=>by
  rw [Vm ht.1 (by rw [List.length_replicate];exact ht.2) hx.1]
  split
  ·rfl
  ·rw [faA,List.getD_eq_getElem?_getD,List.getElem?_replicate];split<;>rfl
 refine ⟨by simp,fun x hx=>?_,fun x hx h=>?_,fun x hx=>?_,fun x hx h=>?_,fun x hx h=>?_,⟨by simp,by rw [e t ht,if_pos rfl]⟩,by simp,fun x hx=>?_,fun y x h=>h.elim⟩
 ·obtain rfl:=List.mem_singleton.1 hx
  exact ⟨ht,hs,by rw [e x ht,if_pos rfl];decide⟩
 ·rw [e x hx] at h
  split at h
  ·rename_i h';subst h';exact .inr (by simp)
  ·omega
 ·rw [e x hx];split<;>omega
 ·rw [e x hx] at h;split at h<;>omega
 ·rw [e x hx] at h
  split at h
  ·assumption
  ·omega
 ·rw [e x hx];split<;>omega
theorem acI : ∀ {far : List Int} {k : Nat} {v : Int} (hk : k<far.length),far[k]<0→¬ v<0→(far.set k v).countP (fun v=>decide (v<0))+1=far.countP (fun v=>decide (v<0))
 |[],k,v,hk,_,_=>by simp at hk
 |a::l,0,v,hk,h,hv=>by
  simp only [List.getElem_cons_zero] at h
  simp [h,hv]
 |a::l,k+1,v,hk,h,hv=>by
  simp only [List.getElem_cons_succ,List.length_cons] at h hk
  have:=acI (far:=l) (k:=k) (v:=v) (by omega) h hv
  simp only [List.set_cons_succ,List.countP_cons]
  omega
theorem Bk.put {n : zz} {W : List Int} {s t : Int} {far todo : List Int} {m : Int} {P : Int→Int→Prop} (h : Bk n W s t far todo m P) {x y : Int} (hy : y ∈ todo) (hm : faA far y=m) (hx : isN n x) (he : y ∈ nxt n x) :
  Bk n W s t (xN W s y (far,todo) x).1 (xN W s y (far,todo) x).2 m (fun y' x'=>P y' x'∨(y'=y∧x'=x))∧faA (xN W s y (far,todo) x).1 y=m∧todo <+: (xN W s y (far,todo) x).2∧
  (xN W s y (far,todo) x).1.countP (fun v=>decide (v<0))+(xN W s y (far,todo) x).2.length≤far.countP (fun v=>decide (v<0))+todo.length:=by
 rw [xN]
 dsimp only
 split
 ·rename_i hc
  obtain ⟨hc1,hc2⟩:=hc
  have x0:=hx.1
  have x1 : x<far.length:=by rw [h.len];exact hx.2
  have hset : ∀ z,0≤z→faA (far.set x.toNat (faA far y+1)) z=if z=x then m+1 else faA far z:=fun z hz=>by rw [Vm x0 x1 hz,hm]
  have hxt : ∀ z ∈ todo,z≠x:=fun z hz e=>by have:=(h.td z hz).2.2;rw [e] at this;omega
  have hold : ∀ z ∈ todo,faA (far.set x.toNat (faA far y+1)) z=faA far z:=fun z hz=>by rw [hset z (h.td z hz).1.1,if_neg (hxt z hz)]
  have hm0 : 0≤m:=by rw [← hm];exact (h.td y hy).2.2
  have hmem : ∀ z,z ∈ (if x=s then todo else todo ++ [x])↔z ∈ todo∨(z=x∧x≠s):=fun z=>by
   split
   ·rename_i e;simp [e]
   ·rename_i e;simp [e]
  refine ⟨⟨by rw [List.length_set];exact h.len,fun z hz=>?_,fun z hz h0=>?_,fun z hz=>?_,fun z hz h0=>?_,fun z hz h0=>?_,⟨(hmem t).2 (.inl h.tt.1),by rw [hold t h.tt.1];exact h.tt.2⟩,?_,fun z hz=>?_,fun y' x' hp=>?_⟩,by rw [hold y hy];exact hm,?_,?_⟩
  ·rcases (hmem z).1 hz with hz|⟨rfl,hz⟩
   ·rw [hold z hz];exact h.td z hz
   ·exact ⟨hx,hz,by rw [hset z x0,if_pos rfl];omega⟩
  ·rw [hset z hz.1] at h0
   by_cases e : z=x
   ·by_cases es : x=s
    ·exact .inl (e.trans es)
    ·exact .inr ((hmem z).2 (.inr ⟨e,es⟩))
   ·rw [if_neg e] at h0
    rcases h.inn z hz h0 with h1|h1
    ·exact .inl h1
    ·exact .inr ((hmem z).2 (.inl h1))
  ·rw [hset z hz.1]
   split
   ·omega
   ·exact h.val z hz
  ·rw [hset z hz.1] at h0 ⊢
   by_cases e : z=x
   ·subst e
    rw [if_pos rfl]
    exact ⟨hc2.symm,y,(hmem y).2 (.inl hy),he,by rw [hold y hy,hm]⟩
   ·rw [if_neg e] at h0 ⊢
    obtain ⟨a,y',b,c,d⟩:=h.snd z hz h0
    exact ⟨a,y',(hmem y').2 (.inl b),c,by rw [hold y' b];exact d⟩
  ·rw [hset z hz.1] at h0
   split at h0
   ·omega
   ·exact h.zer z hz h0
  ·have hs1 : todo.Pairwise fun a b=>faA (far.set x.toNat (faA far y+1)) a≤faA (far.set x.toNat (faA far y+1)) b:=h.srt.imp_of_mem fun ha hb hh=>by rw [hold _ ha,hold _ hb];exact hh
   split
   ·exact hs1
   ·rw [List.pairwise_append]
    refine ⟨hs1,by simp,fun a ha b hb=>?_⟩
    rw [List.mem_singleton.1 hb,hold a ha,hset x x0,if_pos rfl]
    exact h.lim a (h.td a ha).1
  ·rw [hset z hz.1]
   split
   ·exact Int.le_refl _
   ·exact h.lim z hz
  ·rcases hp with hp|⟨rfl,rfl⟩
   ·obtain ⟨a,b⟩:=h.cls y' x' hp
    refine ⟨(hmem y').2 (.inl a),fun hx' hel=>?_⟩
    obtain ⟨b1,b2⟩:=b hx' hel
    have : x'≠x:=fun e=>by rw [e] at b1;omega
    rw [hset x' hx'.1,if_neg this,hold y' a]
    exact ⟨b1,b2⟩
   ·refine ⟨(hmem y').2 (.inl hy),fun hx' hel=>?_⟩
    rw [hset x' x0,if_pos rfl,hold y' hy];omega
  ·split
   ·exact List.prefix_refl _
   ·exact List.prefix_append _ _
  ·have hcnt : (far.set x.toNat (faA far y+1)).countP (fun v=>decide (v<0))+1=far.countP (fun v=>decide (v<0)):=by
    have hgx : far[x.toNat]'(by omega)<0:=by
     have:=hc1
     rwa [faA,List.getD_eq_getElem?_getD,List.getElem?_eq_getElem (by omega),Option.getD_some] at this
    exact acI (by omega) hgx (by omega)
   split
   ·dsimp only;omega
   ·dsimp only;rw [List.length_append,List.length_singleton];omega
 ·rename_i hc
  refine ⟨{ h with cls:=fun y' x' hp=>?_ },hm,List.prefix_refl _,Nat.le_refl _⟩
  rcases hp with hp|⟨rfl,rfl⟩
  ·exact h.cls y' x' hp
  ·refine ⟨hy,fun hx' hel=>?_⟩
   have h1:=h.lim x' hx
   have : ¬ faA far x'<0:=fun hlt=>hc ⟨hlt,hel.symm⟩
   dsimp only
   omega
theorem Bk.next {n : zz} {W : List Int} {s t : Int} {far todo : List Int} {m m' : Int} {P : Int→Int→Prop} (h : Bk n W s t far todo m P) (hm : m≤m') : Bk n W s t far todo m' P:=
 { h with lim:=fun x hx=>by have:=h.lim x hx;omega }
theorem Bk.less {n : zz} {W : List Int} {s t : Int} {far todo : List Int} {m : Int} {P Q : Int→Int→Prop} (h : Bk n W s t far todo m P) (hq : ∀ y x,Q y x→P y x) : Bk n W s t far todo m Q:=
 { h with cls:=fun y x hp=>h.cls y x (hq y x hp) }
structure FarD (n : zz) (W : List Int) (s t : Int) (far : List Int) : Prop where
 val : ∀ x,isN n x→-1≤faA far x
 snd : ∀ x,isN n x→0<faA far x→(x=s∨x ∉ W)∧∃ y,y≠s∧y ∈ nxt n x∧faA far y+1=faA far x
 zer : ∀ x,isN n x→(faA far x=0↔x=t)
 cls : ∀ y x,isN n x→isN n y→y ∈ nxt n x→y≠s→0≤faA far y→(x=s∨x ∉ W)→0≤faA far x∧faA far x≤faA far y+1
theorem Bk.far {n : zz} {W : List Int} {s t : Int} {far todo : List Int} {m : Int} {P : Int→Int→Prop} (h : Bk n W s t far todo m P) (hP : ∀ y ∈ todo,∀ x,isN n x→y ∈ nxt n x→P y x) : FarD n W s t far:=
 ⟨h.val,fun x hx h0=>by
   obtain ⟨a,y,b,c,d⟩:=h.snd x hx h0
   exact ⟨a,y,(h.td y b).2.1,c,d⟩,
  fun x hx=>⟨h.zer x hx,fun e=>by rw [e];exact h.tt.2⟩,
  fun y x hx hy he hs h0 hel=>(h.cls y x (hP y ((h.inn y hy h0).resolve_left hs) x hx he)).2 hx hel⟩
theorem Pth.end1 {n : zz} {W : List Int} {s : Int} : ∀ {r : List Int} {x t t' : Int},Pth n W s x r t→Pth n W s x r t'→t=t'
 |[],x,t,t',h,k=>Eq.trans (Eq.symm h) k
 |y::r,x,t,t',h,k=>Pth.end1 h.2 k.2
theorem FarD.le {n : zz} (hn : xM n) {W : List Int} {s t : Int} {far : List Int} (h : FarD n W s t far) : ∀ {r : List Int} {x : Int},isN n x→Pth n W s x r t→s ∉ r→0≤faA far x∧faA far x≤r.length
 |[],x,hx,hp,_=>by
  have hp : x=t:=hp
  have:=(h.zer x hx).2 hp
  simp only [List.length_nil];omega
 |y::r,x,hx,hp,hs=>by
  rw [List.mem_cons,not_or] at hs
  have hy:=qC hn hp.1.2
  obtain ⟨a,b⟩:=FarD.le hn h hy hp.2 hs.2
  have:=h.cls y x hx hy hp.1.2 (fun e=>hs.1 e.symm) a hp.1.1
  simp only [List.length_cons];omega
theorem Pth.short {n : zz} {W : List Int} {s t : Int} : ∀ (k : Nat) {r : List Int},r.length≤k→Pth n W s s r t→∃ r',Pth n W s s r' t∧s ∉ r'∧r'.length≤r.length∧(s ∈ r→r'.length<r.length):=by
 intro k
 induction k with
 |zero=>
  intro r hr h
  have : r = []:=List.length_eq_zero_iff.1 (by omega)
  subst this
  exact ⟨[],h,by simp,Nat.le_refl _,fun h=>by cases h⟩
 |succ k ih=>
  intro r hr h
  by_cases hs : s ∈ r
  ·obtain ⟨a,b,rfl⟩:=List.append_of_mem hs
   obtain ⟨m,h1,h2⟩:=Pth.app.1 h
   simp only [List.length_append,List.length_cons] at hr
   obtain ⟨r',k1,k2,k3,_⟩:=ih (r:=b) (by omega) h2.2
   refine ⟨r',k1,k2,?_,fun _=>?_⟩<;>(simp only [List.length_append,List.length_cons];omega)
  ·exact ⟨r,h,hs,Nat.le_refl _,fun h=>absurd h hs⟩
theorem FarD.low {n : zz} (hn : xM n) {W : List Int} {s t : Int} {far : List Int} (h : FarD n W s t far) (hs : isN n s) {w : List Int} (hw : Vw n W s w t) : 0≤faA far s∧faA far s+1≤w.length∧((w.length : Int)=faA far s+1→s ∉ w.tail):=by
 obtain ⟨r,rfl,hp⟩:=hw
 obtain ⟨r',k1,k2,k3,k4⟩:=Pth.short r.length (Nat.le_refl _) hp
 obtain ⟨a,b⟩:=h.le hn hs k1 k2
 simp only [List.length_cons,List.tail_cons]
 refine ⟨a,by omega,fun e hm=>?_⟩
 have:=k4 hm
 omega
def bestF (far : List Int) (s at' : Int) (l : List Int) (b : Int) : Int:=l.foldl (fun b x=>if faA far x=faA far at' - 1∧x≠s∧(b<0∨x<b) then x else b) b
theorem agz {far : List Int} {s at' : Int} : ∀ {l : List Int} {b : Int},(∀ x ∈ l,0≤x)→(0≤b→bestF far s at' l b≤b)∧(0≤b→0≤bestF far s at' l b)∧((bestF far s at' l b=b)∨(bestF far s at' l b ∈ l∧faA far (bestF far s at' l b)=faA far at' - 1∧bestF far s at' l b≠s))∧
  (∀ x ∈ l,faA far x=faA far at' - 1→x≠s→0≤bestF far s at' l b∧bestF far s at' l b≤x)
 |[],b,_=>⟨fun _=>Int.le_refl _,id,.inl rfl,fun x hx=>by cases hx⟩
 |y::l,b,h=>by
  have ih:=agz (far:=far) (s:=s) (at':=at') (l:=l) (b:=if faA far y=faA far at' - 1∧y≠s∧(b<0∨y<b) then y else b) fun x hx=>h x (List.mem_cons_of_mem _ hx)
  have hy:=h y List.mem_cons_self
  have e : bestF far s at' (y::l) b=bestF far s at' l (if faA far y=faA far at' - 1∧y≠s∧(b<0∨y<b) then y else b):=rfl
  rw [e]
  generalize hr : bestF far s at' l (if faA far y=faA far at' - 1∧y≠s∧(b<0∨y<b) then y else b)=res at ih
  obtain ⟨i1,i2,i3,i4⟩:=ih
  by_cases hc : faA far y=faA far at' - 1∧y≠s∧(b<0∨y<b)
  ·rw [if_pos hc] at i1 i2 i3
   have j1:=i1 hy
   have j2:=i2 hy
   refine ⟨fun hb=>by have:=hc.2.2;omega,fun _=>j2,?_,fun x hx h1 h2=>?_⟩
   ·rcases i3 with e|⟨a,b,c⟩
    ·exact .inr ⟨by rw [e];exact List.mem_cons_self,by rw [e];exact hc.1,by rw [e];exact hc.2.1⟩
    ·exact .inr ⟨List.mem_cons_of_mem _ a,b,c⟩
   ·rcases List.mem_cons.1 hx with rfl|hx
    ·exact ⟨j2,j1⟩
    ·exact i4 x hx h1 h2
  ·rw [if_neg hc] at i1 i2 i3
   refine ⟨i1,i2,?_,fun x hx h1 h2=>?_⟩
   ·rcases i3 with e|⟨a,b,c⟩
    ·exact .inl e
    ·exact .inr ⟨List.mem_cons_of_mem _ a,b,c⟩
   ·rcases List.mem_cons.1 hx with rfl|hx
    ·have hb : 0≤b∧b≤x:=by
      refine Decidable.byContradiction fun hn=>hc ⟨h1,h2,?_⟩
      omega
     exact ⟨i2 hb.1,Int.le_trans (i1 hb.1) hb.2⟩
    ·exact i4 x hx h1 h2
structure Grd (n : zz) (W : List Int) (s t : Int) (far : List Int) (a : Int) (way : List Int) : Prop where
 at' : isN n a∧0≤faA far a
 vw : Vw n W s way a
 len : (way.length : Int)+faA far a=faA far s+1
 le : ∀ w',Vw n W s w' t→(w'.length : Int)=faA far s+1→leL way (w'.take way.length)
theorem Grd.start {n : zz} {W : List Int} {s t : Int} {far : List Int} (hs : isN n s) (h0 : 0≤faA far s) : Grd n W s t far s [s]:=
 ⟨⟨hs,h0⟩,.base,by simp only [List.length_singleton];omega,fun w' hw' _=>by obtain ⟨r,rfl,_⟩:=hw';exact .inl rfl⟩
theorem Grd.go {n : zz} (hn : xM n) {W : List Int} {s t : Int} {far : List Int} (hf : FarD n W s t far) (hs : isN n s) {a : Int} {way : List Int} (h : Grd n W s t far a way) (hat : a≠t) :
  Grd n W s t far (bestF far s a (nxt n a) (-1)) (way ++ [bestF far s a (nxt n a) (-1)])∧faA far (bestF far s a (nxt n a) (-1))+1=faA far a:=by
 have haz : 0<faA far a:=by
  have h1:=h.at'.2
  have h2 : faA far a≠0:=fun e=>hat ((hf.zer a h.at'.1).1 e)
  omega
 obtain ⟨hel,y,hys,hyn,hyf⟩:=hf.snd a h.at'.1 haz
 obtain ⟨_,_,b3,b4⟩:=agz (far:=far) (s:=s) (at':=a) (l:=nxt n a) (b:=-1) fun x hx=>(qC hn hx).1
 generalize bestF far s a (nxt n a) (-1)=b at b3 b4
 have hb0:=(b4 y hyn (by omega) hys).1
 obtain ⟨c1,c2,c3⟩:=b3.resolve_left fun e=>by omega
 have hbN:=qC hn c1
 refine ⟨⟨⟨hbN,by omega⟩,h.vw.snoc ⟨hel,c1⟩,by rw [List.length_append,List.length_singleton];have:=h.len;omega,fun w' hw' hl=>?_⟩,by omega⟩
 have hle:=h.le w' hw' hl
 have hlen:=h.len
 have hlt : way.length<w'.length:=by omega
 rw [List.length_append,List.length_singleton,List.take_succ_eq_append_getElem hlt]
 rcases hle with e|hle
 ·refine adp (b:=way ++ [w'[way.length]]) ?_ (by rw [← e];exact .inl rfl)
  obtain ⟨_,_,hns⟩:=hf.low hn hs hw'
  have hns:=hns hl
  obtain ⟨r,rfl,hp⟩:=hw'
  obtain ⟨ra,rfl,hpa⟩:=h.vw
  have hra : ra=r.take ra.length:=by
   simp only [List.length_cons,List.take_succ_cons,List.cons.injEq,true_and] at e
   exact e
  simp only [List.length_cons,List.tail_cons,List.getElem_cons_succ] at *
  have hrl : ra.length<r.length:=by omega
  have hsplit : r=ra++r[ra.length]::r.drop (ra.length+1):=by
   conv=>lhs;rw [← List.take_append_drop ra.length r,← hra,List.drop_eq_getElem_cons hrl]
  have hp2:=hp
  rw [hsplit] at hp2
  obtain ⟨m,h1,h2,h3⟩:=Pth.app.1 hp2
  have:=Pth.end1 h1 hpa
  subst this
  have hv : r[ra.length]≠s:=fun e=>hns (by rw [← e];exact List.getElem_mem hrl)
  have hvN:=qC hn h2.2
  obtain ⟨d1,d2⟩:=hf.le hn hvN h3 (fun hm=>hns (List.mem_of_mem_drop hm))
  rw [List.length_drop] at d2
  have d3:=hf.cls _ m h.at'.1 hvN h2.2 hv d1 hel
  have:=(b4 _ h2.2 (by omega) hv).2
  by_cases e2 : b=r[ra.length]
  ·rw [e2];exact .inl rfl
  ·exact .inr (acG (.inl (by omega)))
 ·exact .inr (Vl hle (by rw [List.length_take];omega))
theorem Grd.end {n : zz} (hn : xM n) {W : List Int} {s t : Int} {far : List Int} (hf : FarD n W s t far) (hs : isN n s) (ht : isN n t) {way : List Int} (h : Grd n W s t far t way) : wayE n s t W=some way:=by
 have hl:=h.len
 rw [(hf.zer t ht).2 rfl] at hl
 refine jW.2 ⟨h.vw,fun w' hw'=>?_⟩
 obtain ⟨_,h2,_⟩:=hf.low hn hs hw'
 refine ⟨by omega,fun e=>?_⟩
 have:=h.le w' hw' (by omega)
 rwa [List.take_of_length_le (by omega)] at this
theorem FarD.none {n : zz} (hn : xM n) {W : List Int} {s t : Int} {far : List Int} (hf : FarD n W s t far) (hs : isN n s) (h : faA far s<0) : wayE n s t W=none:=
 adr fun w hw=>by have:=(hf.low hn hs hw).1;omega
theorem aia {n : zz} {W : List Int} {s : Int} : wayE n s s W=some [s]:=by
 refine jW.2 ⟨.base,fun w' h'=>⟨h'.pos,fun hl=>?_⟩⟩
 obtain ⟨r,rfl,_⟩:=h'
 have : r = []:=by simpa using hl
 subst this;exact .refl
end Go.Proofs
end
section
namespace Go.Proofs
set_option linter.unusedVariables false
set_option linter.unusedSimpArgs false
end Go.Proofs
end
section
namespace Go.Proofs
set_option linter.unusedVariables false
set_option linter.unusedSimpArgs false
end Go.Proofs
end
section
namespace Go.Proofs
set_option linter.unusedVariables false
set_option linter.unusedSimpArgs false
theorem abP : ∀ {l m : List Int},l.Pairwise (· < ·)→m.Pairwise (· < ·)→(∀ x,x ∈ l↔x ∈ m)→l=m
 |[],[],_,_,_=>rfl
 |[],y::m,_,_,h=>absurd ((h y).2 List.mem_cons_self) (by simp)
 |x::l,[],_,_,h=>absurd ((h x).1 List.mem_cons_self) (by simp)
 |x::l,y::m,hl,hm,h=>by
  have hl':=List.pairwise_cons.1 hl
  have hm':=List.pairwise_cons.1 hm
  have hxy : x=y:=by
   rcases List.mem_cons.1 ((h x).1 List.mem_cons_self) with e|h1
   ·exact e
   rcases List.mem_cons.1 ((h y).2 List.mem_cons_self) with e|h2
   ·exact e.symm
   have:=hl'.1 y h2;have:=hm'.1 x h1;omega
  subst hxy
  rw [abP hl'.2 hm'.2 fun z=>?_]
  constructor
  ·intro hz
   rcases List.mem_cons.1 ((h z).1 (List.mem_cons_of_mem _ hz)) with e|hz'
   ·have:=hl'.1 z hz;omega
   ·exact hz'
  ·intro hz
   rcases List.mem_cons.1 ((h z).2 (List.mem_cons_of_mem _ hz)) with e|hz'
   ·have:=hm'.1 z hz;omega
   ·exact hz'
end Go.Proofs
end
section
namespace Go.Proofs
set_option linter.unusedVariables false
set_option linter.unusedSimpArgs false
theorem Fw.runs {n : zz} (hn : xM n) {so : List Int→List Int} (hso : abO so) {W : List Int} {s : Int} : ∀ (m : Nat) {k : Nat} {M : zZ} {L : List Int},Fw n W s k M L→k+1≤M.length→n.length - M.length≤m→∃ k M,Fw n W s k M []∧∀ p w,(p,w) ∈ M→w.length≤n.length
 |m,k,M,L,h,hk,hm=>by
  obtain ⟨h2,hl⟩:=h.next hn hso
  have f2:=h2.few
  generalize (rndW n so W s M L (M,[])).1=M' at *
  generalize (rndW n so W s M L (M,[])).2=L' at *
  by_cases e : L' = []
  ·subst e
   refine ⟨_,_,h2,fun p w hp=>?_⟩
   have h3:=(h2.min p w hp).2.2
   have h4 : w.length≠k+1+1:=fun e=>by
    have:=(h2.lev p).2 ⟨w,hp,e⟩
    cases this
   rw [List.length_nil] at hl
   omega
  ·have : 0<L'.length:=List.length_pos_iff.2 e
   cases m with
   |zero=>omega
   |succ m=>exact Fw.runs hn hso m h2 (by omega) (by omega)
theorem acJ {n : zz} (hn : xM n) {so : List Int→List Int} (hso : abO so) {W : List Int} {s t : Int} (hs : isN n s) : ((wayE n s t W).getD []).length≤n.length:=by
 cases hw : wayE n s t W with
 |none=>exact Nat.zero_le _
 |some w=>
  obtain ⟨k,M,hF,hf⟩:=Fw.runs hn hso n.length (Fw.start (W:=W) hs) (Nat.le_refl _) (by omega)
  rw [← hF.found (.inl rfl)] at hw
  exact hf t w ((jF hF.nod).2 hw)
end Go.Proofs
end
section
namespace Go.Proofs
set_option linter.unusedVariables false
set_option linter.unusedSimpArgs false
def kZ (o : OpD) : Bool:=decide (o.k=3)||decide (o.k=4)
def xC (p : PtD) : Bool:=decide (1≤p.op)&&decide (p.op≤8)
def kt (l : List OpD) : List Int:=(l.filter kZ).map fun o=>o.pl.l
def zI (p : PtD) : List Int:=kt (p.a::p.b::p.args)++((if p.op=4 then [p.fr.l] else [])++(if p.op=14∨(xC p=true∧-1 ∈ p.to.ps) then [p.to.l] else []))
def Qr (p : PtD) (x : Int) : Bool:=((refOps p).any fun o=>kZ o&&decide (o.pl.l=x))||((decide (p.op=4)&&decide (p.fr.l=x))||(decide (p.op=14)&&decide (x=0))||((xC p&&decide (-1 ∈ p.to.ps))&&decide (p.to.l=x)))
theorem afl {l : List OpD} {x : Int} : x ∈ kt l↔∃ o ∈ l,kZ o=true∧o.pl.l=x:=by
 rw [kt,List.mem_map]
 constructor
 ·rintro ⟨o,ho,rfl⟩
  rw [List.mem_filter] at ho
  exact ⟨o,ho.1,ho.2,rfl⟩
 ·rintro ⟨o,ho,h1,rfl⟩
  exact ⟨o,List.mem_filter.2 ⟨ho,h1⟩,rfl⟩
theorem abQ {p : PtD} {o : OpD} (h : kZ o=true) : o ∈ refOps p↔o ∈ p.a::p.b::p.args:=by
 have hk : o.k≠0:=by
  rw [kZ,Bool.or_eq_true,decide_eq_true_eq,decide_eq_true_eq] at h
  omega
 rw [refOps]
 simp only [List.mem_append,List.mem_cons]
 constructor
 ·rintro ((h1|h1)|h1)
  ·split at h1
   ·rw [List.mem_singleton] at h1;exact .inl h1
   ·cases h1
  ·split at h1
   ·rw [List.mem_singleton] at h1;exact .inr (.inl h1)
   ·cases h1
  ·exact .inr (.inr h1)
 ·rintro (h1|h1|h1)
  ·subst h1;exact .inl (.inl (by rw [if_pos hk];simp))
  ·subst h1;exact .inl (.inr (by rw [if_pos hk];simp))
  ·exact .inr h1
theorem afm {u : UnD} {g : GrD} {p : PtD} (h : zW u g p=true) {x : Int} : Qr p x=decide (x ∈ zI p):=by
 rw [Bool.eq_iff_iff,decide_eq_true_eq,Qr,zI]
 simp only [Bool.or_eq_true,Bool.and_eq_true,decide_eq_true_eq,List.any_eq_true,List.mem_append,afl]
 refine or_congr ?_ ?_
 ·constructor
  ·rintro ⟨o,ho,h1,h2⟩;exact ⟨o,(abQ h1).1 ho,h1,h2⟩
  ·rintro ⟨o,ho,h1,h2⟩;exact ⟨o,(abQ h1).2 ho,h1,h2⟩
 ·rw [or_assoc]
  refine or_congr ?_ ?_
  ·split
   ·rename_i h4;simp [h4,eq_comm]
   ·rename_i h4;simp [h4]
  ·have h14 : p.op=14→p.to.l=0:=fun h14=>by
    have h2:=jE h
    rw [ptG] at h2
    simp only [h14,Int.reduceEq,if_false,if_true,or_true] at h2
    have hz : yS p.to=true:=by
     simp only [zC,kh,List.all_cons,Bool.and_eq_true,id] at h2
     simpa using h2.1
    rw [yS] at hz
    simp only [Bool.and_eq_true,decide_eq_true_eq] at hz
    exact hz.1
   split
   ·rename_i hc
    rw [List.mem_singleton]
    rcases hc with hc|hc
    ·rw [h14 hc]
     simp only [hc,true_and]
     constructor
     ·rintro (e|⟨⟨e,_⟩,_⟩)
      ·exact e
      ·rw [xC,hc] at e;simp at e
     ·exact .inl
    ·constructor
     ·rintro (⟨e,_⟩|⟨_,e⟩)
      ·rw [xC,e] at hc;simp at hc
      ·exact e.symm
     ·intro e;exact .inr ⟨hc,e.symm⟩
   ·rename_i hc
    simp only [List.not_mem_nil,iff_false]
    rintro (⟨e,_⟩|⟨e,_⟩)
    ·exact hc (.inl e)
    ·exact hc (.inr e)
def XC (p : PtD) : Option Int:=if p.op=11 then some p.fr.l else if xC p=true∧p.to.ps = [] then some p.to.l else none
def y6 (p : PtD) : Option Int:=match XC p with|some x=>if x ∈ zI p then none else some x|none=>none
def ael (p : PtD) (x : Int) : Bool:=(((xC p&&decide (p.to.ps.length=0))&&decide (p.to.l=x))||(decide (p.op=11)&&decide (p.fr.l=x))) && !Qr p x
theorem ajp {u : UnD} {g : GrD} {p : PtD} (h : zW u g p=true) {x : Int} : ael p x=decide (y6 p=some x):=by
 rw [ael,afm h,Bool.eq_iff_iff,decide_eq_true_eq]
 simp only [Bool.or_eq_true,Bool.and_eq_true,decide_eq_true_eq,Bool.not_eq_true',decide_eq_false_iff_not]
 have hl : XC p=some x↔((xC p=true∧p.to.ps.length=0)∧p.to.l=x)∨p.op=11∧p.fr.l=x:=by
  rw [XC]
  split
  ·rename_i h11
   have : xC p=false:=by rw [xC,h11];rfl
   simp [h11,this]
  ·rename_i h11
   split
   ·rename_i hc
    simp [h11,hc.1,hc.2]
   ·rename_i hc
    simp only [reduceCtorEq,h11,false_and,or_false,false_iff]
    rintro ⟨⟨h1,h2⟩,_⟩
    exact hc ⟨h1,List.eq_nil_of_length_eq_zero h2⟩
 rw [← hl,y6]
 constructor
 ·rintro ⟨h1,h2⟩
  rw [h1];exact if_neg h2
 ·intro h1
  cases he : XC p with
  |none=>rw [he] at h1;cases h1
  |some y=>
   rw [he] at h1
   simp only at h1
   split at h1
   ·cases h1
   ·rename_i hy;cases h1;exact ⟨rfl,hy⟩
def aaJ (g : GrD) (q : Int) : List Int:=match g.pts[q.toNat]? with|some p=>zI p|none=>[]
def JO (g : GrD) (q : Int) : Option Int:=match g.pts[q.toNat]? with|some p=>y6 p|none=>none
def Usd (g : GrD) (x q : Int) : Prop:=x ∈ aaJ g q
def zD (g : GrD) (x q : Int) : Prop:=JO g q=some x
instance {g : GrD} {x q : Int} : Decidable (Usd g x q):=inferInstanceAs (Decidable (_ ∈ _))
instance {g : GrD} {x q : Int} : Decidable (zD g x q):=inferInstanceAs (Decidable (_=_))
inductive Lvd (g : GrD) (x : Int) : Int→Prop
 |use {q : Int} : isN (zh g) q→Usd g x q→Lvd g x q
 |step {q p : Int} : isN (zh g) q→¬ zD g x q→p ∈ nxt (zh g) q→Lvd g x p→Lvd g x q
theorem Lvd.isN {g : GrD} {x q : Int} (h : Lvd g x q) : isN (zh g) q:=by cases h<;>assumption
end Go.Proofs
end
section
namespace Go.Proofs
set_option linter.unusedVariables false
set_option linter.unusedSimpArgs false
def isL (g : GrD) (x : Int) : Prop:=0≤x∧x<(g.tys.length : Int)
theorem aaK {ss : List StD} {tys : List TyD} {p : PlD} (h : (zm ss tys p).2.2=true) : 0≤p.l∧p.l<(tys.length : Int):=by
 unfold zm at h
 split at h
 ·rename_i s hs
  by_cases h0 : p.l<0
  ·rw [if_pos h0] at hs;cases hs
  ·rw [if_neg h0] at hs
   cases ht : tys[p.l.toNat]? with
   |none=>rw [ht] at hs;cases hs
   |some t=>
    have:=(List.getElem?_eq_some_iff.1 ht).1
    omega
 ·cases h
theorem ajq {u : UnD} {g : GrD} {p : PtD} (h : zW u g p=true) (ho : p.op=4∨p.op=10∨p.op=11) : (zm u.ss g.tys p.fr).2.2=true:=by
 have h2:=jE h
 cases hf : (zm u.ss g.tys p.fr).2.2 with
 |true=>rfl
 |false=>
  rw [ptG] at h2
  rcases ho with hc|hc|hc<;>simp [hc,hf] at h2
theorem ajr {u : UnD} {g : GrD} {p : PtD} (hM : MayU u) (hpos : 1≤g.tys.length) (h : zW u g p=true) : ∀ x ∈ zI p,isL g x:=fun x hx=>by
 rw [zI,List.mem_append,List.mem_append,afl] at hx
 rcases hx with ⟨o,ho,h1,rfl⟩|hx|hx
 ·have hk : o.k=3∨o.k=4:=by rw [kZ,Bool.or_eq_true,decide_eq_true_eq,decide_eq_true_eq] at h1;exact h1
  have hg:=ah5 h o (by
   rw [ae7,List.mem_filter,ag9,decide_eq_true_eq]
   exact ⟨ho,by omega⟩)
  rw [zs] at hg
  have hs : (zm u.ss g.tys o.pl).2.2=true:=by
   rcases hk with hk|hk
   ·rw [if_neg (by omega),if_neg (by omega),if_pos hk] at hg
    simp only [Bool.and_eq_true] at hg
    exact hg.1.1
   ·rw [if_neg (by omega),if_neg (by omega),if_neg (by omega),if_pos hk] at hg
    simp only [Bool.and_eq_true] at hg
    exact hg.1.1.1
  exact aaK hs
 ·split at hx
  ·rename_i h4
   rw [List.mem_singleton.1 hx]
   exact aaK (ajq h (.inl h4))
  ·cases hx
 ·split at hx
  ·rename_i hc
   rw [List.mem_singleton.1 hx]
   by_cases ha : xC p=true
   ·rw [xC,Bool.and_eq_true,decide_eq_true_eq,decide_eq_true_eq] at ha
    exact aaK (aje h ha)
   ·have h14 : p.op=14:=hc.resolve_right fun h=>ha h.1
    have h2:=jE h
    rw [ptG] at h2
    simp only [h14,Int.reduceEq,if_false,if_true,or_true] at h2
    have hz : yS p.to=true:=by
     simp only [zC,kh,List.all_cons,Bool.and_eq_true,id] at h2
     simpa using h2.1
    rw [yS,Bool.and_eq_true,decide_eq_true_eq] at hz
    exact ⟨by omega,by omega⟩
  ·cases hx
structure GrF (g : GrD) : Prop where
 uses : ∀ p ∈ g.pts,∀ x ∈ zI p,isL g x
 few : g.tys.length≤512
noncomputable def lvM (g : GrD) (x : Int) : List Bool:=by
 classical exact (List.range (zh g).length).map fun (i : Nat)=>decide (Lvd g x i)
theorem qT {g : GrD} {x : Int} : (lvM g x).length=(zh g).length:=by simp [lvM]
theorem abR {g : GrD} {x q : Int} (hq : isN (zh g) q) : mk' (lvM g x) q=true↔Lvd g x q:=by
 have q0:=hq.1;have q1:=hq.2
 rw [mk',lvM,List.getD_eq_getElem?_getD,List.getElem?_map,List.getElem?_range (by omega)]
 simp [show ((q.toNat : Nat) : Int)=q by omega]
abbrev xc:=List (List Bool)
def ku (R : xc) (x : Int) : List Bool:=R.getD x.toNat []
def mkR (R : xc) (x q : Int) : Bool:=mk' (ku R x) q
def ZM (R : xc) (x q : Int) : xc:=R.set x.toNat (x8 (ku R x) q)
def xD (R : xc) : Nat:=(R.map off).sum
theorem ajs {R : xc} {x q : Int} : (ZM R x q).length=R.length:=List.length_set
theorem afn {R : xc} {x q y : Int} (hx : 0≤x) (hx2 : x<R.length) (hy : 0≤y) : ku (ZM R x q) y=if y=x then x8 (ku R x) q else ku R y:=by
 rw [ku,ZM,List.getD_eq_getElem?_getD,List.getElem?_set]
 by_cases h : y=x
 ·subst h;rw [if_pos rfl,if_pos (by omega),if_pos rfl];rfl
 ·rw [if_neg (by omega),if_neg h,ku,List.getD_eq_getElem?_getD]
theorem afo : ∀ {l : List Nat} {k v : Nat},k<l.length→(l.set k v).sum+l.getD k 0=l.sum+v
 |[],_,_,h=>absurd h (Nat.not_lt_zero _)
 |a::l,0,v,_=>by simp;omega
 |a::l,k+1,v,h=>by
  have:=afo (l:=l) (k:=k) (v:=v) (by simpa using h)
  simp only [List.set_cons_succ,List.sum_cons,List.getD_cons_succ]
  omega
theorem ajt {R : xc} {x q : Int} (hx : 0≤x) (hx2 : x<R.length) (hq : q.toNat<(ku R x).length) (h : mkR R x q=false) : xD (ZM R x q)+1=xD R:=by
 have h1:=akA hq h
 have h2:=afo (l:=R.map off) (k:=x.toNat) (v:=off (x8 (ku R x) q)) (by rw [List.length_map];omega)
 have h3 : (R.map off).getD x.toNat 0=off (ku R x):=by
  rw [List.getD_eq_getElem?_getD,List.getElem?_map,ku,List.getD_eq_getElem?_getD,List.getElem?_eq_getElem (by omega)];rfl
 rw [h3] at h2
 rw [xD,ZM,List.map_set]
 show ((R.map off).set x.toNat (off (x8 (ku R x) q))).sum+1=(R.map off).sum
 omega
def kG (st : xc × List (Int × Int)) (w : Int × Int) : xc × List (Int × Int):=if mkR st.1 w.2 w.1 then st else (ZM st.1 w.2 w.1,st.2 ++ [w])
structure Wk (g : GrD) (PU : Int→Int→Prop) (PE : Int→Int→Int→Prop) (R : xc) (T : List (Int × Int)) : Prop where
 len : R.length=g.tys.length
 rlen : ∀ x,isL g x→(ku R x).length=(zh g).length
 sound : ∀ x q,isL g x→isN (zh g) q→mkR R x q=true→Lvd g x q
 todo : ∀ w ∈ T,isL g w.2∧isN (zh g) w.1∧mkR R w.2 w.1=true
 base : ∀ x q,isL g x→isN (zh g) q→Usd g x q→mkR R x q=true∨PU x q
 back : ∀ x p q,isL g x→isN (zh g) p→mkR R x p=true→isN (zh g) q→p ∈ nxt (zh g) q→¬ zD g x q→(p,x) ∈ T∨mkR R x q=true∨PE x p q
theorem Wk.start {g : GrD} : Wk g (fun x q=>Usd g x q) (fun _ _ _=>False) (List.replicate g.tys.length (List.replicate (zh g).length false)) []:=by
 have hrow : ∀ x,isL g x→ku (List.replicate g.tys.length (List.replicate (zh g).length false)) x=List.replicate (zh g).length false:=fun x hx=>by
  have:=hx.1;have:=hx.2
  rw [ku,List.getD_eq_getElem?_getD,List.getElem?_replicate,if_pos (by omega)];rfl
 have hno : ∀ x q,isL g x→mkR (List.replicate g.tys.length (List.replicate (zh g).length false)) x q=false:=fun x q hx=>by
  rw [mkR,hrow x hx,mk',List.getD_eq_getElem?_getD,List.getElem?_replicate]
  split<;>rfl
 refine ⟨List.length_replicate,fun x hx=>by rw [hrow x hx,List.length_replicate],fun x q hx hq h=>?_,fun w hw=>(by cases hw),fun x q hx hq h=>.inr h,fun x p q hx hp h=>?_⟩
 ·rw [hno x q hx] at h;cases h
 ·rw [hno x p hx] at h;cases h
theorem Wk.mono {g : GrD} {PU PU' : Int→Int→Prop} {PE PE' : Int→Int→Int→Prop} {R : xc} {T : List (Int × Int)} (h : Wk g PU PE R T) (hu : ∀ x q,isL g x→isN (zh g) q→Usd g x q→PU x q→PU' x q∨mkR R x q=true)
  (he : ∀ x p q,isL g x→isN (zh g) q→p ∈ nxt (zh g) q→¬ zD g x q→PE x p q→PE' x p q∨mkR R x q=true) : Wk g PU' PE' R T:=
 ⟨h.len,h.rlen,h.sound,h.todo,fun x q hx hq hh=>(h.base x q hx hq hh).elim .inl fun k=>(hu x q hx hq hh k).symm,fun x p q hx hp hm hq hpq hE=>by
  rcases h.back x p q hx hp hm hq hpq hE with k|k|k
  ·exact .inl k
  ·exact .inr (.inl k)
  ·rcases he x p q hx hq hpq hE k with k|k
   ·exact .inr (.inr k)
   ·exact .inr (.inl k)⟩
theorem Wk.add {g : GrD} {PU : Int→Int→Prop} {PE : Int→Int→Int→Prop} {R : xc} {T : List (Int × Int)} (h : Wk g PU PE R T) {x q : Int} (hx : isL g x) (hq : isN (zh g) q) (hl : Lvd g x q) :
  Wk g PU PE (kG (R,T) (q,x)).1 (kG (R,T) (q,x)).2∧mkR (kG (R,T) (q,x)).1 x q=true∧(∀ y p,isL g y→isN (zh g) p→mkR R y p=true→mkR (kG (R,T) (q,x)).1 y p=true)∧
   (kG (R,T) (q,x)).2.length+xD (kG (R,T) (q,x)).1=T.length+xD R:=by
 rw [kG]
 dsimp only
 by_cases hm : mkR R x q=true
 ·rw [if_pos hm]
  exact ⟨h,hm,fun y p _ _ h=>h,rfl⟩
 ·rw [if_neg hm]
  have x0:=hx.1;have x1:=hx.2;have q0:=hq.1;have q1:=hq.2
  have hlx:=h.rlen x hx
  have hRl:=h.len
  have hmk : ∀ y p,isL g y→isN (zh g) p→mkR (ZM R x q) y p=(decide (y=x∧p=q)||mkR R y p):=fun y p hy hp=>by
   rw [mkR,afn x0 (by omega) hy.1]
   by_cases e : y=x
   ·subst e
    rw [if_pos rfl,afi q0 (by omega) hp.1]
    simp [mkR]
   ·rw [if_neg e];simp [e,mkR]
  dsimp only
  refine ⟨⟨by rw [ajs];exact hRl,fun y hy=>?_,fun y p hy hp hh=>?_,fun w hw=>?_,fun y p hy hp hh=>?_,fun y p r hy hp hh hr hpr hE=>?_⟩,?_,fun y p hy hp hh=>?_,?_⟩
  ·rw [afn x0 (by omega) hy.1]
   split
   ·rw [aaI];exact hlx
   ·exact h.rlen y hy
  ·rw [hmk y p hy hp,Bool.or_eq_true,decide_eq_true_eq] at hh
   rcases hh with ⟨rfl,rfl⟩|hh
   ·exact hl
   ·exact h.sound y p hy hp hh
  ·rcases List.mem_append.1 hw with hw|hw
   ·obtain ⟨h1,h2,h3⟩:=h.todo w hw
    exact ⟨h1,h2,by rw [hmk _ _ h1 h2,h3,Bool.or_true]⟩
   ·rw [List.mem_singleton.1 hw]
    exact ⟨hx,hq,by rw [hmk _ _ hx hq];simp⟩
  ·rcases h.base y p hy hp hh with k|k
   ·exact .inl (by rw [hmk _ _ hy hp,k,Bool.or_true])
   ·exact .inr k
  ·rw [hmk y p hy hp,Bool.or_eq_true,decide_eq_true_eq] at hh
   rcases hh with ⟨rfl,rfl⟩|hh
   ·exact .inl (List.mem_append_right _ (List.mem_singleton.2 rfl))
   ·rcases h.back y p r hy hp hh hr hpr hE with k|k|k
    ·exact .inl (List.mem_append_left _ k)
    ·exact .inr (.inl (by rw [hmk _ _ hy hr,k,Bool.or_true]))
    ·exact .inr (.inr k)
  ·rw [hmk _ _ hx hq];simp
  ·rw [hmk _ _ hy hp,hh,Bool.or_true]
  ·have:=ajt x0 (by omega) (by rw [hlx];omega) (Bool.eq_false_iff.2 hm)
   rw [List.length_append,List.length_singleton]
   omega
theorem Wk.pop {g : GrD} {PU : Int→Int→Prop} {R : xc} {T : List (Int × Int)} {p x : Int} (h : Wk g PU (fun _ _ _=>False) R (T ++ [(p,x)])) :
  Wk g PU (fun y r q=>y=x∧r=p∧q ∈ befN (zh g) p) R T∧isL g x∧isN (zh g) p∧Lvd g x p:=by
 obtain ⟨h1,h2,h3⟩:=h.todo (p,x) (by simp)
 refine ⟨⟨h.len,h.rlen,h.sound,fun w hw=>h.todo w (List.mem_append_left _ hw),h.base,fun y r q hy hr hh hq hpq hE=>?_⟩,h1,h2,h.sound _ _ h1 h2 h3⟩
 rcases h.back y r q hy hr hh hq hpq hE with k|k|k
 ·rcases List.mem_append.1 k with k|k
  ·exact .inl k
  ·cases List.mem_singleton.1 k
   exact .inr (.inr ⟨rfl,rfl,X5.2 ⟨hq,hpq⟩⟩)
 ·exact .inr (.inl k)
 ·exact k.elim
theorem Wk.end {g : GrD} (hn : xM (zh g)) {R : xc} (h : Wk g (fun _ _=>False) (fun _ _ _=>False) R []) {x : Int} (hx : isL g x) : ku R x=lvM g x:=by
 refine ado (by rw [h.rlen x hx,qT]) fun q q0 q1=>?_
 rw [h.rlen x hx] at q1
 have hq : isN (zh g) q:=⟨q0,q1⟩
 rw [Bool.eq_iff_iff,abR hq]
 constructor
 ·exact h.sound x q hx hq
 ·intro hl
  clear q0 q1 hq
  induction hl with
  |use hN hu=>exact (h.base x _ hx hN hu).elim id False.elim
  |@step q p hN he hp hl ih=>
   rcases h.back x p q hx (Lvd.isN hl) ih hN hp he with k|k|k
   ·cases k
   ·exact k
   ·exact k.elim
theorem akD {g : GrD} (hn : xM (zh g)) {R : xc} (h : Wk g (fun _ _=>False) (fun _ _ _=>False) R []) : R=(List.range g.tys.length).map fun (x : Nat)=>lvM g x:=by
 refine List.ext_getElem (by rw [h.len];simp) fun x h1 h2=>?_
 rw [List.length_map,List.length_range] at h2
 have:=h.end hn (x:=(x : Int)) ⟨by omega,by omega⟩
 rw [ku,List.getD_eq_getElem?_getD,Int.toNat_natCast,List.getElem?_eq_getElem h1] at this
 simpa using this
def xx (g : GrD) (x : Int) (m : List Bool) (q : Int) : Bool:=decide (Usd g x q)||(!decide (zD g x q)&&(nxt (zh g) q).any fun p=>mk' m p)
structure Rnd (g : GrD) (x : Int) (m : List Bool) : Prop where
 len : m.length=(zh g).length
 sound : ∀ q,isN (zh g) q→mk' m q=true→Lvd g x q
theorem Rnd.start {g : GrD} {x : Int} : Rnd g x (List.replicate (zh g).length false):=⟨List.length_replicate,fun q hq h=>by
 rw [mk',List.getD_eq_getElem?_getD,List.getElem?_replicate] at h
 split at h<;>cases h⟩
theorem Rnd.must {g : GrD} (hn : xM (zh g)) {x q : Int} {m : List Bool} (h : Rnd g x m) (hq : isN (zh g) q) (hm : xx g x m q=true) : Lvd g x q:=by
 rw [xx,Bool.or_eq_true,decide_eq_true_eq,Bool.and_eq_true,List.any_eq_true,Bool.not_eq_true',decide_eq_false_iff_not] at hm
 rcases hm with hm|⟨he,p,hp,hm⟩
 ·exact .use hq hm
 ·exact .step hq he hp (h.sound p (qC hn hp) hm)
theorem Rnd.set {g : GrD} (hn : xM (zh g)) {x q : Int} {m : List Bool} (h : Rnd g x m) (hq : isN (zh g) q) (hm : xx g x m q=true) : Rnd g x (x8 m q):=
 ⟨by rw [aaI];exact h.len,fun p hp hh=>by
  have q0:=hq.1;have q1:=hq.2;have hl:=h.len
  rw [afi q0 (by omega) hp.1,Bool.or_eq_true,decide_eq_true_eq] at hh
  rcases hh with rfl|hh
  ·exact h.must hn hq hm
  ·exact h.sound p hp hh⟩
theorem Rnd.end {g : GrD} {x : Int} {m : List Bool} (h : Rnd g x m) (hf : ∀ q,isN (zh g) q→xx g x m q=true→mk' m q=true) : m=lvM g x:=by
 refine ado (by rw [h.len,qT]) fun q q0 q1=>?_
 rw [h.len] at q1
 have hq : isN (zh g) q:=⟨q0,q1⟩
 rw [Bool.eq_iff_iff,abR hq]
 constructor
 ·exact h.sound q hq
 ·intro hl
  clear q0 q1 hq
  induction hl with
  |use hN hu=>exact hf _ hN (by rw [xx,decide_eq_true hu];rfl)
  |@step q p hN he hp hl ih=>
   refine hf _ hN ?_
   rw [xx,decide_eq_false he,Bool.not_false,Bool.true_and,List.any_eq_true.2 ⟨p,hp,ih⟩,Bool.or_true]
end Go.Proofs
end
section
namespace Go.Proofs
set_option linter.unusedVariables false
set_option linter.unusedSimpArgs false
def ptsW (g : GrD) (P : Int→Prop) [DecidablePred P] : List Int:=((List.range (zh g).length).filter fun (p : Nat)=>decide (P (p : Int))).map Int.ofNat
theorem aaL {g : GrD} {P : Int→Prop} [DecidablePred P] {p : Int} : p ∈ ptsW g P↔isN (zh g) p∧P p:=by
 rw [ptsW,List.mem_map]
 constructor
 ·rintro ⟨i,hi,rfl⟩
  rw [List.mem_filter,List.mem_range,decide_eq_true_eq] at hi
  exact ⟨⟨Int.natCast_nonneg i,by have:=hi.1;show ((i : Nat) : Int)<_;omega⟩,hi.2⟩
 ·rintro ⟨h1,h2⟩
  have h0:=h1.1;have h3:=h1.2
  have e : ((p.toNat : Nat) : Int)=p:=by omega
  exact ⟨p.toNat,by rw [List.mem_filter,List.mem_range,decide_eq_true_eq,e];exact ⟨by omega,h2⟩,e⟩
theorem aaM {g : GrD} {P : Int→Prop} [DecidablePred P] : (ptsW g P).length≤(zh g).length:=by
 rw [ptsW,List.length_map]
 exact Nat.le_trans (List.length_filter_le ..) (by simp)
def ltB : List Int→List Int→Bool
 |x::a,y::b=>decide (x<y)||(decide (x=y)&&ltB a b)
 |_,_=>false
def afp (b : Option (List Int)) (w : List Int) : Bool:=match b with|none=>true|some v=>decide (w.length<v.length)||(decide (w.length=v.length)&&ltB w v)
noncomputable def x9 (n : zz) (W : List Int) (q : Int) (stop : Bool) (b : Option (List Int)) (p : Int) : Option (List Int):=
 if p≠q∧stop=true then b else match wayE n q p W with|some w=>if afp b w=true then some w else b|none=>b
noncomputable def ZN (g : GrD) (x q : Int) : Option (List Int):=(ptsW g (Usd g x)).foldl (x9 (zh g) (ptsW g (zD g x)) q (decide (zD g x q))) none
theorem aib {n : zz} {W : List Int} {q : Int} {stop : Bool} {b : Option (List Int)} {p : Int} {w : List Int} (h : x9 n W q stop b p=some w) : b=some w∨wayE n q p W=some w:=by
 rw [x9] at h
 split at h
 ·exact .inl h
 ·split at h
  ·rename_i v hv
   split at h
   ·cases h;exact .inr hv
   ·exact .inl h
  ·exact .inl h
theorem afq {n : zz} {W : List Int} {q : Int} {stop : Bool} : ∀ {l : List Int} {b : Option (List Int)} {w : List Int},l.foldl (x9 n W q stop) b=some w→b=some w∨∃ p ∈ l,wayE n q p W=some w
 |[],_,_,h=>.inl h
 |p::l,b,w,h=>by
  rcases afq (l:=l) h with h|⟨p',hp,h⟩
  ·rcases aib h with h|h
   ·exact .inl h
   ·exact .inr ⟨p,List.mem_cons_self,h⟩
  ·exact .inr ⟨p',List.mem_cons_of_mem _ hp,h⟩
noncomputable def jd (g : GrD) (q : Int) : List Bool:=(List.range g.tys.length).map fun (x : Nat)=>mk' (lvM g x) q
theorem aju {g : GrD} {q : Int} : (jd g q).length=g.tys.length:=by simp [jd]
noncomputable def ajv (g : GrD) (q : Int) : List Int:=mkd (jd g q)
theorem af2 {g : GrD} (hn : xM (zh g)) {x q : Int} (hq : isN (zh g) q) (h : xx g x (lvM g x) q=true) : mk' (lvM g x) q=true:=by
 rw [abR hq]
 rw [xx,Bool.or_eq_true,decide_eq_true_eq,Bool.and_eq_true,List.any_eq_true,Bool.not_eq_true',decide_eq_false_iff_not] at h
 rcases h with h|⟨he,p,hp,h⟩
 ·exact .use hq h
 ·exact .step hq he hp ((abR (qC hn hp)).1 h)
end Go.Proofs
end
section
namespace Go.Proofs
open Go.Sh Go.BM
set_option linter.unusedVariables false
set_option linter.unusedSimpArgs false
def xo (m : List Bool) : List (BitVec 64):=xP (fun x y=>x ||| y) (List.replicate ((m.length+63) / 64) 0#64) (mkd m)
theorem aic {m : List Bool} : agX m.length (mkd m):=fun k hk=>by
 obtain ⟨h1,h2⟩:=agv.1 hk
 have:=al9 h2
 omega
theorem agA {n : Nat} (h : n≤1032) : BM.May n (List.replicate ((n+63) / 64) 0#64):=by
 have:=ahB (W:=(n : Int)) (by omega) (by omega)
 rwa [Int.toNat_natCast] at this
theorem ajw {m : List Bool} (h : m.length≤1032) : BM.May m.length (xo m):=VJ (h:=fun a b=>a||b) aez (by simp) _ _ (agA h) aic
theorem ajx {m : List Bool} (h : m.length≤1032) (k : Nat) : bit (xo m) k=m.getD k false:=by
 rw [xo,aba _ _ (agA h) aic,ahC,Bool.false_or,Bool.eq_iff_iff,decide_eq_true_eq,agv]
 rw [mk',Int.toNat_natCast]
 exact ⟨fun h=>h.2,fun h=>⟨by omega,h⟩⟩
theorem afr {m : List Bool} : (xo m).length=(m.length+63) / 64:=by rw [xo,vM,List.length_replicate]
def JP (W : Nat) (ws : List (BitVec 64)) : List Bool:=(List.range W).map fun k=>bit ws k
theorem ajy {W : Nat} {ws : List (BitVec 64)} : (JP W ws).length=W:=by simp [JP]
theorem afs {W : Nat} {ws : List (BitVec 64)} {k : Nat} (h : k<W) : (JP W ws).getD k false=bit ws k:=by
 rw [JP,List.getD_eq_getElem?_getD,List.getElem?_map,List.getElem?_range h];rfl
theorem agB {W : Nat} {ws : List (BitVec 64)} {q : Int} (h0 : 0≤q) (h : q<W) : mk' (JP W ws) q=bit ws q.toNat:=afs (by omega)
theorem ajz {m : List Bool} (h : m.length≤1032) : JP m.length (xo m)=m:=by
 refine List.ext_getElem ajy fun k h1 h2=>?_
 have:=afs (ws:=xo m) h2
 rw [ajx h,List.getD_eq_getElem?_getD,List.getD_eq_getElem?_getD,List.getElem?_eq_getElem h1,List.getElem?_eq_getElem h2] at this
 exact this
end Go.Proofs
end
section
namespace Go.Sh
open Go.RowKit
section
variable {P : Program} {X : Nat→Prop} {w0 w : World} {r : Gh} {L : List Asr} {e : TypeId} {sz m : Nat} {xs : List Value} {g : Asr→List Asr}
theorem StX.cutRow {p : Option Addr} {cap n : Nat} (S : StX X w0 r w L) [h : k7 (.slice p m cap) L e sz m xs g] (hn : n≤m) : StX X w0 r w (g (.row (.slice p n cap) e sz n (xs.take (n*sz)))):=by
 obtain ⟨pp,qq,h2,h3⟩:=h.h
 have hr:=S.has (.row (.slice p m cap) e sz m xs) (by rw [h2];simp)
 rw [h3]
 rw [h2] at S
 rcases qJ hr with ⟨hv,h0,hx⟩|⟨b,cap',c,hv,hb,B,hm,hM,hc,ht⟩
 ·cases hv
  have : n=0:=by omega
  subst this
  subst hx
  refine S.turn (x:=.row (.slice none 0 0) e sz 0 []) (y:=.row (.slice none 0 0) e sz 0 ([].take (0*sz))) (ExtBut.refl _ _) ?_ fun k hk=>.inl hk
  simpa using hr
 ·cases hv
  refine S.turn (x:=.row (.slice (some ⟨b,0,none⟩) m cap) e sz m xs) (y:=.row (.slice (some ⟨b,0,none⟩) n cap) e sz n (xs.take (n*sz))) (ExtBut.refl _ _) ?_ fun k hk=>.inl hk
  have:=Z3 (base:=0) (e:=e) (size:=sz) (n:=n) (Nat.zero_le _) B (by omega) hM hc
  rw [← ht,List.take_take,Nat.min_eq_left (Nat.mul_le_mul_right _ hn)]
  exact this
end
end Go.Sh
end
section
namespace Go.Proofs.Tryz
open Go.Sh
set_option maxRecDepth 100000
def qk (t0 t1 : Value) (w : World) (K : VW) : Prop:=
 ca x6 #[t0,t1] w fun t7 w1=>
 bt .geq 3 t7 (i6 0) fun t8=>K t8 w1
theorem ZO {t0 t1 : Value} {w : World} {K : VW} (h : qk t0 t1 w K) : zd prog xt #[t0,t1] w K:=
 okC false (.s (.r (rz 1 0 0)) (.s (.r (rz 5 0 32)) (.n))) func66 rfl (by kernel_rfl) (by kernel_rfl) h
def jl (t0 t1 : Value) (w : World) (K : VW) : Prop:=
 pp (Builtin.len_ #[28] 3 #[t0]) fun t7=>zo [(i6 0)] w (fun s2 _d3 w4 K1=>
 bf .lss 3 (s2.getD 0 undef) t7 fun t9=>zc t9 (xl w4 28 t0 (s2.getD 0 undef) 3 fun t15=>bf .eql 3 t1 t15 fun t16=>zc t16 (K (s2.getD 0 undef) w4) (bt .add 3 (s2.getD 0 undef) (i6 1) fun t18=>K1 [t18] w4)) (K (i6 (-1)) w4))
theorem YS {t0 t1 : Value} {w : World} {K : VW} (h : jl t0 t1 w K) : zd prog x6 #[t0,t1] w K:=
 okC false (.s (.r (rz 1 0 0)) (.s (.s (.r (rz 3 0 0)) (.b (.lp [8] (.s (.r (rz 1 0 0)) (.s (.c (.n) (.n)) (.s (.b (.s (.r (rz 2 0 0)) (.s (.r (rz 6 0 256)) (.c (.s (.r (rz 2 0 0)) (.n)) (.n))))) (.r (rz 2 0 0)))))))) (.s (.r (rz 1 0 0)) (.n)))) func100 rfl (by kernel_rfl) (by kernel_rfl) h
end Go.Proofs.Tryz
end
section
namespace Go.Proofs
open Go.Sh Go.RowKit
set_option maxRecDepth 100000
set_option linter.unusedSimpArgs false
set_option linter.unusedVariables false
def ahh (c : List Value) (x : Bool) : Prop:=c = [.bool x]
def bls (m : List Bool) : List Value:=m.map Value.bool
theorem acK {m : List Bool} : (bls m).length=m.length:=List.length_map _
theorem aid {m : List Bool} : RowOf 1 ahh (bls m) m:=⟨by rw [acK,Nat.mul_one],fun j hj=>by
 rw [Nat.mul_one,bls,← List.map_drop,← List.map_take,List.drop_eq_getElem_cons hj];rfl⟩
theorem yk {l : List Int} : RowOf 1 zH (ints l) l:=⟨by rw [yR,Nat.mul_one],fun j hj=>by
 rw [Nat.mul_one,ints,← List.map_drop,← List.map_take,List.drop_eq_getElem_cons hj];rfl⟩
theorem aft {α : Type} {r : Gh} {V : α→Value} {p : Option Addr} {n cap : Nat} {l : List α} (h : SlG 1 r (fun c x=>c = [V x]) (.slice p n cap) l) {i : Nat} (hi : i<l.length) :
  ∃ b off,p=some ⟨b,off,none⟩∧n=l.length∧Ob r fun w=>w.cell? ⟨b,off+i,none⟩=some (V l[i]):=by
 have hsh:=h.shape
 obtain ⟨p',cap',e,_,_⟩:=hsh
 obtain ⟨b,off,c,hE,hc,hcc,hcl⟩:=h.get (by decide) hi
 obtain rfl : c=_:=hcc
 cases e
 cases hE
 refine ⟨b,off,rfl,rfl,?_⟩
 have:=hcl 0 _ rfl
 rwa [show off+i*1+0=off+i by omega] at this
theorem zY {r : Gh} {p : Option Addr} {n cap : Nat} {l : List Int} (h : SlG 1 r zH (.slice p n cap) l) {i : Nat} (hi : i<l.length) : ∃ b off,p=some ⟨b,off,none⟩∧n=l.length∧Ob r fun w=>w.cell? ⟨b,off+i,none⟩=some (.int .i64 l[i]):=aft (V:=Value.int .i64) h hi
theorem agC {r : Gh} {p : Option Addr} {n cap : Nat} {l : List Bool} (h : SlG 1 r ahh (.slice p n cap) l) {i : Nat} (hi : i<l.length) : ∃ b off,p=some ⟨b,off,none⟩∧n=l.length∧Ob r fun w=>w.cell? ⟨b,off+i,none⟩=some (.bool l[i]):=aft (V:=Value.bool) h hi
theorem af3 {l : List Int} {x : Int} {v : Value} {w : World} {r : Gh} {K : Value→World→Prop} (hr : Holds r w) (hl : SlG 1 r zH v l) (hf : l.length≤maxLen)
  (h : ∀ i : Int,(0≤i↔x ∈ l)→K (.int .i64 i) w) : zd Tryz.prog Tryz.x6 #[v,.int .i64 x] w K:=by
 refine Tryz.YS ?_
 unfold Tryz.jl
 obtain ⟨p,cap,rfl,_,_⟩:=hl.shape
 have hf : l.length≤9223372036854775807:=hf
 refine gp_ ?_
 refine zi (ι:=Nat) (fun i=>[.int .i64 (i : Nat)]) (fun i w'=>w'=w∧i≤l.length∧x ∉ l.take i) (fun i=>l.length - i) 0 rfl ⟨rfl,Nat.zero_le _,by simp⟩ ?_
 rintro i d w' ⟨rfl,hi,hn⟩ K1 hK1
 simp only [List.getD_cons_zero]
 refine gp_ ?_
 refine zk (fun hlt=>?_) (fun hge=>?_)
 ·have hlt : i<l.length:=by omega
  obtain ⟨b,off,rfl,_,hc⟩:=zY hl hlt
  refine gp_ ?_
  refine zg (by rw [Int.toNat_natCast];exact hc _ hr) ?_
  refine gp_ ?_
  refine zk (fun he=>?_) (fun he=>?_)
  ·exact h _ ⟨fun _=>by rw [he];exact List.getElem_mem hlt,fun _=>Int.natCast_nonneg _⟩
  ·refine gp_ ?_
   refine hK1 (i+1) _ ⟨rfl,hlt,?_⟩ (by omega)
   rw [List.take_succ_eq_append_getElem hlt,List.mem_append,List.mem_singleton]
   exact fun h=>h.elim hn he
 ·have : i=l.length:=by omega
  subst this
  rw [List.take_length] at hn
  exact h _ ⟨fun h=>by omega,fun h=>absurd h hn⟩
theorem acL {l : List Int} {x : Int} {v : Value} {w : World} {r : Gh} {K : Value→World→Prop} (hr : Holds r w) (hl : SlG 1 r zH v l) (hf : l.length≤maxLen)
  (h : K (.bool (decide (x ∈ l))) w) : zd Tryz.prog Tryz.xt #[v,.int .i64 x] w K:=by
 refine Tryz.ZO ?_
 unfold Tryz.qk
 refine af3 hr hl hf fun i hi=>?_
 refine gp_ ?_
 have e : decide (0≤i)=decide (x ∈ l):=by
  rw [decide_eq_decide];exact hi
 rw [e];exact h
theorem VZ {l : List Int} {v : Value} {w0 w : World} {r : Gh} {L : List Asr} {X : Nat→Prop} {K : Value→World→Prop} (S : StX X w0 r w L) (hl : SlG 1 r zH v l) (hf : l.length≤1000000)
  (h : ∀ v' w',StX X w0 r w' (.row v' 3 1 l.length (ints l)::L)→K v' w') : zd Tryz.prog Tryz.x7 #[v] w K:=by
 obtain ⟨p,cap,rfl,hp,_⟩:=hl.shape
 by_cases h0 : l = []
 ·subst h0
  cases p with
  |none=>
   have:=hp rfl;subst this
   refine Calls.mono (Any.slices_Clone_int_nil Tryz.JJ 0 0 w) ?_
   rintro e w' ⟨rfl,rfl⟩
   exact ⟨_,rfl,h _ _ (S.ownNil 3 1)⟩
  |some a=>
   refine Calls.mono (Any.slices_Clone_int_zero Tryz.JJ a cap w) ?_
   rintro e w' ⟨v',rfl,ho,_,hB⟩
   have hE : Ext w w':=⟨hB.os,hB.tape,hB.output,hB.size,hB.block⟩
   exact ⟨_,rfl,h _ _ (S.take hE ho)⟩
 ·obtain ⟨b,off,rfl,_,_⟩:=zY hl (i:=0) (List.length_pos_iff.2 h0)
  refine Calls.mono (Any.slices_Clone_int Tryz.JJ b off l.length cap l w (Nat.le_refl _) (by omega) fun j hj=>?_) ?_
  ·obtain ⟨b',off',hE,_,hc⟩:=zY hl hj
   cases hE
   rw [S.at hc,List.getD_eq_getElem?_getD,List.getElem?_eq_getElem hj];rfl
  rintro e w' ⟨v',rfl,ho,_,hB⟩
  have hE : Ext w w':=⟨hB.os,hB.tape,hB.output,hB.size,hB.block⟩
  rw [List.take_length] at ho
  exact ⟨_,rfl,h _ _ (S.take hE ho)⟩
end Go.Proofs
end
section
namespace Go.Proofs.Tryz
open Go.Sh
set_option maxRecDepth 100000
def abS (t0 t1 t2 t3 t4 : Value) (w : World) (K : VW) : Prop:=
 pw w (Instr.box 25 t0) fun t5 w1=>
 lo w1 25 t5 fun t23=>ca Ja #[t23,t1] w1 fun t25 w2=>
 pe t25 0 fun t26=>pe t25 1 fun t27=>bt .neq 29 t27 (i6 0) fun t29=>za (fun K3=>gIf t29 false (pw w2 (Instr.buildSlice 28 2 #[(0,t2),(1,t3)]) fun t34 w7=>
 ca qM #[t26,t34] w7 fun t35 w8=>
 pp (Op.unary .not t35) fun t36=>K3 [t36] w8) (K3 [undef] w2)) (fun s4 _d5 w6=>
 zb t29 tr_ (s4.getD 0 undef) fun t37=>za (fun K9=>gIf t37 false (ca qM #[t26,t4] w6 fun t41 w13=>
 pp (Op.unary .not t41) fun t42=>K9 [t42] w13) (K9 [undef] w6)) (fun s10 _d11 w12=>
 zb t37 tr_ (s10.getD 0 undef) fun t43=>zc t43 (K (.tuple #[(Value.slice Option.none 0 0),fa_,(i6 2)]) w12) (pw w12 (Instr.makeMap 114 none) fun t44 w14=>
 pw w14 (Instr.buildSlice 28 1 #[(0,t2)]) fun t47 w15=>
 pu w15 (Instr.mapUpdate 114 t44 t2 t47) fun w16=>pw w16 (Instr.buildSlice 28 1 #[(0,t2)]) fun t50 w17=>
 zo [t50] w17 (fun s19 _d20 w21 K18=>
 pp (Builtin.len_ #[28] 3 #[(s19.getD 0 undef)]) fun t52=>bt .gtr 3 t52 (i6 0) fun t53=>za (fun K22=>gIf t53 true (pq w21 (Instr.lookup 114 t44 t3 false) fun t57=>bt .eql 28 t57 (Value.slice Option.none 0 0) fun t58=>K22 [t58] w21) (K22 [undef] w21)) (fun s23 _d24 w25=>
 zb t53 (s23.getD 0 undef) fa_ fun t59=>zc t59 (pp (Builtin.len_ #[28] 3 #[(s19.getD 0 undef)]) fun t61=>zo [(Value.slice Option.none 0 0),(i6 0)] w25 (fun s27 _d28 w29 K26=>
 bf .lss 3 (s27.getD 1 undef) t61 fun t63=>zc t63 (za (fun K30=>
 xl w29 28 (s19.getD 0 undef) (s27.getD 1 undef) 3 fun t65=>bf .neq 3 t65 t2 fun t68=>za (fun K34=>gIf t68 true (ca xt #[t4,t65] w29 fun t72 w38=>
 K34 [t72] w38) (K34 [undef] w29)) (fun s35 _d36 w37=>
 zb t68 (s35.getD 0 undef) fa_ fun t73=>zc t73 (K30 [(s27.getD 0 undef)] w37) (xl w37 98 t26 t65 28 fun t77=>ca x7 #[t77] w37 fun t78 w39=>
 ca kj #[t78] w39 fun _t80 w40=>
 pp (Builtin.len_ #[28] 3 #[t78]) fun t82=>zo [(s27.getD 0 undef),(i6 0)] w40 (fun s42 _d43 w44 K41=>
 bf .lss 3 (s42.getD 1 undef) t82 fun t84=>zc t84 (za (fun K45=>
 xl w44 28 t78 (s42.getD 1 undef) 3 fun t86=>pq w44 (Instr.lookup 114 t44 t86 false) fun t89=>bt .eql 28 t89 (Value.slice Option.none 0 0) fun t90=>zc t90 (pq w44 (Instr.lookup 114 t44 t65 false) fun t95=>ca x7 #[t95] w44 fun t96 w49=>
 pw w49 (Instr.buildSlice 28 1 #[(0,t86)]) fun t98 w50=>
 pw w50 (Builtin.append_ #[28,28] 28 #[t96,t98]) fun t99 w51=>
 pu w51 (Instr.mapUpdate 114 t44 t86 t99) fun w52=>pw w52 (Instr.buildSlice 28 1 #[(0,t86)]) fun t102 w53=>
 pw w53 (Builtin.append_ #[28,28] 28 #[(s42.getD 0 undef),t102]) fun t103 w54=>
 K45 [t103] w54) (K45 [(s42.getD 0 undef)] w44)) (fun s46 _d47 w48=>
 bt .add 3 (s42.getD 1 undef) (i6 1) fun t104=>K41 [(s46.getD 0 undef),t104] w48)) (K30 [(s42.getD 0 undef)] w44))))) (fun s31 _d32 w33=>
 bt .add 3 (s27.getD 1 undef) (i6 1) fun t105=>K26 [(s31.getD 0 undef),t105] w33)) (K18 [(s27.getD 0 undef)] w29))) (pq w25.drew (Instr.lookup 114 t44 t3 false) fun t109=>pq w25.drew (Instr.lookup 114 t44 t3 false) fun t112=>bt .neq 28 t112 (Value.slice Option.none 0 0) fun t113=>K (.tuple #[t109,t113,(i6 0)]) w25.drew))))))
theorem af4 {t0 t1 t2 t3 t4 : Value} {w : World} {K : VW} (h : abS t0 t1 t2 t3 t4 w K) : zd prog Qc #[t0,t1,t2,t3,t4] w K:=
 okC false (.s (.r (rz 4 0 2)) (.s (.r (rz 8 0 33)) (.s (.s (.r (ra 3 0 0 (.grp 30 false (ri 6 3 640) [36] (ra 2 9 0 (.grp 38 false (ri 4 11 32) [42] (rz 1 15 0)))))) (.c (.s (.r (rz 3 0 0)) (.n)) (.n))) (.s (.r (rz 7 0 642)) (.s (.r (rz 3 0 8)) (.s (.b (.lp [15] (.s (.s (.r (ra 4 0 0 (.grp 54 true (ri 4 4 16) [58] (rz 1 8 0)))) (.c (.n) (.n))) (.b (.s (.r (rz 1 0 0)) (.s (.s (.r (rz 3 0 0)) (.b (.lp [16,62] (.s (.r (rz 1 0 0)) (.s (.c (.n) (.n)) (.j [16] (.b (.s (.r (rz 3 0 4)) (.s (.s (.r (ra 4 0 0 (.grp 69 true (ri 3 4 32) [72] (rz 1 7 0)))) (.c (.n) (.n))) (.s (.r (rz 6 0 576)) (.s (.r (rz 2 0 8)) (.s (.r (rz 3 0 0)) (.b (.lp [16,83] (.s (.r (rz 1 0 0)) (.s (.c (.n) (.n)) (.j [16] (.b (.s (.r (rz 3 0 4)) (.s (.r (rz 4 0 16)) (.c (.s (.r (rz 10 0 690432)) (.r (rz 5 0 160))) (.n))))) (.r (rz 2 0 0))))))))))))) (.r (rz 2 0 0)))))))) (.r (rz 2 0 0)))))))) (.s (.r (rz 10 0 1040)) (.n)))))))) func29 rfl (by kernel_rfl) (by kernel_rfl) h
def ads (t0 t1 : Value) (w : World) (K : VW) : Prop:=
 pw w (Instr.box 25 t0) fun t2 w1=>
 bt .lss 3 t1 (i6 0) fun t10=>za (fun K2=>gIf t10 false (fl w1 t2 25 1 23 fun t14=>pp (Builtin.len_ #[23] 3 #[t14]) fun t15=>bf .geq 3 t1 t15 fun t16=>K2 [t16] w1) (K2 [undef] w1)) (fun s3 _d4 w5=>
 zb t10 tr_ (s3.getD 0 undef) fun t17=>za (fun K6=>gIf t17 false (lo w5 25 t2 fun t19=>ca Zd #[t19] w5 fun t20 w10=>
 pp (Op.unary .not t20) fun t21=>K6 [t21] w10) (K6 [undef] w5)) (fun s7 _d8 w9=>
 zb t17 tr_ (s7.getD 0 undef) fun t22=>zc t22 (K (.tuple #[(Value.slice Option.none 0 0),(i6 2)]) w9) (fl w9 t2 25 1 23 fun t24=>px 23 t24 t1 fun t26=>fl w9 t26 38 6 36 fun t28=>pp (Builtin.len_ #[36] 3 #[t28]) fun t29=>zo [(Value.slice Option.none 0 0),(i6 0)] w9 (fun s12 _d13 w14 K11=>
 bf .lss 3 (s12.getD 1 undef) t29 fun t31=>zc t31 (za (fun K15=>
 xl w14 36 t28 (s12.getD 1 undef) 87 fun t33=>pw w14 (Instr.alloc 87 true (.tuple #[])) fun t8 w19=>
 so w19 87 t8 t33 fun w20=>fl w20 t8 87 0 78 fun t42=>bt .eql 78 t42 (Value.int .u8 14) fun t43=>zc t43 (pw w20 (Instr.buildSlice 98 1 #[(0,(Value.slice Option.none 0 0))]) fun t45 w21=>
 pw w21 (Builtin.append_ #[98,98] 98 #[(s12.getD 0 undef),t45]) fun t46 w22=>
 K15 [t46] w22) (fl w20 t8 87 0 78 fun t49=>bt .eql 78 t49 (Value.int .u8 12) fun t50=>za (fun K23=>gIf t50 true (fl w20 t8 87 11 3 fun t53=>fl w20 t8 87 10 3 fun t55=>bf .neq 3 t53 t55 fun t56=>K23 [t56] w20) (K23 [undef] w20)) (fun s24 _d25 w26=>
 zb t50 (s24.getD 0 undef) fa_ fun t57=>zc t57 (fl w26 t8 87 10 3 fun t60=>fl w26 t8 87 11 3 fun t62=>pw w26 (Instr.buildSlice 28 2 #[(0,t60),(1,t62)]) fun t63 w27=>
 pw w27 (Instr.buildSlice 98 1 #[(0,t63)]) fun t64 w28=>
 pw w28 (Builtin.append_ #[98,98] 98 #[(s12.getD 0 undef),t64]) fun t65 w29=>
 K15 [t65] w29) (fl w26 t8 87 10 3 fun t36=>pw w26 (Instr.buildSlice 28 1 #[(0,t36)]) fun t37 w30=>
 pw w30 (Instr.buildSlice 98 1 #[(0,t37)]) fun t38 w31=>
 pw w31 (Builtin.append_ #[98,98] 98 #[(s12.getD 0 undef),t38]) fun t39 w32=>
 K15 [t39] w32)))) (fun s16 _d17 w18=>
 bt .add 3 (s12.getD 1 undef) (i6 1) fun t66=>K11 [(s16.getD 0 undef),t66] w18)) (K (.tuple #[(s12.getD 0 undef),(i6 0)]) w14)))))
theorem ahi {t0 t1 : Value} {w : World} {K : VW} (h : ads t0 t1 w K) : zd prog Ja #[t0,t1] w K:=
 okC false (.s (.r (rz 3 0 2)) (.s (.s (.r (ra 3 0 0 (.grp 11 false (ri 5 3 16) [16] (ra 2 8 0 (.grp 18 false (ri 3 10 9) [21] (rz 1 13 0)))))) (.c (.s (.r (rz 2 0 0)) (.n)) (.n))) (.s (.r (rz 1 0 0)) (.s (.s (.r (rz 8 0 1028)) (.b (.lp [6,30] (.s (.r (rz 1 0 0)) (.s (.c (.n) (.n)) (.j [6] (.b (.s (.r (rz 4 0 164)) (.b (.s (.r (rz 4 0 4)) (.c (.r (rz 4 0 40)) (.s (.r (ra 4 0 4 (.grp 51 true (ri 5 4 68) [56] (rz 2 9 0)))) (.c (.r (rz 9 0 43280)) (.r (rz 7 0 2704))))))))) (.r (rz 2 0 0)))))))) (.s (.r (rz 3 0 0)) (.n)))))) func55 rfl (by kernel_rfl) (by kernel_rfl) h
def X6 (t0 t1 : Value) (w : World) (K : VW) : Prop:=
 pw w (Instr.box 98 t0) fun t2 w1=>
 pp (Instr.makeFunc (.func 96) #[] #[t2]) fun t6=>ca zR #[t1,t6] w1 fun t7 w2=>
 pp (Op.unary .not t7) fun t8=>K t8 w2
theorem abT {t0 t1 : Value} {w : World} {K : VW} (h : X6 t0 t1 w K) : zd prog qM #[t0,t1] w K:=
 okC false (.s (.r (rz 2 0 2)) (.s (.r (rz 5 0 32)) (.n))) func56 rfl (by kernel_rfl) (by kernel_rfl) h
def YD (t0 t1 : Value) (w : World) (K : VW) : Prop:=
 bt .lss 3 t0 (i6 0) fun t5=>za (fun K1=>gIf t5 false (lo w 98 t1 fun t8=>pp (Builtin.len_ #[98] 3 #[t8]) fun t9=>bf .geq 3 t0 t9 fun t10=>K1 [t10] w) (K1 [undef] w)) (fun s2 _d3 w4=>
 zb t5 tr_ (s2.getD 0 undef) fun t11=>K t11 w4)
theorem Vz {t0 t1 : Value} {w : World} {K : VW} (h : YD t0 t1 w K) : zd prog aag #[t0,t1] w K:=
 okC false (.s (.r (rz 1 0 0)) (.s (.r (ra 3 0 0 (.grp 6 false (ri 4 3 4) [10] (rz 2 7 0)))) (.n))) func96 rfl (by kernel_rfl) (by kernel_rfl) h
end Go.Proofs.Tryz
end
section
namespace Go.Proofs
open Go.Sh Go.RowKit
set_option maxRecDepth 100000
set_option linter.unusedSimpArgs false
set_option linter.unusedVariables false
theorem Vn {r : Gh} {p : Option Addr} {k cap : Nat} {n : zz} (h : NetG r (.slice p k cap) n) {i : Nat} (hi : i<n.length) : ∃ b off v,p=some ⟨b,off,none⟩∧k=n.length∧(Ob r fun w=>w.cell? ⟨b,off+i,none⟩=some v)∧SlB 1 r zH v n[i]:=by
 obtain ⟨p',cap',e,_,_⟩:=h.sl.shape
 obtain ⟨b,off,c,hE,hc,hcc,hcl⟩:=h.sl.get (by decide) hi
 obtain ⟨v,rfl,hv⟩:=hcc
 cases e
 cases hE
 refine ⟨b,off,v,rfl,rfl,?_,hv⟩
 have:=hcl 0 _ rfl
 rwa [show off+i*1+0=off+i by omega] at this
theorem aj9 {n : zz} {l : List Int} {v u : Value} {w : World} {r : Gh} {K : Value→World→Prop} (hr : Holds r w) (hn : NetG r v n) (hl : SlG 1 r zH u l) (hf : l.length≤1000000)
  (h : ∀ w',Ext w w'→K (.bool (decide (∀ x ∈ l,isN n x))) w') : zd Tryz.prog Tryz.qM #[v,u] w K:=by
 refine Tryz.abT ?_
 unfold Tryz.X6
 obtain ⟨p,cap,rfl,_,_⟩:=hn.sl.shape
 obtain ⟨q,cap',rfl,_,_⟩:=hl.shape
 have S:=St.start hr
 refine S.box fun b2 w1 S=>?_
 have S : StX noX w r w1 [.cell b2 [.slice p n.length cap] 98]:=S
 refine gp_ ?_
 have hsl : Sl w1 q (ints l):=fun i v hv=>by
  have hi : i<l.length:=by
   have:=(List.getElem?_eq_some_iff.1 hv).1
   rwa [yR] at this
  obtain ⟨b,off,rfl,_,hc⟩:=zY hl hi
  rw [ints,List.getElem?_map,List.getElem?_eq_getElem hi] at hv
  cases hv
  exact ⟨b,off,rfl,S.at hc⟩
 refine vF (f:=fun x=>!decide (isN n x)) (fun x K hK=>?_) hsl (by omega) ?_
 ·refine Qg (by kernel_rfl) ?_
  refine Tryz.Vz ?_
  unfold Tryz.YD
  refine gg_ ?_
  refine zj (c:=decide ((n.length : Int)≤x)) (fun _ K2 hK2=>by refine gg_ ?_;exact hK2) ?_
  have e : (decide (x<0)||decide ((n.length : Int)≤x)) = !decide (isN n x):=by
   by_cases hx : isN n x
   ·have h1:=hx.1;have h2:=hx.2
    rw [decide_eq_true hx,decide_eq_false (by omega),decide_eq_false (by omega)];rfl
   ·rw [decide_eq_false hx]
    by_cases h1 : x<0
    ·rw [decide_eq_true h1];rfl
    ·have h2 : (n.length : Int)≤x:=by
      refine Int.not_lt.1 fun h2=>hx ⟨by omega,h2⟩
     rw [decide_eq_true h2,Bool.or_true];rfl
  rw [e];exact hK
 refine gp_ ?_
 have:=h _ S.ext
 have e : (decide (∀ x ∈ l,isN n x)) = !(l.any fun x=>!decide (isN n x)):=by
  rw [Bool.eq_iff_iff]
  simp
 rwa [e] at this
theorem aaN {m : List Bool} {i : Nat} (hi : i<m.length) : mkd (m.take (i+1))=mkd (m.take i)++(if m[i]=true then [(i : Int)] else []):=by
 have hl : (m.take (i+1)).length=i+1:=by rw [List.length_take];omega
 have hl' : (m.take i).length=i:=by rw [List.length_take];omega
 rw [mkd,mkd,hl,hl',List.range_succ,List.filter_append,List.map_append]
 congr 1
 ·congr 1
  refine List.filter_congr fun x hx=>?_
  have:=List.mem_range.1 hx
  rw [List.getD_eq_getElem?_getD,List.getD_eq_getElem?_getD,List.getElem?_take,List.getElem?_take,if_pos (by omega),if_pos this]
 ·have e : (m.take (i+1)).getD i false=m[i]:=by
   rw [List.getD_eq_getElem?_getD,List.getElem?_take,if_pos (by omega),List.getElem?_eq_getElem hi];rfl
  cases hm : m[i] with
  |true=>rw [List.filter_cons_of_pos (by rw [e,hm])];simp
  |false=>rw [List.filter_cons_of_neg (by rw [e,hm];simp)];simp
theorem yX {l : List Int} {x : Int} : ints (l ++ [x])=ints l ++ [.int .i64 x]:=by simp [ints]
theorem ajA {n : zz} {q : Int} {i : Nat} (hi : i<n.length) : befN (n.take (i+1)) q=befN (n.take i) q++(if q ∈ n[i] then [(i : Int)] else []):=by
 have hl : (n.take (i+1)).length=i+1:=by rw [List.length_take];omega
 have hl' : (n.take i).length=i:=by rw [List.length_take];omega
 rw [befN,befN,hl,hl',List.range_succ,List.filter_append,List.map_append]
 congr 1
 ·congr 1
  refine List.filter_congr fun x hx=>?_
  have:=List.mem_range.1 hx
  rw [List.getD_eq_getElem?_getD,List.getD_eq_getElem?_getD,List.getElem?_take,List.getElem?_take,if_pos (by omega),if_pos this]
 ·have e : (n.take (i+1)).getD i []=n[i]:=by
   rw [List.getD_eq_getElem?_getD,List.getElem?_take,if_pos (by omega),List.getElem?_eq_getElem hi];rfl
  by_cases hm : q ∈ n[i]
  ·rw [List.filter_cons_of_pos (by rw [e,List.contains_iff_mem];exact hm),if_pos hm];simp
  ·rw [List.filter_cons_of_neg (by rw [e,List.contains_iff_mem];exact hm),if_neg hm];simp
theorem akE {n : zz} {q : Int} : (befN n q).length≤n.length:=by
 rw [befN,List.length_map];exact Nat.le_trans (List.length_filter_le _ _) (by simp)
end Go.Proofs
end
section
namespace Go.Proofs
open Go.Sh Go.RowKit
set_option maxRecDepth 100000
set_option linter.unusedSimpArgs false
set_option linter.unusedVariables false
set_option maxHeartbeats 1000000 in
theorem aie {u : UnD} {n : Int} {v : Value} {w : World} {r : Gh} {K : Value→World→Prop} (hr : Holds r w) (hu : UnG r v u)
  (h : ∀ v' s w',Ext w w'→New w s w'→(fnE u n=0→∃ hn : n.toNat<u.fs.length,NetG s v' (zh u.fs[n.toNat]))→K (.tuple #[v',.int .i64 (fnE u n)]) w') : zd Tryz.prog Tryz.Ja #[v,.int .i64 n] w K:=by
 refine Tryz.ahi ?_
 unfold Tryz.ads
 have hu0:=hu
 obtain ⟨p0,cap0,vf,rfl,_,_,hst,hsl,hfn⟩:=hu
 obtain ⟨qf,capf,rfl,_,_⟩:=hfn.sl.shape
 have S:=St.start hr
 refine S.box fun b2 w1 S=>?_
 have S : StX noX w r w1 [.cell b2 [.slice p0 u.ss.length cap0,.slice qf u.fs.length capf,.int .i64 u.mn] 25]:=S
 refine gp_ ?_
 refine zj (c:=decide ((u.fs.length : Int)≤n)) (fun _ K2 hK2=>by refine gg_ ?_;exact hK2) ?_
 refine yJ (c:=!vV u) (fun _ K2 hK2=>?_) fun w5 e5=>?_
 ·refine S.ldB (b:=b2) ?_ rfl
  refine VU S.holds hu0 fun w5 e5=>?_
  refine gp_ ?_
  exact hK2 _ e5
 have S:=S.go e5
 refine c_b (fun hbad=>?_) (fun hgood=>?_)
 ·have hE : fnE u n=2:=by rw [fnE,if_pos hbad]
  rw [hE] at h
  exact h _ nothing _ S.ext New.nothing (fun h=>by cases h)
 have hE : fnE u n=0:=by rw [fnE,if_neg (by rw [hgood];simp)]
 rw [hE] at h
 obtain ⟨hM,hn0,hlt⟩:=Ju hE
 simp only [Bool.or_eq_false_iff,decide_eq_false_iff_not,Bool.not_eq_false'] at hgood
 obtain ⟨⟨_,hn1⟩,_⟩:=hgood
 obtain ⟨bf,of,cf,hqE,hcf,hgc,hfo⟩:=hfn.sl.get (by decide) hlt
 cases hqE
 have hp24:=(hM.hd hlt).pt1024
 generalize hg : u.fs[n.toNat]=g at hgc hp24
 obtain ⟨x1,x2,x3,x4,y1,y2,y3,y4,rfl,hg0⟩:=jT hgc
 obtain ⟨_,_,_,_,hEE,m1,m2,m3,m4⟩:=id hg0
 cases hEE
 refine gg_ ?_
 refine zg (S.at (hfo 6 _ rfl)) ?_
 refine gg_ ?_
 have S:=S.ownNil 28 1
 refine zi (ι:=Nat × Value × Gh × List Value) (fun i=>[i.2.1,.int .i64 (i.1 : Nat)])
  (fun i w'=>i.1≤g.pts.length∧Above w i.2.2.1∧RowOf 1 (RowC i.2.2.1) i.2.2.2 ((zh g).take i.1)∧StX noX w (r.or i.2.2.1) w' [.row i.2.1 28 1 i.1 i.2.2.2,.cell b2 [.slice p0 u.ss.length cap0,.slice (some ⟨bf,of,none⟩) u.fs.length capf,.int .i64 u.mn] 25])
  (fun i=>g.pts.length - i.1) (0,.slice none 0 0,nothing,[]) rfl ⟨Nat.zero_le _,Above.no,by simpa using RowOf.nil,S.to _⟩ ?_
 repeat clear S
 rintro ⟨i,vr,s,xs⟩ d w6 ⟨hi,ha,hR,S⟩ K11 hK11
 simp only at hi ha hR S ⊢
 simp only [List.getD_cons_zero,List.getD_cons_succ]
 refine gg_ ?_
 refine zk (fun hlt2=>?_) (fun hge=>?_)
 ·have hlt2 : i<g.pts.length:=by omega
  have hil : i<(zh g).length:=by rw [zS];exact hlt2
  obtain ⟨bp,op,cp,hqp,hcp,hpc,hpo⟩:=m4.sl.get (by decide) hlt2
  cases hqp
  have hni : (zh g)[i]=xj g.pts[i]:=by simp [zh]
  have htk : (zh g).take (i+1)=(zh g).take i ++ [xj g.pts[i]]:=by rw [List.take_succ_eq_append_getElem hil,hni]
  generalize g.pts[i]=p at hpc htk
  obtain ⟨z1,z2,z3,z4,z5,t1,t2,t3,t4,t5,rfl,hp0⟩:=yN hpc
  refine zp (fun x w'=>∃ vq s' xs',x = [vq]∧Above w s'∧RowOf 1 (RowC s') xs' ((zh g).take (i+1))∧StX noX w (r.or s') w' [.row vq 28 1 (i+1) xs',.cell b2 [.slice p0 u.ss.length cap0,.slice (some ⟨bf,of,none⟩) u.fs.length capf,.int .i64 u.mn] 25]) (fun K15 hK15=>?_) ?_
  ·refine gg_ ?_
   refine zq (n:=21) hcp (fun j v hj=>by rw [Int.toNat_natCast];exact S.at (hpo j v hj)) ?_
   refine S.al fun b8 w7 S=>?_
   refine S.stB (b:=b8) fun w8 S=>?_
   have S : StX noX w (r.or s) w8 [.cell b8 (ptL p z1 z2 z3 z4 z5 t1 t2 t3 t4 t5) 87,.row vr 28 1 i xs,.cell b2 [.slice p0 u.ss.length cap0,.slice (some ⟨bf,of,none⟩) u.fs.length capf,.int .i64 u.mn] 25]:=S
   refine gg_ ?_
   refine zk (fun h14=>?_) (fun h14=>?_)
   ·have hnp : xj p = []:=by rw [xj,if_pos h14]
    have S:=S.drop b8
    refine S.lit (e:=28) (cs:=[.slice none 0 0]) (by kernel_rfl) fun b9 w9 S=>?_
    refine S.ap (v:=vr) (m':=1) (Sl.blk (S.blk b9)) (fun v4 w10 S=>?_) (by omega)
    refine hK15 _ _ ⟨v4,s,xs ++ [.slice none 0 0],rfl,ha,?_,S.drop b9⟩
    rw [htk,hnp]
    exact hR.snoc rfl ⟨_,rfl,SlG.nil,Nat.zero_le _⟩
   ·refine gg_ ?_
    refine zf (c:=decide (p.el≠p.nx)) (fun _ K2 hK2=>by refine gg_ ?_;exact hK2) ?_
    refine c_b (fun hc=>?_) (fun hc=>?_)
    ·simp only [Bool.and_eq_true,decide_eq_true_eq] at hc
     have hnp : xj p = [p.nx,p.el]:=by rw [xj,if_neg h14,if_pos ⟨hc.1,fun e=>hc.2 e.symm⟩]
     refine gg_ ?_
     have S:=S.drop b8
     refine S.lit (e:=3) (cs:=[.int .i64 p.nx,.int .i64 p.el]) (by kernel_rfl) fun b9 w9 S=>?_
     obtain ⟨S,hs,hb9⟩:=S.litNew b9 (sz:=1) (R:=zH) (l:=[p.nx,p.el]) (yG (c:=[.int .i64 p.nx]) rfl rfl (yr rfl rfl)) (by decide)
     refine S.lit (e:=28) (cs:=[.slice (some ⟨b9,0,none⟩) 2 2]) (by kernel_rfl) fun b10 w10 S=>?_
     refine S.ap (v:=vr) (m':=1) (Sl.blk (S.blk b10)) (fun v4 w11 S=>?_) (by omega)
     refine hK15 _ _ ⟨v4,s.or (Go.Sh.one b9 [.int .i64 p.nx,.int .i64 p.el] 3),_,rfl,ha.or' hb9,?_,(S.drop b10).reGh⟩
     rw [htk,hnp]
     exact (hR.mono fun _ _ h=>RowC.up h).snoc rfl ⟨_,rfl,(show SlG 1 (Go.Sh.one b9 [.int .i64 p.nx,.int .i64 p.el] 3) zH _ _ from hs).cells,show (2 : Nat)≤maxLen by decide⟩
    ·have hnp : xj p = [p.nx]:=by
      simp only [Bool.and_eq_false_iff,decide_eq_false_iff_not] at hc
      rw [xj,if_neg h14,if_neg (by rintro ⟨h1,h2⟩;rcases hc with hc|hc;exact hc h1;exact hc fun e=>h2 e.symm)]
     refine gg_ ?_
     have S:=S.drop b8
     refine S.lit (e:=3) (cs:=[.int .i64 p.nx]) (by kernel_rfl) fun b9 w9 S=>?_
     obtain ⟨S,hs,hb9⟩:=S.litNew b9 (sz:=1) (R:=zH) (l:=[p.nx]) (yr rfl rfl) (by decide)
     refine S.lit (e:=28) (cs:=[.slice (some ⟨b9,0,none⟩) 1 1]) (by kernel_rfl) fun b10 w10 S=>?_
     refine S.ap (v:=vr) (m':=1) (Sl.blk (S.blk b10)) (fun v4 w11 S=>?_) (by omega)
     refine hK15 _ _ ⟨v4,s.or (Go.Sh.one b9 [.int .i64 p.nx] 3),_,rfl,ha.or' hb9,?_,(S.drop b10).reGh⟩
     rw [htk,hnp]
     exact (hR.mono fun _ _ h=>RowC.up h).snoc rfl ⟨_,rfl,hs.cells,show (1 : Nat)≤maxLen by decide⟩
  rintro x w9 ⟨vq,s',xs',rfl,ha',hR',S⟩ d
  simp only [List.getD_cons_zero]
  refine gp_ ?_
  exact hK11 (i+1,vq,s',xs') _ ⟨hlt2,ha',hR',S⟩ (by show g.pts.length - (i+1)<g.pts.length - i;omega)
 have hie : i=g.pts.length:=by omega
 subst hie
 rw [← zS,List.take_length] at hR
 rw [← zS] at S
 obtain ⟨s2,T,hs,_,hab⟩:=S.doneRow hR (by decide) rfl
 refine h _ (s.or s2) _ T.ext (StX.newOf (q:=s.or s2) T.reGh (ha.or' fun b o ho=>(hab b o ho).resolve_right id)) fun _=>⟨hlt,?_⟩
 rw [hg]
 exact ⟨hs.up' inferInstance fun _ _ h=>RowC.up h,by rw [zS];exact Nat.le_trans hp24 (by decide)⟩
theorem agD {m : List Bool} {q : Int} (h : 0≤q) : (bls m).set (0+q.toNat) (.bool true)=bls (x8 m q):=by
 rw [Nat.zero_add,bls,bls,x8,List.map_set]
theorem aly {m : List Bool} {q : Int} (h : q.toNat<m.length) : (bls m)[0+q.toNat]? = some (.bool (mk' m q)):=by
 rw [Nat.zero_add,bls,List.getElem?_map,mk',List.getD_eq_getElem?_getD,List.getElem?_eq_getElem h];rfl
theorem agE {k : Nat} : List.replicate k (Value.bool false)=bls (List.replicate k false):=by simp [bls]
end Go.Proofs
end
section
namespace Go.Proofs
open Go.Sh Go.RowKit
set_option maxRecDepth 100000
set_option linter.unusedSimpArgs false
set_option linter.unusedVariables false
def amo (n : zz) : Prop:=∀ l ∈ n,l.length≤2
theorem Qs {l : List (Int × Int)} {p : Int × Int} : qN (l ++ [p])=qN l ++ [.int .i64 p.1,.int .i64 p.2]:=by rw [aeS];rfl
theorem adt {l : List Int} {q v : Int} (h : 0≤q) : (ints l).set (0+q.toNat) (.int .i64 v)=ints (l.set q.toNat v):=by
 rw [Nat.zero_add,ints,ints,List.map_set]
end Go.Proofs
end
section
namespace Go.Sh
theorem agF {w : World} {b m x : Bool} {A1 : (List Value→World→Prop)→Prop} {A2 : (List Value→World→Prop)→World→Prop} {Z : Value→World→Prop}
  (h1 : ∀ K : List Value→World→Prop,K [.bool m] w→A1 K) (h2 : m=false→∀ K : List Value→World→Prop,K [.bool x] w→A2 K w) (hZ : Z (.bool (b&&(m||x))) w) :
  za (fun K=>gIf (.bool b) true (A1 K) (K [undef] w)) fun s212 _ w214=>
   za (fun K=>gIf (s212.getD 0 undef) false (A2 K w214) (K [undef] w214)) fun s216 _ w218=>
    za (fun K=>gIf (.bool b) true (zb (s212.getD 0 undef) (.bool true) (s216.getD 0 undef) fun t=>K [t] w218) (K [undef] w218)) fun s221 _ w223=>
     zb (.bool b) (s221.getD 0 undef) (.bool false) fun t=>Z t w223:=by
 cases b<;>cases m<;>cases x <;>
  (iterate 3 (intro K hK;first|refine hK _ _ fun _=>?_|refine h1 _ (hK _ _ fun _=>?_)|(refine h2 rfl _ (hK _ _ fun _=>?_))|refine ⟨_,rfl,hK _ _ fun _=>?_⟩)) <;>
  exact ⟨_,rfl,by simpa using hZ⟩
end Go.Sh
namespace Go.Proofs
open Go.Sh Go.RowKit
set_option maxRecDepth 100000
set_option linter.unusedSimpArgs false
set_option linter.unusedVariables false
end Go.Proofs
end
section
namespace Go.Proofs
open Go.Sh Go.RowKit
set_option maxRecDepth 100000
set_option linter.unusedSimpArgs false
set_option linter.unusedVariables false
end Go.Proofs
end
section
namespace Go.Proofs
open Go.Sh Go.RowKit
set_option maxRecDepth 100000
set_option linter.unusedSimpArgs false
set_option linter.unusedVariables false
def netU (u : UnD) (n : Int) : zz:=match u.fs[n.toNat]? with|some g=>zh g|none=>[]
noncomputable def okQ (u : UnD) (n q : Int) : Bool:=!(decide (fnE u n≠0) || !decide (isN (netU u n) q))
structure afu (n : zz) : Prop where
 ok : xM n
 nd : ∀ q,(nxt n q).Nodup
 nar : amo n
 pos : 0<n.length
 few : n.length≤1024
theorem vA {u : UnD} {n : Int} (h : fnE u n=0) : ∃ hlt : n.toNat<u.fs.length,netU u n=zh u.fs[n.toNat]∧afu (netU u n):=by
 obtain ⟨hM,hn0,hlt⟩:=Ju h
 have e : netU u n=zh u.fs[n.toNat]:=by rw [netU,List.getElem?_eq_getElem hlt]
 refine ⟨hlt,e,?_⟩
 rw [e]
 obtain ⟨h1,h2⟩:=ajm hM hlt
 exact ⟨akC hM (List.getElem_mem hlt),fun q=>ahf,fun l hl=>by obtain ⟨p,_,rfl⟩:=List.mem_map.1 hl;exact ah7,h1,h2⟩
end Go.Proofs
end
section
namespace Go.Proofs
open Go.Sh
set_option maxRecDepth 100000
abbrev Tryz.kA : FuncId:=73
instance {x0_0 : Value} {x0_1 : Value} {x0_2 : Value} {x0_3 : Value} {x0_4 : Value} {x0_5 : Value} {x0_6 : Value} : PStep Tryz.prog (Instr.build 129 #[(0,.agg #[x0_0,x0_1,x0_2,x0_3,x0_4,x0_5,x0_6])]) (.agg #[x0_0,x0_1,x0_2,x0_3,x0_4,x0_5,x0_6,(.slice none 0 0)]):=.of fun _ k=>zy (by kernel_rfl) k
instance : zG Tryz.prog 129 0 0:=⟨by kernel_rfl⟩
instance : zG Tryz.prog 129 1 7:=⟨by kernel_rfl⟩
abbrev Tryz.yW : FuncId:=76
abbrev Tryz.qU : FuncId:=110
abbrev Tryz.xE : FuncId:=77
abbrev Tryz.xF : FuncId:=85
abbrev Tryz.JQ : FuncId:=112
instance : Ld1 Tryz.prog 118:=⟨by kernel_rfl⟩
instance : SzT Tryz.prog 118 1:=⟨by kernel_rfl⟩
abbrev Tryz.xG : FuncId:=80
abbrev Tryz.kH : FuncId:=74
instance : ZrT Tryz.prog 67 [(.slice none 0 0)]:=⟨by kernel_rfl⟩
instance : Ld1 Tryz.prog 157:=⟨by kernel_rfl⟩
instance : SzT Tryz.prog 157 1:=⟨by kernel_rfl⟩
instance : SlT Tryz.prog 157 159 2:=⟨by kernel_rfl⟩
instance : LdN Tryz.prog 159 2:=⟨by kernel_rfl⟩
instance : SzT Tryz.prog 159 2:=⟨by kernel_rfl⟩
instance : ZrT Tryz.prog 157 [(.slice none 0 0)]:=⟨by kernel_rfl⟩
instance : Ld1 Tryz.prog 160:=⟨by kernel_rfl⟩
instance : SzT Tryz.prog 160 1:=⟨by kernel_rfl⟩
instance : ZrT Tryz.prog 160 [.nilFunc]:=⟨by kernel_rfl⟩
instance : ZrT Tryz.prog 159 [(.int .i64 0),(.int .i64 0)]:=⟨by kernel_rfl⟩
instance : zG Tryz.prog 159 0 0:=⟨by kernel_rfl⟩
instance : zG Tryz.prog 159 1 1:=⟨by kernel_rfl⟩
abbrev Tryz.zF : FuncId:=108
instance : ApT Tryz.prog 157 159 2 16:=⟨by kernel_rfl⟩
abbrev Tryz.JR : FuncId:=109
abbrev Tryz.Xl : FuncId:=36
instance : LdN Tryz.prog 72 2:=⟨by kernel_rfl⟩
instance : SzT Tryz.prog 72 2:=⟨by kernel_rfl⟩
instance : ZrT Tryz.prog 72 [(.int .i64 0),(.slice none 0 0)]:=⟨by kernel_rfl⟩
instance : zG Tryz.prog 72 1 1:=⟨by kernel_rfl⟩
instance : Ld1 Tryz.prog 70:=⟨by kernel_rfl⟩
instance : SlT Tryz.prog 70 76 1:=⟨by kernel_rfl⟩
instance : SlT Tryz.prog 63 72 2:=⟨by kernel_rfl⟩
instance : ApT Tryz.prog 63 72 2 32:=⟨by kernel_rfl⟩
abbrev Tryz.XD : FuncId:=38
abbrev Tryz.ad6 : FuncId:=78
abbrev Tryz.XE : FuncId:=39
abbrev Tryz.JS : FuncId:=37
abbrev Tryz.Z9 : FuncId:=46
instance : ZrT Tryz.prog 118 [(.pointer none)]:=⟨by kernel_rfl⟩
abbrev Tryz.JT : FuncId:=84
abbrev Tryz.jx : FuncId:=47
abbrev Tryz.Xm : FuncId:=88
instance : zG Tryz.prog 72 0 0:=⟨by kernel_rfl⟩
abbrev Tryz.Xn : FuncId:=90
abbrev Tryz.ZP : FuncId:=83
abbrev Tryz.qD : FuncId:=44
abbrev Tryz.qE : FuncId:=45
abbrev Tryz.XF : FuncId:=48
abbrev Tryz.YE : FuncId:=92
abbrev Tryz.YF : FuncId:=8
abbrev Tryz.YG : FuncId:=34
abbrev Tryz.yY : FuncId:=35
abbrev Tryz.YH : FuncId:=72
instance : ZrT Tryz.prog 81 [(.int .i64 0),(.slice none 0 0)]:=⟨by kernel_rfl⟩
instance : ApT Tryz.prog 35 9 1 16:=⟨by kernel_rfl⟩
instance : ZrT Tryz.prog 9 [(.string ByteArray.empty)]:=⟨by kernel_rfl⟩
abbrev Tryz.xz : FuncId:=105
abbrev Tryz.kT : FuncId:=106
abbrev Tryz.zt : FuncId:=107
abbrev Tryz.XG : FuncId:=41
abbrev Tryz.Ya : FuncId:=50
abbrev Tryz.Qt : FuncId:=75
instance : ApT Tryz.prog 70 76 1 8:=⟨by kernel_rfl⟩
instance : ZrT Tryz.prog 76 [(.int .u64 0)]:=⟨by kernel_rfl⟩
abbrev Tryz.Qu : FuncId:=89
abbrev Tryz.yu : FuncId:=111
abbrev Tryz.yH : FuncId:=134
abbrev Tryz.xH : FuncId:=86
abbrev Tryz.yn : FuncId:=87
abbrev Tryz.yB : FuncId:=114
end Go.Proofs
end
section
namespace Go.Proofs.Tryz
open Go.Sh
set_option maxRecDepth 100000
def adu (t0 t1 : Value) (w : World) (K : VW) : Prop:=
 pw w (Instr.box 25 t0) fun t2 w1=>
 bt .lss 3 t1 (i6 0) fun t11=>za (fun K2=>gIf t11 false (fl w1 t2 25 1 23 fun t15=>pp (Builtin.len_ #[23] 3 #[t15]) fun t16=>bf .geq 3 t1 t16 fun t17=>K2 [t17] w1) (K2 [undef] w1)) (fun s3 _d4 w5=>
 zb t11 tr_ (s3.getD 0 undef) fun t18=>za (fun K6=>gIf t18 false (lo w5 25 t2 fun t20=>ca Zd #[t20] w5 fun t21 w10=>
 pp (Op.unary .not t21) fun t22=>K6 [t22] w10) (K6 [undef] w5)) (fun s7 _d8 w9=>
 zb t18 tr_ (s7.getD 0 undef) fun t23=>zc t23 (K (.tuple #[(Value.pointer Option.none),(i6 2)]) w9) (fl w9 t2 25 1 23 fun t25=>xl w9 23 t25 t1 38 fun t28=>pp (Instr.build 129 #[(0,t28)]) fun t29=>pw w9 (Instr.box 129 t29) fun t30 w11=>
 fa t30 129 0 fun t33=>fl w11 t33 38 6 36 fun t35=>pp (Builtin.len_ #[36] 3 #[t35]) fun t36=>zo [(i6 0)] w11 (fun s13 _d14 w15 K12=>
 bf .lss 3 (s13.getD 0 undef) t36 fun t38=>zc t38 (xl w15 36 t35 (s13.getD 0 undef) 87 fun t40=>pw w15 (Instr.alloc 87 true (.tuple #[])) fun t8 w16=>
 so w16 87 t8 t40 fun w17=>za (fun K18=>
 fl w17 t8 87 0 78 fun t42=>bt .neq 78 t42 (Value.int .u8 14) fun t43=>zc t43 (fl w17 t8 87 10 3 fun t46=>pw w17 (Instr.buildSlice 28 1 #[(0,t46)]) fun t47 w22=>
 pw w22 (Builtin.append_ #[28,28] 28 #[(Value.slice Option.none 0 0),t47]) fun t48 w23=>
 K18 [t48] w23) (K18 [(Value.slice Option.none 0 0)] w17)) (fun s19 _d20 w21=>
 za (fun K24=>
 fl w21 t8 87 0 78 fun t50=>bt .eql 78 t50 (Value.int .u8 12) fun t51=>zc t51 (fl w21 t8 87 11 3 fun t54=>pw w21 (Instr.buildSlice 28 1 #[(0,t54)]) fun t55 w28=>
 pw w28 (Builtin.append_ #[28,28] 28 #[(s19.getD 0 undef),t55]) fun t56 w29=>
 K24 [t56] w29) (K24 [(s19.getD 0 undef)] w21)) (fun s25 _d26 w27=>
 ff w27 t30 129 1 97 fun t61=>pw w27 (Instr.buildSlice 97 1 #[(0,(s25.getD 0 undef))]) fun t63 w30=>
 pw w30 (Builtin.append_ #[97,97] 97 #[t61,t63]) fun t64 w31=>
 fa t30 129 1 fun t66=>so w31 97 t66 t64 fun w32=>bt .add 3 (s13.getD 0 undef) (i6 1) fun t67=>K12 [t67] w32))) (K (.tuple #[t30,(i6 0)]) w15)))))
theorem ahj {t0 t1 : Value} {w : World} {K : VW} (h : adu t0 t1 w K) : zd prog kA #[t0,t1] w K:=
 okC false (.s (.r (rz 3 0 2)) (.s (.s (.r (ra 3 0 0 (.grp 12 false (ri 5 3 16) [17] (ra 2 8 0 (.grp 19 false (ri 3 10 9) [22] (rz 1 13 0)))))) (.c (.s (.r (rz 2 0 0)) (.n)) (.n))) (.s (.r (rz 8 0 8452)) (.s (.s (.r (rz 7 0 256)) (.b (.lp [37] (.s (.r (rz 1 0 0)) (.s (.c (.n) (.n)) (.s (.b (.s (.r (rz 4 0 164)) (.s (.r (rz 1 0 0)) (.j [9] (.s (.r (rz 3 0 4)) (.c (.r (rz 6 0 656)) (.n))) (.j [9] (.s (.r (rz 3 0 4)) (.c (.r (rz 6 0 656)) (.n))) (.r (rz 11 0 2138368))))))) (.r (rz 2 0 0)))))))) (.s (.r (rz 3 0 0)) (.n)))))) func73 rfl (by kernel_rfl) (by kernel_rfl) h
def Z0 (t0 t1 : Value) (w : World) (K : VW) : Prop:=
 bt .geq 3 t1 (i6 0) fun t6=>za (fun K1=>gIf t6 true (fa t0 129 0 fun t11=>fl w t11 38 6 36 fun t13=>pp (Builtin.len_ #[36] 3 #[t13]) fun t14=>bf .lss 3 t1 t14 fun t15=>K1 [t15] w) (K1 [undef] w)) (fun s2 _d3 w4=>
 zb t6 (s2.getD 0 undef) fa_ fun t16=>K t16 w4)
theorem JU {t0 t1 : Value} {w : World} {K : VW} (h : Z0 t0 t1 w K) : zd prog yW #[t0,t1] w K:=
 okC false (.s (.r (rz 1 0 0)) (.s (.r (ra 3 0 0 (.grp 7 true (ri 8 3 1024) [15] (rz 2 11 0)))) (.n))) func76 rfl (by kernel_rfl) (by kernel_rfl) h
def X7 (t0 : Value) (w : World) (K : VW) : Prop:=
 pw w (Instr.box 87 t0) fun t1 w1=>
 fl w1 t1 87 0 78 fun t4=>bt .geq 78 t4 (Value.int .u8 1) fun t5=>za (fun K2=>gIf t5 true (fl w1 t1 87 0 78 fun t8=>bt .leq 78 t8 (Value.int .u8 8) fun t9=>K2 [t9] w1) (K2 [undef] w1)) (fun s3 _d4 w5=>
 zb t5 (s3.getD 0 undef) fa_ fun t10=>K t10 w5)
theorem abU {t0 : Value} {w : World} {K : VW} (h : X7 t0 w K) : zd prog qU #[t0] w K:=
 okC false (.s (.r (rz 2 0 2)) (.s (.r (ra 4 0 4 (.grp 6 true (ri 3 4 4) [9] (rz 2 7 0)))) (.n))) func110 rfl (by kernel_rfl) (by kernel_rfl) h
def YI (t0 t1 t2 : Value) (w : World) (K : VW) : Prop:=
 fa t0 129 0 fun t11=>fl w t11 38 6 36 fun t13=>xl w 36 t13 t1 87 fun t16=>pw w (Instr.alloc 87 true (.tuple #[])) fun t6 w1=>
 so w1 87 t6 t16 fun w2=>fl w2 t6 87 2 84 fun t18=>fl w2 t6 87 3 84 fun t20=>pw w2 (Instr.buildSlice 85 2 #[(0,t18),(1,t20)]) fun t21 w3=>
 fl w3 t6 87 4 85 fun t23=>pw w3 (Builtin.append_ #[85,85] 85 #[t21,t23]) fun t24 w4=>
 pp (Builtin.len_ #[85] 3 #[t24]) fun t25=>zo [(i6 0)] w4 (fun s6 _d7 w8 K5=>
 bf .lss 3 (s6.getD 0 undef) t25 fun t27=>zc t27 (xl w8 85 t24 (s6.getD 0 undef) 84 fun t29=>pw w8 (Instr.alloc 84 true (.tuple #[])) fun t8 w9=>
 so w9 84 t8 t29 fun w10=>fl w10 t8 84 0 82 fun t31=>bt .eql 82 t31 (Value.int .u8 3) fun t32=>za (fun K11=>gIf t32 false (fl w10 t8 84 0 82 fun t35=>bt .eql 82 t35 (Value.int .u8 4) fun t36=>K11 [t36] w10) (K11 [undef] w10)) (fun s12 _d13 w14=>
 zb t32 tr_ (s12.getD 0 undef) fun t37=>za (fun K15=>gIf t37 true (pf 84 t8 2 fun t40=>fl w14 t40 81 0 3 fun t42=>cv t2 #[t42] w14 fun t43 w19=>
 pp (Op.unary .not t43) fun t44=>K15 [t44] w19) (K15 [undef] w14)) (fun s16 _d17 w18=>
 zb t37 (s16.getD 0 undef) fa_ fun t45=>zc t45 (K (.tuple #[]) w18) (bt .add 3 (s6.getD 0 undef) (i6 1) fun t46=>K5 [t46] w18)))) (fl w8 t6 87 0 78 fun t48=>bt .eql 78 t48 (Value.int .u8 4) fun t49=>za (fun K20=>gIf t49 true (pf 87 t6 6 fun t52=>fl w8 t52 81 0 3 fun t54=>cv t2 #[t54] w8 fun t55 w24=>
 pp (Op.unary .not t55) fun t56=>K20 [t56] w24) (K20 [undef] w8)) (fun s21 _d22 w23=>
 zb t49 (s21.getD 0 undef) fa_ fun t57=>zc t57 (K (.tuple #[]) w23) (fl w23 t6 87 0 78 fun t59=>bt .eql 78 t59 (Value.int .u8 14) fun t60=>za (fun K25=>gIf t60 false (lo w23 87 t6 fun t62=>ca qU #[t62] w23 fun t63 w29=>
 K25 [t63] w29) (K25 [undef] w23)) (fun s26 _d27 w28=>
 za (fun K30=>gIf (s26.getD 0 undef) true (pf 87 t6 1 fun t65=>fl w28 t65 81 1 79 fun t67=>ca yu #[t67,(i6 (-1))] w28 fun t68 w34=>
 K30 [t68] w34) (K30 [undef] w28)) (fun s31 _d32 w33=>
 za (fun K35=>gIf t60 false (zb (s26.getD 0 undef) (s31.getD 0 undef) fa_ fun t69=>K35 [t69] w33) (K35 [undef] w33)) (fun s36 _d37 w38=>
 zb t60 tr_ (s36.getD 0 undef) fun t70=>zc t70 (pf 87 t6 1 fun t72=>fl w38 t72 81 0 3 fun t74=>cv t2 #[t74] w38 fun _t75 w39=>
 K (.tuple #[]) w39) (K (.tuple #[]) w38))))))))
theorem VA {t0 t1 t2 : Value} {w : World} {K : VW} (h : YI t0 t1 t2 w K) : zd prog xE #[t0,t1,t2] w K:=
 okC false (.s (.r (rz 10 0 672000)) (.s (.s (.r (rz 10 0 37444)) (.b (.lp [26] (.s (.r (rz 1 0 0)) (.s (.c (.n) (.n)) (.s (.b (.s (.r (rz 4 0 164)) (.s (.r (ra 4 0 4 (.grp 33 false (ri 3 4 4) [36] (ra 2 7 0 (.grp 38 true (ri 6 9 576) [44] (rz 1 15 0)))))) (.c (.n) (.n))))) (.r (rz 2 0 0)))))))) (.s (.s (.r (ra 4 0 4 (.grp 50 true (ri 6 4 576) [56] (rz 1 10 0)))) (.c (.n) (.n))) (.s (.r (ra 4 0 4 (.grp 61 false (ri 3 4 9) [64] (.grp 64 true (ri 4 7 144) [68] (.grp 61 false (ri 1 11 0) [69] (rz 1 12 0)))))) (.c (.r (rz 5 0 576)) (.n)))))) func77 rfl (by kernel_rfl) (by kernel_rfl) h
def YJ (t0 t1 t2 : Value) (w : World) (K : VW) : Prop:=
 pw w (Instr.box 118 t0) fun t3 w1=>
 NC w w1∧
 pw w1 (Instr.box 3 t1) fun t4 w2=>
 NC w1 w2∧
 pw w2 (Instr.box 3 t2) fun t5 w3=>
 NC w2 w3∧
 pw w3 (Instr.alloc 4 true (.tuple #[])) fun t6 w4=>
 NC w3 w4∧
 pp (Instr.makeFunc (.func 112) #[] #[t3,t4]) fun t8=>XK prog 1 t8 w4 (fun x5 w6 S7 KR8=>
 (Ext w6 w6∧∀ w9,Nl w4.heap.size w6 w9→
 lo w9 3 t5 fun t11=>bf .eql 3 (x5.getD 0 undef) t11 fun t12=>zc t12 (so w9 4 t6 tr_ fun w10=>NC w9 w10∧
 (ExtBut S7 w9 w10∧KR8 .ret w10)) ((ExtBut S7 w9 w9∧KR8 .normal w9)))) (fun w11=>
 so w11 4 t6 fa_ fun w12=>NC w11 w12∧
 ∀ w13,Shuts w.heap.size w12 w13→pq w13 (zn 4 t6) fun r14=>K r14 w13) (fun w15=>
 ∀ w16,Shuts w.heap.size w15 w16→pq w16 (zn 4 t6) fun r17=>K r17 w16) []
theorem VB {t0 t1 t2 : Value} {w : World} {K : VW} (h : YJ t0 t1 t2 w K) : zd prog xF #[t0,t1,t2] w K:=
 okC true (.s (.r (rz 4 0 170)) (.s (.s (.r (rz 1 0 0)) (.b (.rf [] (.r (rz 1 0 0)) (.b (.s (.r (rz 3 0 4)) (.c (.s (.r (rz 1 0 2)) (.n)) (.n))))))) (.s (.r (rz 1 0 2)) (.n)))) func85 rfl (by kernel_rfl) (by kernel_rfl) h
def qF (t0 t1 t2 : Value) (w : World) (K : VW) : Prop:=
 lo w 118 t1 fun t4=>lo w 3 t2 fun t5=>ca xE #[t4,t5,t0] w fun _t7 w1=>
 K (.tuple #[]) w1
theorem Q0 {t0 t1 t2 : Value} {w : World} {K : VW} (h : qF t0 t1 t2 w K) : zd prog JQ #[t0,t1,t2] w K:=
 okC false (.r (rz 4 0 133)) func112 rfl (by kernel_rfl) (by kernel_rfl) h
def YK (t0 t1 : Value) (w : World) (K : VW) : Prop:=
 fa t0 129 0 fun t10=>fl w t10 38 6 36 fun t12=>xl w 36 t12 t1 87 fun t15=>pw w (Instr.alloc 87 true (.tuple #[])) fun t6 w1=>
 so w1 87 t6 t15 fun w2=>za (fun K3=>
 fl w2 t6 87 0 78 fun t18=>bt .eql 78 t18 (Value.int .u8 11) fun t19=>zc t19 (pf 87 t6 6 fun t20=>fl w2 t20 81 0 3 fun t22=>K3 [t22] w2) (lo w2 87 t6 fun t24=>ca qU #[t24] w2 fun t25 w7=>
 za (fun K8=>gIf t25 true (pf 87 t6 1 fun t27=>fl w7 t27 81 1 79 fun t29=>pp (Builtin.len_ #[79] 3 #[t29]) fun t30=>bt .eql 3 t30 (i6 0) fun t31=>K8 [t31] w7) (K8 [undef] w7)) (fun s9 _d10 w11=>
 zb t25 (s9.getD 0 undef) fa_ fun t32=>zc t32 (pf 87 t6 1 fun t33=>fl w11 t33 81 0 3 fun t35=>K3 [t35] w11) (K (.tuple #[(i6 0),fa_]) w11)))) (fun s4 _d5 w6=>
 ca xF #[t0,t1,(s4.getD 0 undef)] w6 fun t39 w12=>
 zc t39 (K (.tuple #[(i6 0),fa_]) w12) (K (.tuple #[(s4.getD 0 undef),tr_]) w12))
theorem VC {t0 t1 : Value} {w : World} {K : VW} (h : YK t0 t1 w K) : zd prog xG #[t0,t1] w K:=
 okC false (.s (.r (rz 2 0 0)) (.s (.r (rz 10 0 672000)) (.s (.r (rz 1 0 0)) (.j [7] (.b (.s (.r (rz 4 0 4)) (.c (.r (rz 4 0 16)) (.s (.r (ra 3 0 9 (.grp 26 true (ri 5 3 16) [31] (rz 2 8 0)))) (.c (.r (rz 4 0 16)) (.s (.r (rz 2 0 0)) (.n))))))) (.s (.s (.r (rz 4 0 128)) (.c (.s (.r (rz 2 0 0)) (.n)) (.n))) (.s (.r (rz 3 0 0)) (.n))))))) func80 rfl (by kernel_rfl) (by kernel_rfl) h
def YL (t0 : Value) (w : World) (K : VW) : Prop:=
 pw w (Instr.box 118 t0) fun t1 w1=>
 NC w w1∧
 lo w1 118 t1 fun t21=>fa t21 129 0 fun t23=>fl w1 t23 38 6 36 fun t25=>pp (Builtin.len_ #[36] 3 #[t25]) fun t26=>lo w1 118 t1 fun t27=>fa t27 129 0 fun t29=>fl w1 t29 38 4 34 fun t31=>pp (Builtin.len_ #[34] 3 #[t31]) fun t32=>pw w1 (Instr.makeSlice 67 t32 t32) fun t33 w2=>
 NC w1 w2∧
 pw w2 (Instr.alloc 67 true (.tuple #[])) fun t4 w3=>
 NC w2 w3∧
 so w3 67 t4 t33 fun w4=>NC w3 w4∧
 lo w4 67 t4 fun t34=>pp (Builtin.len_ #[67] 3 #[t34]) fun t35=>zo [(i6 0)] w4 (fun s6 _d7 w8 K5=>
 bf .lss 3 (s6.getD 0 undef) t35 fun t37=>zc t37 (lo w8.drew 67 t4 fun t39=>pw w8.drew (Instr.makeSlice 75 t26 t26) fun t42 w9=>
 NC w8.drew w9∧
 Ext w8.drew w9∧
 px 67 t39 (s6.getD 0 undef) fun t43=>so w9 75 t43 t42 fun w10=>NC w9 w10∧
 bt .add 3 (s6.getD 0 undef) (i6 1) fun t44=>K5 [t44] w10) (pw w8 (Instr.makeSlice 97 t26 t26) fun t46 w11=>
 NC w8 w11∧
 lo w11 118 t1 fun t47=>ff w11 t47 129 1 97 fun t50=>pp (Builtin.len_ #[97] 3 #[t50]) fun t51=>zo [(i6 0)] w11 (fun s13 _d14 w15 K12=>
 bf .lss 3 (s13.getD 0 undef) t51 fun t53=>zc t53 (xl w15 97 t50 (s13.getD 0 undef) 28 fun t56=>pp (Builtin.len_ #[28] 3 #[t56]) fun t58=>zo [(i6 0)] w15 (fun s17 _d18 w19 K16=>
 bf .lss 3 (s17.getD 0 undef) t58 fun t60=>zc t60 (xl w19 28 t56 (s17.getD 0 undef) 3 fun t62=>xl w19 97 t46 t62 28 fun t68=>pw w19 (Instr.buildSlice 28 1 #[(0,(s13.getD 0 undef))]) fun t70 w20=>
 NC w19 w20∧
 pw w20 (Builtin.append_ #[28,28] 28 #[t68,t70]) fun t71 w21=>
 NC w20 w21∧
 px 97 t46 t62 fun t72=>so w21 28 t72 t71 fun w22=>NC w21 w22∧
 bt .add 3 (s17.getD 0 undef) (i6 1) fun t73=>K16 [t73] w22) (bt .add 3 (s13.getD 0 undef) (i6 1) fun t74=>K12 [t74] w19))) (pw w15 (Instr.alloc 157 true (.tuple #[])) fun t11 w23=>
 NC w15 w23∧
 pp (Instr.makeFunc (.func 108) #[] #[t4,t11]) fun t75=>pw w23 (Instr.alloc 160 true (.tuple #[])) fun t12 w24=>
 NC w23 w24∧
 so w24 160 t12 t75 fun w25=>NC w24 w25∧
 zo [(i6 0)] w25 (fun s27 _d28 w29 K26=>
 bf .lss 3 (s27.getD 0 undef) t26 fun t78=>zc t78 (pw w29 (Instr.alloc 3 true (.tuple #[])) fun t13 w30=>
 NC w29 w30∧
 so w30 3 t13 (s27.getD 0 undef) fun w31=>NC w30 w31∧
 pp (Instr.makeFunc (.func 109) #[] #[t1,t13]) fun t80=>XK prog 1 t80 w31 (fun x32 w33 S34 KR35=>
 (Ext w33 w33∧∀ w36,Nl w31.heap.size w33 w36→
 lo w36 160 t12 fun t82=>lo w36 3 t13 fun t83=>cv t82 #[t83,(x32.getD 0 undef)] w36 fun _t85 w37=>
 NC w36 w37∧
 (ExtBut S34 w36 w37∧KR35 .normal w37))) (fun w38=>
 bt .add 3 (s27.getD 0 undef) (i6 1) fun t86=>K26 [t86] w38) (fun w39=>
 ∀ w40,Shuts w.heap.size w39 w40→K (Value.slice Option.none 0 0) w40) []) (lo w29 118 t1 fun t87=>pp (Instr.makeFunc (.func 80) #[t87] #[]) fun t88=>zo [] w29 (fun _s42 _d43 w44 K41=>
 lo w44 157 t11 fun t89=>pp (Builtin.len_ #[157] 3 #[t89]) fun t90=>bt .gtr 3 t90 (i6 0) fun t91=>zc t91 (lo w44 157 t11 fun t92=>lo w44 157 t11 fun t93=>pp (Builtin.len_ #[157] 3 #[t93]) fun t94=>bt .sub 3 t94 (i6 1) fun t95=>xl w44 157 t92 t95 159 fun t97=>pw w44 (Instr.alloc 159 true (.tuple #[])) fun t16 w45=>
 NC w44 w45∧
 so w45 159 t16 t97 fun w46=>NC w45 w46∧
 lo w46 157 t11 fun t98=>lo w46 157 t11 fun t99=>pp (Builtin.len_ #[157] 3 #[t99]) fun t100=>bt .sub 3 t100 (i6 1) fun t101=>pp (Instr.sliceAt 157 t98 none (some t101) none) fun t102=>so w46 157 t11 t102 fun w47=>NC w46 w47∧
 fl w47 t16 159 0 3 fun t105=>xl w47 97 t46 t105 28 fun t107=>pp (Builtin.len_ #[28] 3 #[t107]) fun t108=>zo [(i6 0)] w47 (fun s49 _d50 w51 K48=>
 bf .lss 3 (s49.getD 0 undef) t108 fun t110=>zc t110 (za (fun K52=>
 xl w51 28 t107 (s49.getD 0 undef) 3 fun t112=>cv t88 #[t112] w51 fun t116 w56=>
 NC w51 w56∧
 pe t116 0 fun t117=>pe t116 1 fun t118=>za (fun K57=>gIf t118 true (fl w56 t16 159 1 3 fun t123=>bf .eql 3 t117 t123 fun t124=>K57 [t124] w56) (K57 [undef] w56)) (fun s58 _d59 w60=>
 zb t118 (s58.getD 0 undef) fa_ fun t125=>zc t125 (K52 [] w60) (lo w60 160 t12 fun t126=>fl w60 t16 159 1 3 fun t129=>cv t126 #[t112,t129] w60 fun _t130 w61=>
 NC w60 w61∧
 K52 [] w61))) (fun _s53 _d54 w55=>
 bt .add 3 (s49.getD 0 undef) (i6 1) fun t131=>K48 [t131] w55)) (K41 [] w51))) (lo w44 67 t4 fun t132=>∀ w62,Shuts w.heap.size w44 w62→K t132 w62))))))))
theorem VD {t0 : Value} {w : World} {K : VW} (h : YL t0 w K) : zd prog kH #[t0] w K:=
 okC true (.s (.r (rz 2 0 2)) (.b (.s (.r (rz 7 0 257)) (.s (.r (rz 9 0 172289)) (.s (.s (.r (rz 3 0 1)) (.b (.lp [36] (.s (.r (rz 1 0 0)) (.s (.c (.n) (.n)) (.s (.b (.s (.r (rz 2 0 0)) (.r (rz 6 0 2241)))) (.r (rz 2 0 0)))))))) (.s (.r (rz 3 0 8)) (.s (.s (.r (rz 6 0 65)) (.b (.lp [52] (.s (.r (rz 1 0 0)) (.s (.c (.n) (.n)) (.s (.b (.s (.r (rz 5 0 16)) (.s (.r (rz 3 0 0)) (.b (.lp [59] (.s (.r (rz 1 0 0)) (.s (.c (.n) (.n)) (.s (.b (.s (.r (rz 3 0 4)) (.r (rz 11 0 2262016)))) (.r (rz 2 0 0)))))))))) (.r (rz 2 0 0)))))))) (.s (.r (rz 1 0 2)) (.s (.r (rz 3 0 40)) (.s (.s (.r (rz 2 0 0)) (.b (.lp [77] (.s (.r (rz 1 0 0)) (.s (.c (.n) (.n)) (.s (.b (.s (.r (rz 3 0 40)) (.s (.r (rz 1 0 0)) (.b (.rf [] (.r (rz 1 0 0)) (.b (.r (rz 4 0 133)))))))) (.r (rz 2 0 0)))))))) (.s (.r (rz 3 0 1)) (.s (.n) (.s (.b (.lp [] (.s (.s (.r (rz 3 0 1)) (.c (.n) (.n))) (.b (.s (.r (rz 8 0 41989)) (.s (.r (rz 6 0 2053)) (.s (.s (.r (rz 7 0 272)) (.b (.lp [109] (.s (.r (rz 1 0 0)) (.s (.c (.n) (.n)) (.j [] (.b (.s (.r (rz 3 0 4)) (.s (.s (.r (rz 8 0 32)) (.s (.r (ra 2 0 0 (.grp 120 true (ri 4 2 16) [124] (rz 1 6 0)))) (.c (.n) (.n)))) (.r (rz 5 0 577))))) (.r (rz 2 0 0)))))))) (.n)))))))) (.s (.r (rz 2 0 1)) (.n))))))))))))))) func74 rfl (by kernel_rfl) (by kernel_rfl) h
def Zv (t0 t1 t2 t3 : Value) (w : World) (K : VW) : Prop:=
 lo w 67 t2 fun t6=>xl w 67 t6 t1 75 fun t9=>xl w 75 t9 t0 4 fun t12=>pp (Op.unary .not t12) fun t13=>zc t13 (lo w 67 t2 fun t14=>xl w 67 t14 t1 75 fun t17=>px 75 t17 t0 fun t19=>so w 4 t19 tr_ fun w1=>lo w1 157 t3 fun t20=>pp (Instr.build 159 #[(0,t0),(1,t1)]) fun t23=>pw w1 (Instr.buildSlice 157 1 #[(0,t23)]) fun t24 w2=>
 pw w2 (Builtin.append_ #[157,157] 157 #[t20,t24]) fun t25 w3=>
 so w3 157 t3 t25 fun w4=>K (.tuple #[]) w4) (K (.tuple #[]) w)
theorem Q2 {t0 t1 t2 t3 : Value} {w : World} {K : VW} (h : Zv t0 t1 t2 t3 w K) : zd prog zF #[t0,t1,t2,t3] w K:=
 okC false (.s (.r (rz 8 0 4161)) (.c (.s (.r (rz 7 0 8257)) (.r (rz 7 0 10753))) (.n))) func108 rfl (by kernel_rfl) (by kernel_rfl) h
def JV (t0 t1 t2 : Value) (w : World) (K : VW) : Prop:=
 lo w 118 t1 fun t4=>lo w 3 t2 fun t5=>ca xE #[t4,t5,t0] w fun _t7 w1=>
 K (.tuple #[]) w1
theorem Q3 {t0 t1 t2 : Value} {w : World} {K : VW} (h : JV t0 t1 t2 w K) : zd prog JR #[t0,t1,t2] w K:=
 okC false (.r (rz 4 0 133)) func109 rfl (by kernel_rfl) (by kernel_rfl) h
def adv (t0 t1 : Value) (w : World) (K : VW) : Prop:=
 pw w (Instr.box 25 t0) fun t2 w1=>
 lo w1 25 t2 fun t16=>ca kA #[t16,t1] w1 fun t18 w2=>
 pe t18 0 fun t19=>pe t18 1 fun t20=>bt .neq 29 t20 (i6 0) fun t22=>zc t22 (K (.tuple #[(Value.slice Option.none 0 0),t20]) w2) (ca kH #[t19] w2 fun t25 w3=>
 pp (Builtin.len_ #[67] 3 #[t25]) fun t26=>zo [(Value.slice Option.none 0 0),(i6 0)] w3 (fun s5 _d6 w7 K4=>
 bf .lss 3 (s5.getD 1 undef) t26 fun t28=>zc t28 (xl w7 67 t25 (s5.getD 1 undef) 75 fun t30=>pp (Builtin.len_ #[75] 3 #[t30]) fun t33=>ca Qt #[t33] w7 fun t34 w8=>
 pe t34 0 fun t35=>pe t34 1 fun _t36=>pw w8 (Instr.alloc 72 true (.tuple #[])) fun t11 w9=>
 so w9 72 t11 t35 fun w10=>pp (Builtin.len_ #[75] 3 #[t30]) fun t38=>zo [(i6 0)] w10 (fun s12 _d13 w14 K11=>
 bf .lss 3 (s12.getD 0 undef) t38 fun t40=>zc t40 (za (fun K15=>
 xl w14 75 t30 (s12.getD 0 undef) 4 fun t43=>zc t43 (fl w14.drew t11 72 1 70 fun t46=>bt .quo 3 (s12.getD 0 undef) (i6 64) fun t48=>xl w14.drew 70 t46 t48 76 fun t50=>bt .rem 3 (s12.getD 0 undef) (i6 64) fun t52=>bt .shl 76 (Value.int .u64 1) t52 fun t53=>bf .or 76 t50 t53 fun t54=>px 70 t46 t48 fun t55=>so w14.drew 76 t55 t54 fun w19=>K15 [] w19) (K15 [] w14)) (fun _s16 _d17 w18=>
 bt .add 3 (s12.getD 0 undef) (i6 1) fun t56=>K11 [t56] w18)) (lo w14 72 t11 fun t58=>pw w14 (Instr.buildSlice 63 1 #[(0,t58)]) fun t59 w20=>
 pw w20 (Builtin.append_ #[63,63] 63 #[(s5.getD 0 undef),t59]) fun t60 w21=>
 bt .add 3 (s5.getD 1 undef) (i6 1) fun t61=>K4 [t60,t61] w21))) (K (.tuple #[(s5.getD 0 undef),(i6 0)]) w7)))
theorem ahk {t0 t1 : Value} {w : World} {K : VW} (h : adv t0 t1 w K) : zd prog Xl #[t0,t1] w K:=
 okC false (.s (.r (rz 3 0 2)) (.s (.r (rz 8 0 33)) (.s (.s (.r (rz 2 0 0)) (.c (.s (.r (rz 3 0 0)) (.n)) (.n))) (.s (.r (rz 1 0 0)) (.s (.s (.r (rz 4 0 8)) (.b (.lp [8,27] (.s (.r (rz 1 0 0)) (.s (.c (.n) (.n)) (.s (.b (.s (.r (rz 3 0 4)) (.s (.r (rz 9 0 40992)) (.s (.s (.r (rz 3 0 0)) (.b (.lp [39] (.s (.r (rz 1 0 0)) (.s (.c (.n) (.n)) (.j [] (.b (.s (.r (rz 5 0 16)) (.s (.r (rz 1 0 0)) (.c (.r (rz 12 0 8389636)) (.n))))) (.r (rz 2 0 0)))))))) (.r (rz 5 0 164)))))) (.r (rz 2 0 0)))))))) (.s (.r (rz 3 0 0)) (.n))))))) func36 rfl (by kernel_rfl) (by kernel_rfl) h
def V0 (t0 t1 t2 : Value) (w : World) (K : VW) : Prop:=
 pw w (Instr.box 25 t0) fun t3 w1=>
 lo w1 25 t3 fun t12=>ca kA #[t12,t1] w1 fun t14 w2=>
 pe t14 0 fun t15=>pe t14 1 fun t16=>bt .neq 29 t16 (i6 0) fun t18=>za (fun K3=>gIf t18 false (ca yW #[t15,t2] w2 fun t22 w7=>
 pp (Op.unary .not t22) fun t23=>K3 [t23] w7) (K3 [undef] w2)) (fun s4 _d5 w6=>
 zb t18 tr_ (s4.getD 0 undef) fun t24=>zc t24 (K (.tuple #[(Value.slice Option.none 0 0),(i6 2)]) w6) (pw w6 (Instr.alloc 28 true (.tuple #[])) fun t10 w8=>
 pp (Instr.makeFunc (.func 78) #[] #[t10]) fun t27=>ca xE #[t15,t2,t27] w8 fun _t28 w9=>
 lo w9 28 t10 fun t29=>ca kj #[t29] w9 fun _t30 w10=>
 lo w10 28 t10 fun t31=>ca qm #[t31] w10 fun t32 w11=>
 K (.tuple #[t32,(i6 0)]) w11))
theorem afv {t0 t1 t2 : Value} {w : World} {K : VW} (h : V0 t0 t1 t2 w K) : zd prog XD #[t0,t1,t2] w K:=
 okC false (.s (.r (rz 3 0 2)) (.s (.r (rz 8 0 33)) (.s (.s (.r (ra 3 0 0 (.grp 19 false (ri 4 3 32) [23] (rz 1 7 0)))) (.c (.s (.r (rz 2 0 0)) (.n)) (.n))) (.s (.r (rz 1 0 2)) (.s (.r (rz 4 0 128)) (.s (.r (rz 2 0 9)) (.s (.r (rz 4 0 9)) (.n)))))))) func38 rfl (by kernel_rfl) (by kernel_rfl) h
def QQ (t0 t1 : Value) (w : World) (K : VW) : Prop:=
 lo w 28 t1 fun t4=>pw w (Instr.buildSlice 28 1 #[(0,t0)]) fun t6 w1=>
 pw w1 (Builtin.append_ #[28,28] 28 #[t4,t6]) fun t7 w2=>
 so w2 28 t1 t7 fun w3=>K tr_ w3
theorem acM {t0 t1 : Value} {w : World} {K : VW} (h : QQ t0 t1 w K) : zd prog ad6 #[t0,t1] w K:=
 okC false (.s (.r (rz 1 0 0)) (.s (.r (rz 5 0 673)) (.s (.r (rz 1 0 0)) (.n)))) func78 rfl (by kernel_rfl) (by kernel_rfl) h
def V1 (t0 t1 t2 : Value) (w : World) (K : VW) : Prop:=
 pw w (Instr.box 25 t0) fun t3 w1=>
 lo w1 25 t3 fun t11=>ca kA #[t11,t1] w1 fun t13 w2=>
 pe t13 0 fun t14=>pe t13 1 fun t15=>bt .neq 29 t15 (i6 0) fun t17=>za (fun K3=>gIf t17 false (ca yW #[t14,t2] w2 fun t21 w7=>
 pp (Op.unary .not t21) fun t22=>K3 [t22] w7) (K3 [undef] w2)) (fun s4 _d5 w6=>
 zb t17 tr_ (s4.getD 0 undef) fun t23=>zc t23 (K (.tuple #[(i6 0),fa_,(i6 2)]) w6) (ca xG #[t14,t2] w6 fun t27 w8=>
 pe t27 0 fun t28=>pe t27 1 fun t29=>K (.tuple #[t28,t29,t15]) w8))
theorem afw {t0 t1 t2 : Value} {w : World} {K : VW} (h : V1 t0 t1 t2 w K) : zd prog XE #[t0,t1,t2] w K:=
 okC false (.s (.r (rz 4 0 2)) (.s (.r (rz 8 0 33)) (.s (.s (.r (ra 3 0 0 (.grp 18 false (ri 4 3 32) [22] (rz 1 7 0)))) (.c (.s (.r (rz 3 0 0)) (.n)) (.n))) (.s (.r (rz 8 0 32)) (.s (.r (rz 6 0 0)) (.n)))))) func39 rfl (by kernel_rfl) (by kernel_rfl) h
def adw (t0 t1 t2 : Value) (w : World) (K : VW) : Prop:=
 pw w (Instr.box 25 t0) fun t3 w1=>
 lo w1 25 t3 fun t14=>ca kA #[t14,t1] w1 fun t16 w2=>
 pe t16 0 fun t17=>pe t16 1 fun t18=>bt .neq 29 t18 (i6 0) fun t20=>za (fun K3=>gIf t20 false (ca yW #[t17,t2] w2 fun t24 w7=>
 pp (Op.unary .not t24) fun t25=>K3 [t25] w7) (K3 [undef] w2)) (fun s4 _d5 w6=>
 zb t20 tr_ (s4.getD 0 undef) fun t26=>zc t26 (K (.tuple #[(Value.slice Option.none 0 0),(i6 2)]) w6) (ca kH #[t17] w6 fun t28 w8=>
 pp (Builtin.len_ #[67] 3 #[t28]) fun t29=>zo [(Value.slice Option.none 0 0),(i6 0)] w8 (fun s10 _d11 w12 K9=>
 bf .lss 3 (s10.getD 1 undef) t29 fun t31=>zc t31 (za (fun K13=>
 xl w12 67 t28 (s10.getD 1 undef) 75 fun t34=>xl w12 75 t34 t2 4 fun t38=>zc t38 (pw w12 (Instr.buildSlice 28 1 #[(0,(s10.getD 1 undef))]) fun t41 w17=>
 pw w17 (Builtin.append_ #[28,28] 28 #[(s10.getD 0 undef),t41]) fun t42 w18=>
 K13 [t42] w18) (K13 [(s10.getD 0 undef)] w12)) (fun s14 _d15 w16=>
 bt .add 3 (s10.getD 1 undef) (i6 1) fun t43=>K9 [(s14.getD 0 undef),t43] w16)) (K (.tuple #[(s10.getD 0 undef),t18]) w12))))
theorem ahl {t0 t1 t2 : Value} {w : World} {K : VW} (h : adw t0 t1 t2 w K) : zd prog JS #[t0,t1,t2] w K:=
 okC false (.s (.r (rz 3 0 2)) (.s (.r (rz 8 0 33)) (.s (.s (.r (ra 3 0 0 (.grp 21 false (ri 4 3 32) [25] (rz 1 7 0)))) (.c (.s (.r (rz 2 0 0)) (.n)) (.n))) (.s (.r (rz 1 0 0)) (.s (.s (.r (rz 4 0 8)) (.b (.lp [10,30] (.s (.r (rz 1 0 0)) (.s (.c (.n) (.n)) (.j [10] (.b (.s (.r (rz 5 0 16)) (.s (.r (rz 4 0 64)) (.c (.r (rz 5 0 160)) (.n))))) (.r (rz 2 0 0)))))))) (.s (.r (rz 4 0 0)) (.n))))))) func37 rfl (by kernel_rfl) (by kernel_rfl) h
def abV (t0 t1 t2 t3 : Value) (w : World) (K : VW) : Prop:=
 pw w (Instr.box 25 t0) fun t4 w1=>
 pw w1 (Instr.box 3 t2) fun t6 w2=>
 lo w2 25 t4 fun t22=>ca kA #[t22,t1] w2 fun t24 w3=>
 pe t24 0 fun t25=>pe t24 1 fun t26=>pw w3 (Instr.alloc 118 true (.tuple #[])) fun t11 w4=>
 so w4 118 t11 t25 fun w5=>bt .neq 29 t26 (i6 0) fun t28=>za (fun K6=>gIf t28 false (lo w5.drew 118 t11 fun t30=>ca yW #[t30,t3] w5.drew fun t32 w10=>
 pp (Op.unary .not t32) fun t33=>K6 [t33] w10) (K6 [undef] w5.drew)) (fun s7 _d8 w9=>
 zb t28 tr_ (s7.getD 0 undef) fun t34=>za (fun K11=>gIf t34 false (lo w9 3 t6 fun t36=>bt .lss 3 t36 (i6 0) fun t37=>K11 [t37] w9) (K11 [undef] w9)) (fun s12 _d13 w14=>
 zb t34 tr_ (s12.getD 0 undef) fun t38=>za (fun K15=>gIf t38 false (lo w14 3 t6 fun t40=>lo w14 118 t11 fun t41=>fa t41 129 0 fun t43=>fl w14 t43 38 4 34 fun t45=>pp (Builtin.len_ #[34] 3 #[t45]) fun t46=>bf .geq 3 t40 t46 fun t47=>K15 [t47] w14) (K15 [undef] w14)) (fun s16 _d17 w18=>
 zb t38 tr_ (s16.getD 0 undef) fun t48=>zc t48 (K (.tuple #[(Value.slice Option.none 0 0),fa_,(i6 2)]) w18) (pp (Instr.makeFunc (.func 84) #[] #[t11,t6]) fun t49=>lo w18 118 t11 fun t50=>fa t50 129 0 fun t52=>fl w18 t52 38 6 36 fun t54=>pp (Builtin.len_ #[36] 3 #[t54]) fun t55=>zo [(Value.slice Option.none 0 0),(Value.slice Option.none 0 0),(i6 0)] w18 (fun s20 _d21 w22 K19=>
 bf .lss 3 (s20.getD 2 undef) t55 fun t57=>zc t57 (za (fun K23=>
 za (fun K27=>
 cv t49 #[(s20.getD 2 undef)] w22 fun t61 w31=>
 zc t61 (pw w31 (Instr.buildSlice 28 1 #[(0,(s20.getD 2 undef))]) fun t64 w32=>
 pw w32 (Builtin.append_ #[28,28] 28 #[(s20.getD 0 undef),t64]) fun t65 w33=>
 K27 [t65] w33) (K27 [(s20.getD 0 undef)] w31)) (fun s28 _d29 w30=>
 lo w30 118 t11 fun t66=>lo w30 3 t6 fun t68=>ca xF #[t66,(s20.getD 2 undef),t68] w30 fun t69 w34=>
 zc t69 (pw w34 (Instr.buildSlice 28 1 #[(0,(s20.getD 2 undef))]) fun t72 w35=>
 pw w35 (Builtin.append_ #[28,28] 28 #[(s20.getD 1 undef),t72]) fun t73 w36=>
 K23 [(s28.getD 0 undef),t73] w36) (K23 [(s28.getD 0 undef),(s20.getD 1 undef)] w34))) (fun s24 _d25 w26=>
 bt .add 3 (s20.getD 2 undef) (i6 1) fun t74=>K19 [(s24.getD 0 undef),(s24.getD 1 undef),t74] w26)) (pp (Builtin.len_ #[28] 3 #[(s20.getD 1 undef)]) fun t76=>zo [(Value.slice Option.none 0 0),fa_,(i6 0)] w22 (fun s38 _d39 w40 K37=>
 bf .lss 3 (s38.getD 2 undef) t76 fun t78=>zc t78 (za (fun K41=>
 xl w40 28 (s20.getD 1 undef) (s38.getD 2 undef) 3 fun t80=>bf .neq 3 t80 t3 fun t83=>za (fun K45=>gIf t83 true (cv t49 #[t3] w40 fun t87 w49=>
 K45 [t87] w49) (K45 [undef] w40)) (fun s46 _d47 w48=>
 zb t83 (s46.getD 0 undef) fa_ fun t88=>zc t88 (K41 [(s38.getD 0 undef),(s38.getD 1 undef)] w48) (lo w48 25 t4 fun t90=>ca Qc #[t90,t1,t3,t80,(s20.getD 0 undef)] w48 fun t95 w50=>
 pe t95 0 fun t96=>pe t95 1 fun t97=>pe t95 2 fun _t98=>za (fun K51=>gIf t97 true (pp (Op.unary .not (s38.getD 1 undef)) fun t102=>K51 [t102] w50) (K51 [undef] w50)) (fun s52 _d53 w54=>
 za (fun K55=>gIf (s52.getD 0 undef) false (pp (Builtin.len_ #[28] 3 #[t96]) fun t105=>pp (Builtin.len_ #[28] 3 #[(s38.getD 0 undef)]) fun t107=>bf .lss 3 t105 t107 fun t108=>K55 [t108] w54) (K55 [undef] w54)) (fun s56 _d57 w58=>
 za (fun K59=>gIf t97 true (zb (s52.getD 0 undef) tr_ (s56.getD 0 undef) fun t109=>K59 [t109] w58) (K59 [undef] w58)) (fun s60 _d61 w62=>
 za (fun K63=>gIf (s60.getD 0 undef) false (pp (Builtin.len_ #[28] 3 #[t96]) fun t112=>pp (Builtin.len_ #[28] 3 #[(s38.getD 0 undef)]) fun t114=>bf .eql 3 t112 t114 fun t115=>K63 [t115] w62) (K63 [undef] w62)) (fun s64 _d65 w66=>
 za (fun K67=>gIf (s64.getD 0 undef) true (ca xH #[t96,(s38.getD 0 undef)] w66 fun t119 w71=>
 bt .lss 3 t119 (i6 0) fun t120=>K67 [t120] w71) (K67 [undef] w66)) (fun s68 _d69 w70=>
 za (fun K72=>gIf (s60.getD 0 undef) false (zb (s64.getD 0 undef) (s68.getD 0 undef) fa_ fun t121=>K72 [t121] w70) (K72 [undef] w70)) (fun s73 _d74 w75=>
 za (fun K76=>gIf t97 true (zb (s60.getD 0 undef) tr_ (s73.getD 0 undef) fun t122=>K76 [t122] w75) (K76 [undef] w75)) (fun s77 _d78 w79=>
 zb t97 (s77.getD 0 undef) fa_ fun t123=>zc t123 (K41 [t96,tr_] w79) (K41 [(s38.getD 0 undef),(s38.getD 1 undef)] w79))))))))))) (fun s42 _d43 w44=>
 bt .add 3 (s38.getD 2 undef) (i6 1) fun t125=>K37 [(s42.getD 0 undef),(s42.getD 1 undef),t125] w44)) (K (.tuple #[(s38.getD 0 undef),(s38.getD 1 undef),(i6 0)]) w40))))))))
theorem af5 {t0 t1 t2 t3 : Value} {w : World} {K : VW} (h : abV t0 t1 t2 t3 w K) : zd prog Z9 #[t0,t1,t2,t3] w K:=
 okC false (.s (.r (rz 5 0 10)) (.s (.r (rz 9 0 40993)) (.s (.s (.r (ra 3 0 0 (.grp 29 false (ri 4 3 33) [33] (ra 2 7 0 (.grp 35 false (ri 2 9 1) [37] (ra 2 11 0 (.grp 39 false (ri 8 13 1029) [47] (rz 1 21 0)))))))) (.c (.s (.r (rz 3 0 0)) (.n)) (.n))) (.s (.r (rz 2 0 0)) (.s (.r (rz 2 0 0)) (.s (.s (.r (rz 7 0 257)) (.b (.lp [13,14,56] (.s (.r (rz 1 0 0)) (.s (.c (.n) (.n)) (.j [13,14] (.b (.s (.r (rz 2 0 0)) (.j [13] (.s (.r (rz 3 0 32)) (.c (.r (rz 5 0 160)) (.n))) (.s (.r (rz 4 0 145)) (.c (.r (rz 5 0 160)) (.n)))))) (.r (rz 2 0 0)))))))) (.s (.s (.r (rz 3 0 0)) (.b (.lp [8,9,77] (.s (.r (rz 1 0 0)) (.s (.c (.n) (.n)) (.j [8,9] (.b (.s (.r (rz 3 0 4)) (.s (.s (.r (ra 4 0 0 (.grp 84 true (ri 3 4 32) [87] (rz 1 7 0)))) (.c (.n) (.n))) (.s (.r (rz 13 0 2049)) (.s (.r (ra 2 0 0 (.grp 100 true (ri 3 2 0) [103] (.grp 103 false (ri 5 5 0) [108] (.grp 100 true (ri 2 10 0) [110] (.grp 110 false (ri 6 12 0) [116] (.grp 116 true (ri 4 18 32) [120] (.grp 110 false (ri 1 22 0) [121] (.grp 100 true (ri 1 23 0) [122] (rz 1 24 0)))))))))) (.c (.r (rz 3 0 0)) (.n))))))) (.r (rz 2 0 0)))))))) (.s (.r (rz 5 0 0)) (.n))))))))) func46 rfl (by kernel_rfl) (by kernel_rfl) h
def JW (t0 t1 t2 : Value) (w : World) (K : VW) : Prop:=
 lo w 118 t1 fun t8=>ca xG #[t8,t0] w fun t10 w1=>
 pe t10 0 fun t11=>pe t10 1 fun t12=>za (fun K2=>gIf t12 true (lo w1 3 t2 fun t16=>bf .eql 3 t11 t16 fun t17=>K2 [t17] w1) (K2 [undef] w1)) (fun s3 _d4 w5=>
 zb t12 (s3.getD 0 undef) fa_ fun t18=>K t18 w5)
theorem ad7 {t0 t1 t2 : Value} {w : World} {K : VW} (h : JW t0 t1 t2 w K) : zd prog JT #[t0,t1,t2] w K:=
 okC false (.s (.r (rz 1 0 0)) (.s (.r (rz 8 0 33)) (.s (.r (ra 2 0 0 (.grp 14 true (ri 3 2 4) [17] (rz 2 5 0)))) (.n)))) func84 rfl (by kernel_rfl) (by kernel_rfl) h
def QR (t0 t1 t2 : Value) (w : World) (K : VW) : Prop:=
 pw w (Instr.box 25 t0) fun t3 w1=>
 lo w1 25 t3 fun t19=>ca kA #[t19,t1] w1 fun t21 w2=>
 pe t21 0 fun t22=>pe t21 1 fun t23=>pw w2 (Instr.alloc 118 true (.tuple #[])) fun t10 w3=>
 so w3 118 t10 t22 fun w4=>bt .neq 29 t23 (i6 0) fun t25=>za (fun K5=>gIf t25 false (pp (Builtin.len_ #[63] 3 #[t2]) fun t28=>lo w4 118 t10 fun t29=>fa t29 129 0 fun t31=>fl w4 t31 38 4 34 fun t33=>pp (Builtin.len_ #[34] 3 #[t33]) fun t34=>bf .neq 3 t28 t34 fun t35=>K5 [t35] w4) (K5 [undef] w4)) (fun s6 _d7 w8=>
 zb t25 tr_ (s6.getD 0 undef) fun t36=>za (fun K9=>gIf t36 false (pp (Instr.makeFunc (.func 88) #[] #[t10]) fun t39=>ca yn #[t2,t39] w8 fun t40 w13=>
 K9 [t40] w13) (K9 [undef] w8)) (fun s10 _d11 w12=>
 zb t36 tr_ (s10.getD 0 undef) fun t41=>zc t41 (K (.tuple #[(i6 0),(i6 0),fa_,(i6 2)]) w12) (pp (Builtin.len_ #[63] 3 #[t2]) fun t43=>zo [(i6 0)] w12 (fun s15 _d16 w17 K14=>
 bf .lss 3 (s15.getD 0 undef) t43 fun t45=>zc t45 (xl w17 63 t2 (s15.getD 0 undef) 72 fun t48=>pw w17 (Instr.alloc 72 true (.tuple #[])) fun t12 w18=>
 so w18 72 t12 t48 fun w19=>pp (Instr.makeFunc (.func 90) #[] #[t12]) fun t49=>lo w19 118 t10 fun t50=>fa t50 129 0 fun t52=>fl w19 t52 38 6 36 fun t54=>pp (Builtin.len_ #[36] 3 #[t54]) fun t55=>zo [(i6 0)] w19 (fun s21 _d22 w23 K20=>
 bf .lss 3 (s21.getD 0 undef) t55 fun t57=>zc t57 (lo w23 118 t10 fun t60=>ca xG #[t60,(s21.getD 0 undef)] w23 fun t62 w24=>
 pe t62 0 fun t63=>pe t62 1 fun t64=>pp (Op.unary .not t64) fun t66=>za (fun K25=>gIf t66 false (bf .neq 3 t63 (s15.getD 0 undef) fun t70=>K25 [t70] w24) (K25 [undef] w24)) (fun s26 _d27 w28=>
 zb t66 tr_ (s26.getD 0 undef) fun t71=>za (fun K29=>gIf t71 true (lo w28 118 t10 fun t73=>ff w28 t73 129 1 97 fun t76=>xl w28 97 t76 (s21.getD 0 undef) 28 fun t79=>ca zR #[t79,t49] w28 fun t81 w33=>
 K29 [t81] w33) (K29 [undef] w28)) (fun s30 _d31 w32=>
 zb t71 (s30.getD 0 undef) fa_ fun t82=>za (fun K34=>gIf t82 false (lo w32 118 t10 fun t85=>ca xF #[t85,(s21.getD 0 undef),(s15.getD 0 undef)] w32 fun t88 w38=>
 K34 [t88] w38) (K34 [undef] w32)) (fun s35 _d36 w37=>
 zb t82 tr_ (s35.getD 0 undef) fun t89=>za (fun K39=>gIf t89 true (cv t49 #[(s21.getD 0 undef)] w37 fun t93 w43=>
 pp (Op.unary .not t93) fun t94=>K39 [t94] w43) (K39 [undef] w37)) (fun s40 _d41 w42=>
 zb t89 (s40.getD 0 undef) fa_ fun t95=>zc t95 (K (.tuple #[(s15.getD 0 undef),(s21.getD 0 undef),fa_,(i6 0)]) w42) (bt .add 3 (s21.getD 0 undef) (i6 1) fun t98=>K20 [t98] w42)))))) (bt .add 3 (s15.getD 0 undef) (i6 1) fun t99=>K14 [t99] w23))) (K (.tuple #[(i6 0),(i6 0),tr_,(i6 0)]) w17)))))
theorem acN {t0 t1 t2 : Value} {w : World} {K : VW} (h : QR t0 t1 t2 w K) : zd prog jx #[t0,t1,t2] w K:=
 okC false (.s (.r (rz 5 0 2)) (.s (.r (rz 9 0 40993)) (.s (.s (.r (ra 3 0 0 (.grp 26 false (ri 9 3 4112) [35] (ra 2 12 0 (.grp 37 false (ri 3 14 32) [40] (rz 1 17 0)))))) (.c (.s (.r (rz 4 0 0)) (.n)) (.n))) (.s (.s (.r (rz 3 0 0)) (.b (.lp [44] (.s (.r (rz 1 0 0)) (.s (.c (.n) (.n)) (.s (.b (.s (.r (rz 6 0 2192)) (.s (.r (rz 2 0 0)) (.s (.r (rz 7 0 257)) (.b (.lp [56] (.s (.r (rz 1 0 0)) (.s (.c (.n) (.n)) (.s (.b (.s (.r (rz 2 0 0)) (.s (.r (rz 8 0 33)) (.s (.r (ra 3 0 0 (.grp 67 false (ri 3 3 0) [70] (ra 2 6 0 (.grp 72 true (ri 9 8 135233) [81] (rz 2 17 0)))))) (.s (.r (ra 2 0 0 (.grp 84 false (ri 4 2 129) [88] (ra 2 6 0 (.grp 90 true (ri 4 8 32) [94] (rz 1 12 0)))))) (.c (.s (.r (rz 6 0 0)) (.n)) (.n))))))) (.r (rz 2 0 0))))))))))) (.r (rz 2 0 0)))))))) (.s (.r (rz 4 0 0)) (.n)))))) func47 rfl (by kernel_rfl) (by kernel_rfl) h
def Xo (t0 t1 : Value) (w : World) (K : VW) : Prop:=
 pw w (Instr.box 72 t0) fun t2 w1=>
 lo w1.drew 72 t2 fun t4=>ca Qu #[t4] w1.drew fun t5 w2=>
 pp (Op.unary .not t5) fun t6=>za (fun K3=>gIf t6 false (fl w2 t2 72 0 3 fun t9=>lo w2 118 t1 fun t10=>fa t10 129 0 fun t12=>fl w2 t12 38 6 36 fun t14=>pp (Builtin.len_ #[36] 3 #[t14]) fun t15=>bf .neq 3 t9 t15 fun t16=>K3 [t16] w2) (K3 [undef] w2)) (fun s4 _d5 w6=>
 zb t6 tr_ (s4.getD 0 undef) fun t17=>K t17 w6)
theorem aaO {t0 t1 : Value} {w : World} {K : VW} (h : Xo t0 t1 w K) : zd prog Xm #[t0,t1] w K:=
 okC false (.s (.r (rz 2 0 2)) (.s (.r (ra 4 0 9 (.grp 7 false (ri 9 4 4116) [16] (rz 2 13 0)))) (.n))) func88 rfl (by kernel_rfl) (by kernel_rfl) h
def Xp (t0 t1 : Value) (w : World) (K : VW) : Prop:=
 fl w t1 72 1 70 fun t5=>bt .quo 3 t0 (i6 64) fun t7=>xl w 70 t5 t7 76 fun t9=>bt .rem 3 t0 (i6 64) fun t11=>bf .shr 76 t9 t11 fun t12=>bt .and 76 t12 (Value.int .u64 1) fun t13=>bt .eql 76 t13 (Value.int .u64 1) fun t14=>K t14 w
theorem aaP {t0 t1 : Value} {w : World} {K : VW} (h : Xp t0 t1 w K) : zd prog Xn #[t0,t1] w K:=
 okC false (.s (.r (rz 1 0 0)) (.s (.r (rz 12 0 1028)) (.n))) func90 rfl (by kernel_rfl) (by kernel_rfl) h
end Go.Proofs.Tryz
end
section
namespace Go.Proofs.Tryz
open Go.Sh
set_option maxRecDepth 100000
def xk (t0 t1 : Value) (w : World) (K : VW) : Prop:=
 ca yH #[t0,t1] w fun t7 w1=>
 bt .geq 3 t7 (i6 0) fun t8=>K t8 w1
theorem qG {t0 t1 : Value} {w : World} {K : VW} (h : xk t0 t1 w K) : zd prog yu #[t0,t1] w K:=
 okC false (.s (.r (rz 1 0 0)) (.s (.r (rz 5 0 32)) (.n))) func111 rfl (by kernel_rfl) (by kernel_rfl) h
def xI (t0 t1 : Value) (w : World) (K : VW) : Prop:=
 pp (Builtin.len_ #[79] 3 #[t0]) fun t7=>zo [(i6 0)] w (fun s2 _d3 w4 K1=>
 bf .lss 3 (s2.getD 0 undef) t7 fun t9=>zc t9 (xl w4 79 t0 (s2.getD 0 undef) 153 fun t15=>bf .eql 153 t1 t15 fun t16=>zc t16 (K (s2.getD 0 undef) w4) (bt .add 3 (s2.getD 0 undef) (i6 1) fun t18=>K1 [t18] w4)) (K (i6 (-1)) w4))
theorem jm {t0 t1 : Value} {w : World} {K : VW} (h : xI t0 t1 w K) : zd prog yH #[t0,t1] w K:=
 okC false (.s (.r (rz 1 0 0)) (.s (.s (.r (rz 3 0 0)) (.b (.lp [8] (.s (.r (rz 1 0 0)) (.s (.c (.n) (.n)) (.s (.b (.s (.r (rz 2 0 0)) (.s (.r (rz 6 0 256)) (.c (.s (.r (rz 2 0 0)) (.n)) (.n))))) (.r (rz 2 0 0)))))))) (.s (.r (rz 1 0 0)) (.n)))) func134 rfl (by kernel_rfl) (by kernel_rfl) h
def qH (t0 t1 : Value) (w : World) (K : VW) : Prop:=
 pp (Builtin.len_ #[28] 3 #[t0]) fun t10=>zo [(i6 0)] w (fun s2 _d3 w4 K1=>
 bf .lss 3 (s2.getD 0 undef) t10 fun t12=>zc t12 (xl w4 28 t0 (s2.getD 0 undef) 3 fun t15=>pp (Builtin.len_ #[28] 3 #[t1]) fun t18=>bf .geq 3 (s2.getD 0 undef) t18 fun t19=>zc t19 (K (i6 1) w4) (xl w4 28 t1 (s2.getD 0 undef) 3 fun t23=>ca qZ #[t15,t23] w4 fun t26 w5=>
 bt .neq 3 t26 (i6 0) fun t28=>zc t28 (K t26 w5) (bt .add 3 (s2.getD 0 undef) (i6 1) fun t30=>K1 [t30] w5))) (pp (Builtin.len_ #[28] 3 #[t0]) fun t32=>pp (Builtin.len_ #[28] 3 #[t1]) fun t34=>bf .lss 3 t32 t34 fun t35=>zc t35 (K (i6 (-1)) w4) (K (i6 0) w4)))
theorem Yb {t0 t1 : Value} {w : World} {K : VW} (h : qH t0 t1 w K) : zd prog xH #[t0,t1] w K:=
 okC false (.s (.r (rz 1 0 0)) (.s (.s (.r (rz 3 0 0)) (.b (.lp [11] (.s (.r (rz 1 0 0)) (.s (.c (.n) (.n)) (.s (.b (.s (.r (rz 5 0 16)) (.s (.s (.r (rz 4 0 0)) (.c (.s (.r (rz 1 0 0)) (.n)) (.n))) (.s (.r (rz 5 0 64)) (.s (.r (rz 4 0 32)) (.s (.r (rz 2 0 0)) (.c (.s (.r (rz 2 0 0)) (.n)) (.n)))))))) (.r (rz 2 0 0)))))))) (.s (.s (.r (rz 5 0 0)) (.c (.s (.r (rz 1 0 0)) (.n)) (.n))) (.s (.r (rz 1 0 0)) (.n))))) func86 rfl (by kernel_rfl) (by kernel_rfl) h
def xe (t0 t1 : Value) (w : World) (K : VW) : Prop:=
 ca yB #[t0,t1] w fun t7 w1=>
 bt .geq 3 t7 (i6 0) fun t8=>K t8 w1
theorem k0 {t0 t1 : Value} {w : World} {K : VW} (h : xe t0 t1 w K) : zd prog yn #[t0,t1] w K:=
 okC false (.s (.r (rz 1 0 0)) (.s (.r (rz 5 0 32)) (.n))) func87 rfl (by kernel_rfl) (by kernel_rfl) h
def xr (t0 t1 : Value) (w : World) (K : VW) : Prop:=
 pp (Builtin.len_ #[63] 3 #[t0]) fun t7=>zo [(i6 0)] w (fun s2 _d3 w4 K1=>
 bf .lss 3 (s2.getD 0 undef) t7 fun t9=>zc t9 (xl w4 63 t0 (s2.getD 0 undef) 72 fun t15=>cv t1 #[t15] w4 fun t16 w5=>
 zc t16 (K (s2.getD 0 undef) w5) (bt .add 3 (s2.getD 0 undef) (i6 1) fun t18=>K1 [t18] w5)) (K (i6 (-1)) w4))
theorem qV {t0 t1 : Value} {w : World} {K : VW} (h : xr t0 t1 w K) : zd prog yB #[t0,t1] w K:=
 okC false (.s (.r (rz 1 0 0)) (.s (.s (.r (rz 3 0 0)) (.b (.lp [8] (.s (.r (rz 1 0 0)) (.s (.c (.n) (.n)) (.s (.b (.s (.r (rz 2 0 0)) (.s (.r (rz 6 0 2304)) (.c (.s (.r (rz 2 0 0)) (.n)) (.n))))) (.r (rz 2 0 0)))))))) (.s (.r (rz 1 0 0)) (.n)))) func114 rfl (by kernel_rfl) (by kernel_rfl) h
end Go.Proofs.Tryz
end
section
namespace Go.Proofs
open Go.Sh Go.RowKit
set_option maxRecDepth 100000
set_option linter.unusedSimpArgs false
set_option linter.unusedVariables false
def lkP (p : PtD) : List Int:=(if p.op=14 then [] else [p.nx])++(if p.op=12 then [p.el] else [])
theorem agG {p : PtD} {x : Int} : x ∈ lkP p↔x ∈ xj p:=by
 rw [lkP,xj]
 by_cases h14 : p.op=14
 ·rw [if_pos h14,if_pos h14,if_neg (by omega)];rfl
 ·rw [if_neg h14,if_neg h14]
  by_cases h12 : p.op=12
  ·rw [if_pos h12]
   by_cases e : p.nx=p.el
   ·rw [if_neg (fun h=>h.2 e)];simp [e]
   ·rw [if_pos ⟨h12,e⟩];simp
  ·rw [if_neg h12,if_neg (fun h=>h12 h.1)];simp
def lkN (g : GrD) : zz:=g.pts.map lkP
theorem Vo {g : GrD} : (lkN g).length=(zh g).length:=by rw [lkN,zh,List.length_map,List.length_map]
def LookG (r : Gh) (v : Value) (g : GrD) : Prop:=∃ b x1 x2 x3 x4 y1 y2 y3 y4 vn,v = .pointer (some ⟨b,0,none⟩)∧GrG r (grL g x1 x2 x3 x4 y1 y2 y3 y4) g∧NetG r vn (lkN g)∧
 (∀ j u,(grL g x1 x2 x3 x4 y1 y2 y3 y4 ++ [vn])[j]? = some u→Ob r fun w=>w.cell? ⟨b,j,none⟩=some u)
theorem LookG.up {r s : Gh} {v : Value} {g : GrD} (h : LookG r v g) [le : Le r s] : LookG s v g:=by
 obtain ⟨b,x1,x2,x3,x4,y1,y2,y3,y4,vn,h1,h2,h3,h4⟩:=h
 exact ⟨b,x1,x2,x3,x4,y1,y2,y3,y4,vn,h1,GrG.up h2,h3.up,fun j u hj=>(h4 j u hj).up⟩
set_option maxHeartbeats 2000000 in
theorem jX {u : UnD} {n : Int} {v : Value} {w : World} {r : Gh} {K : Value→World→Prop} (hr : Holds r w) (hu : UnG r v u)
  (h : ∀ v' s w',Ext w w'→New w s w'→(fnE u n=0→∃ g,u.fs[n.toNat]? = some g∧netU u n=zh g∧LookG (r.or s) v' g)→(fnE u n≠0→v' = .pointer none)→K (.tuple #[v',.int .i64 (fnE u n)]) w') : zd Tryz.prog Tryz.kA #[v,.int .i64 n] w K:=by
 refine Tryz.ahj ?_
 unfold Tryz.adu
 have hu0:=hu
 obtain ⟨p0,cap0,vf,rfl,_,_,hst,hsl,hfn⟩:=hu
 obtain ⟨qf,capf,rfl,_,_⟩:=hfn.sl.shape
 have S:=St.start hr
 refine S.box fun b2 w1 S=>?_
 have S : StX noX w r w1 [.cell b2 [.slice p0 u.ss.length cap0,.slice qf u.fs.length capf,.int .i64 u.mn] 25]:=S
 refine gp_ ?_
 refine zj (c:=decide ((u.fs.length : Int)≤n)) (fun _ K2 hK2=>by refine gg_ ?_;exact hK2) ?_
 refine yJ (c:=!vV u) (fun _ K2 hK2=>?_) fun w5 e5=>?_
 ·refine S.ldB (b:=b2) ?_ rfl
  refine VU S.holds hu0 fun w5 e5=>?_
  refine gp_ ?_
  exact hK2 _ e5
 have S:=S.go e5
 refine c_b (fun hbad=>?_) (fun hgood=>?_)
 ·have hE : fnE u n=2:=by rw [fnE,if_pos hbad]
  rw [hE] at h
  exact h _ nothing _ S.ext New.nothing (fun h=>by cases h) fun _=>rfl
 have hE : fnE u n=0:=by rw [fnE,if_neg (by rw [hgood];simp)]
 rw [hE] at h
 obtain ⟨hM,hn0,hlt⟩:=Ju hE
 simp only [Bool.or_eq_false_iff,decide_eq_false_iff_not,Bool.not_eq_false'] at hgood
 obtain ⟨⟨_,hn1⟩,_⟩:=hgood
 obtain ⟨bf,of,cf,hqE,hcf,hgc,hfo⟩:=hfn.sl.get (by decide) hlt
 cases hqE
 have hp24:=(hM.hd hlt).pt1024
 have hgi : u.fs[n.toNat]? = some u.fs[n.toNat]:=List.getElem?_eq_getElem hlt
 have hnu : netU u n=zh u.fs[n.toNat]:=by rw [netU,hgi]
 generalize u.fs[n.toNat]=g at hgc hp24 hgi hnu
 obtain ⟨x1,x2,x3,x4,y1,y2,y3,y4,rfl,hg0⟩:=jT hgc
 obtain ⟨_,_,_,_,hEE,m1,m2,m3,m4⟩:=id hg0
 cases hEE
 refine gg_ ?_
 refine zq (n:=7) rfl (fun j v hj=>S.at (hfo j v hj)) ?_
 refine gg_ ?_
 refine S.box fun bx w6 S=>?_
 have S:=S.ownNil 28 1
 have S : StX noX w (r.or nothing) w6 [.row (.slice none 0 0) 28 1 0 [],.cell bx (grL g x1 x2 x3 x4 y1 y2 y3 y4 ++ [.slice none 0 0]) 129,.cell b2 [.slice p0 u.ss.length cap0,.slice (some ⟨bf,of,none⟩) u.fs.length capf,.int .i64 u.mn] 25]:=S.less (fun b o h=>h.elim id fun h=>h.elim) (List.Sublist.refl _)
 refine gg_ ?_
 refine zi (ι:=Nat × Value × Gh × List Value) (fun i=>[.int .i64 (i.1 : Nat)])
  (fun i w'=>i.1≤g.pts.length∧Above w i.2.2.1∧RowOf 1 (RowC i.2.2.1) i.2.2.2 ((lkN g).take i.1)∧StX noX w (r.or i.2.2.1) w' [.row i.2.1 28 1 i.1 i.2.2.2,.cell bx (grL g x1 x2 x3 x4 y1 y2 y3 y4 ++ [i.2.1]) 129,.cell b2 [.slice p0 u.ss.length cap0,.slice (some ⟨bf,of,none⟩) u.fs.length capf,.int .i64 u.mn] 25])
  (fun i=>g.pts.length - i.1) (0,.slice none 0 0,nothing,[]) rfl ⟨Nat.zero_le _,Above.no,by simpa using RowOf.nil,S⟩ ?_
 repeat clear S
 rintro ⟨i,vr,s,xs⟩ d w7 ⟨hi,ha,hR,S⟩ K11 hK11
 simp only at hi ha hR S ⊢
 simp only [List.getD_cons_zero,List.getD_cons_succ]
 refine gg_ ?_
 refine zk (fun hlt2=>?_) (fun hge=>?_)
 ·have hlt2 : i<g.pts.length:=by omega
  have hil : i<(lkN g).length:=by rw [Vo,zS];exact hlt2
  obtain ⟨bp,op,cp,hqp,hcp,hpc,hpo⟩:=m4.sl.get (by decide) hlt2
  rw [hqp]
  have hni : (lkN g)[i]=lkP g.pts[i]:=by simp [lkN]
  have htk : (lkN g).take (i+1)=(lkN g).take i ++ [lkP g.pts[i]]:=by rw [List.take_succ_eq_append_getElem hil,hni]
  generalize g.pts[i]=p at hpc htk
  obtain ⟨z1,z2,z3,z4,z5,t1,t2,t3,t4,t5,rfl,hp0⟩:=yN hpc
  refine gg_ ?_
  refine zq (n:=21) hcp (fun j v hj=>by rw [Int.toNat_natCast];exact S.at (hpo j v hj)) ?_
  refine S.al fun b8 w7 S=>?_
  refine S.stB (b:=b8) fun w8 S=>?_
  have S:=S.ownNil 3 1
  have S : StX noX w (r.or s) w8 [.row (.slice none 0 0) 3 1 ([] : List Int).length (ints []),.cell b8 (ptL p z1 z2 z3 z4 z5 t1 t2 t3 t4 t5) 87,.row vr 28 1 i xs,.cell bx (grL g x1 x2 x3 x4 y1 y2 y3 y4 ++ [vr]) 129,.cell b2 [.slice p0 u.ss.length cap0,.slice (some ⟨bf,of,none⟩) u.fs.length capf,.int .i64 u.mn] 25]:=S
  refine zp (fun x w'=>∃ v1,x = [v1]∧StX noX w (r.or s) w' [.row v1 3 1 (if p.op=14 then [] else [p.nx]).length (ints (if p.op=14 then [] else [p.nx])),.cell b8 (ptL p z1 z2 z3 z4 z5 t1 t2 t3 t4 t5) 87,.row vr 28 1 i xs,.cell bx (grL g x1 x2 x3 x4 y1 y2 y3 y4 ++ [vr]) 129,.cell b2 [.slice p0 u.ss.length cap0,.slice (some ⟨bf,of,none⟩) u.fs.length capf,.int .i64 u.mn] 25]) (fun K18 hK18=>?_) ?_
  ·refine gg_ ?_
   refine zk (fun h14=>?_) (fun h14=>?_)
   ·rw [if_neg h14] at hK18
    refine gg_ ?_
    refine S.lit (e:=3) (cs:=[.int .i64 p.nx]) (by kernel_rfl) fun b9 w9 S=>?_
    refine S.ap (v:=.slice none 0 0) (m':=1) (Sl.blk (S.blk b9)) (fun v4 w10 S=>?_) (by decide)
    exact hK18 _ _ ⟨v4,rfl,S.drop b9⟩
   ·rw [if_pos (Decidable.not_not.1 h14)] at hK18
    exact hK18 _ _ ⟨_,rfl,S⟩
  repeat clear S
  rintro _ w9 ⟨v1,rfl,S⟩ d
  rw [List.getD_cons_zero]
  generalize hl1 : (if p.op=14 then [] else [p.nx])=l1 at S
  have hl1f : l1.length≤1:=by rw [← hl1];split<;>simp
  refine zp (fun x w'=>∃ v2,x = [v2]∧StX noX w (r.or s) w' [.row v2 3 1 (lkP p).length (ints (lkP p)),.cell b8 (ptL p z1 z2 z3 z4 z5 t1 t2 t3 t4 t5) 87,.row vr 28 1 i xs,.cell bx (grL g x1 x2 x3 x4 y1 y2 y3 y4 ++ [vr]) 129,.cell b2 [.slice p0 u.ss.length cap0,.slice (some ⟨bf,of,none⟩) u.fs.length capf,.int .i64 u.mn] 25]) (fun K24 hK24=>?_) ?_
  ·refine gg_ ?_
   refine zk (fun h12=>?_) (fun h12=>?_)
   ·have e : lkP p=l1 ++ [p.el]:=by rw [lkP,hl1,if_pos h12]
    rw [e,List.length_append,yX] at hK24
    refine gg_ ?_
    refine S.lit (e:=3) (cs:=[.int .i64 p.el]) (by kernel_rfl) fun b9 w10 S=>?_
    refine S.ap (v:=v1) (m':=1) (Sl.blk (S.blk b9)) (fun v4 w11 S=>?_) (by omega)
    exact hK24 _ _ ⟨v4,rfl,S.drop b9⟩
   ·have e : lkP p=l1:=by rw [lkP,hl1,if_neg h12,List.append_nil]
    rw [e] at hK24
    exact hK24 _ _ ⟨_,rfl,S⟩
  repeat clear S
  rintro _ w10 ⟨v2,rfl,S⟩ d
  rw [List.getD_cons_zero]
  have hlf : (lkP p).length≤2:=by
   rw [lkP,List.length_append]
   split<;>split<;>simp
  generalize lkP p=l2 at S htk hlf
  obtain ⟨s2,T,hs2,_,ha2⟩:=S.doneRow yk (by decide) rfl
  repeat clear S
  have ha2 : Above w s2:=fun b o ho=>(ha2 b o ho).resolve_right id
  obtain ⟨q2,c2,rfl,_,_⟩:=hs2.shape
  have S:=T.reGh
  clear T
  have S:=S.drop b8
  refine gg_ ?_
  refine S.lit (e:=28) (cs:=[.slice q2 l2.length c2]) (by kernel_rfl) fun b10 w11 S=>?_
  refine S.ap (v:=vr) (m':=1) (Sl.blk (S.blk b10)) (fun v4 w12 S=>?_) (by omega)
  have S:=S.drop b10
  refine gg_ ?_
  refine S.st (b:=bx) (fun w13 S=>?_) (by simp) (S.row1 v4)
  refine gg_ ?_
  refine hK11 (i+1,v4,s.or s2,xs ++ [.slice q2 l2.length c2]) _ ⟨hlt2,ha.or' ha2,?_,S⟩ (by show g.pts.length - (i+1)<g.pts.length - i;omega)
  show RowOf 1 (RowC (s.or s2)) (xs ++ [.slice q2 l2.length c2]) ((lkN g).take (i+1))
  rw [htk]
  exact (hR.mono fun _ _ h=>RowC.up h).snoc rfl ⟨_,rfl,hs2.cells,by show l2.length≤maxLen;rw [maxLen];omega⟩
 have hie : i=g.pts.length:=by omega
 clear hK11 K11 hge hi
 subst hie
 have hlk : (lkN g).length=g.pts.length:=by rw [Vo,zS]
 rw [← hlk,List.take_length] at hR
 rw [← hlk] at S
 obtain ⟨s2,T,hs,_,hab⟩:=S.doneRow hR (by decide) rfl
 repeat clear S
 have hab : Above w s2:=fun b o ho=>(hab b o ho).resolve_right id
 have hbx:=(T.mine (.cell bx (grL g x1 x2 x3 x4 y1 y2 y3 y4 ++ [vr]) 129) (by simp) bx rfl).1.resolve_right id
 have T:=T.reGh.frzAt bx
 have ab3 : Above w (Go.Sh.one bx (grL g x1 x2 x3 x4 y1 y2 y3 y4 ++ [vr]) 129):=by rintro b o ⟨rfl,_⟩;exact hbx
 refine h _ ((s.or s2).or (Go.Sh.one bx (grL g x1 x2 x3 x4 y1 y2 y3 y4 ++ [vr]) 129)) _ T.ext (StX.newOf (q:=(s.or s2).or (Go.Sh.one bx (grL g x1 x2 x3 x4 y1 y2 y3 y4 ++ [vr]) 129)) T.reGh ((ha.or' hab).or' ab3)) (fun _=>⟨g,hgi,hnu,bx,x1,x2,x3,x4,y1,y2,y3,y4,vr,rfl,hg0.up,⟨hs.up' inferInstance fun _ _ h=>RowC.up h,by rw [hlk];exact Nat.le_trans hp24 (by decide)⟩,fun j u hj w' hw'=>?_⟩) fun h=>absurd rfl h
 have B : Blk w' bx (grL g x1 x2 x3 x4 y1 y2 y3 y4 ++ [vr]) 129:=zJ w' (hw'.le (h:=inferInstance))
 show w'.cell? ⟨bx,j,none⟩=some u
 rw [B.cell]
 exact hj
end Go.Proofs
end
section
namespace Go.Sh
open Go.RowKit
def Drt (X : Nat→Prop) (n : Nat) (r : Gh) (W : World) (L : List Asr) (D : Nat→Prop) : Prop:=
 ∀ d,D d→(n≤d∨X d)∧d<W.heap.size∧(∀ o,¬ r d o)∧¬ xY L d
structure Cbk (P : Program) (f : Value) (xs : List Int) (J : Nat→(Nat→Prop)→World→Prop) (Jx : World→Prop) : Prop where
 ext : ∀ k D W1 W2,J k D W1→Ext W1 W2→J k D W2
 extx : ∀ W1 W2,Jx W1→Ext W1 W2→Jx W2
 call : ∀ k D W x,xs[k]? = some x→J k D W→∀ K1 : Value→World→Prop,
  (∀ (b : Bool) W2,ExtBut D W W2→(if b=true then ∃ D2 : Nat→Prop,(∀ d,D2 d→D d∨(W.heap.size≤d∧d<W2.heap.size))∧J (k+1) D2 W2 else Jx W2)→K1 (.bool b) W2)→zK P f #[.int .i64 x] W K1
section
variable {P : Program} {X : Nat→Prop} {w0 w w' : World} {r : Gh} {L : List Asr} {D D2 : Nat→Prop} {n : Nat}
theorem StX.dirty (S : StX X w0 r w L) (e : ExtBut D w w') (hd : Drt X w0.heap.size r w L D) : StX X w0 r w' L:=
 ⟨S.x.but e fun k hk=>(hd k hk).1,S.holds.but e fun b o hb hk=>(hd b hk).2.2.1 o hb,
  fun x hx=>Asr.keep (S.has x hx) fun k hk=>e.block k (Asr.lt (S.has x hx) hk) fun hD=>(hd k hD).2.2.2 (xZ.2 ⟨x,hx,hk⟩),S.mine,S.apart⟩
theorem Drt.next (S : StX X w0 r w L) (hd : Drt X w0.heap.size r w L D) (e : w.heap.size≤w'.heap.size) (h2 : ∀ d,D2 d→D d∨(w.heap.size≤d∧d<w'.heap.size)) : Drt X w0.heap.size r w' L D2:=fun d hD=>by
 rcases h2 d hD with h|⟨h3,h4⟩
 ·obtain ⟨h5,h6,h7,h8⟩:=hd d h
  exact ⟨h5,by omega,h7,h8⟩
 ·have:=S.x.size
  refine ⟨.inl (by omega),h4,fun o ho=>?_,fun hm=>?_⟩
  ·have:=S.holds.lt ho;omega
  ·have:=S.dlt hm;omega
theorem Drt.more (hd : Drt X n r w L D) (e : w.heap.size≤w'.heap.size) : Drt X n r w' L D:=fun d hD=>by
 obtain ⟨h5,h6,h7,h8⟩:=hd d hD
 exact ⟨h5,by omega,h7,h8⟩
theorem StX.open (S : StX noX w0 r w L) (X : Nat→Prop) : StX X w0 r w L:=
 ⟨⟨S.x.os,S.x.tape,S.x.output,S.x.size,fun k hk _=>S.x.block k hk fun h=>h⟩,S.holds,S.has,fun x hx k hk=>⟨.inl ((S.mine x hx k hk).1.resolve_right fun h=>h),(S.mine x hx k hk).2⟩,S.apart⟩
end
end Go.Sh
end
section
namespace Go.Proofs
open Go.Sh Go.RowKit
set_option maxRecDepth 100000
set_option linter.unusedSimpArgs false
set_option linter.unusedVariables false
theorem vB {g : GrD} {q : Int} {v : Value} {w : World} {r : Gh} {K : Value→World→Prop} (hr : Holds r w) (hx : LookG r v g)
  (h : K (.bool (decide (isN (zh g) q))) w) : zd Tryz.prog Tryz.yW #[v,.int .i64 q] w K:=by
 refine Tryz.JU ?_
 unfold Tryz.Z0
 obtain ⟨b,x1,x2,x3,x4,y1,y2,y3,y4,vn,rfl,hg,hn,hc⟩:=hx
 have e : (decide (0≤q)&&decide (q<(g.pts.length : Int)))=decide (isN (zh g) q):=by
  rw [Bool.eq_iff_iff,Bool.and_eq_true,decide_eq_true_eq,decide_eq_true_eq,decide_eq_true_eq,isN,zS]
 rw [← e] at h
 refine gg_ ?_
 refine zf (c:=decide (q<(g.pts.length : Int))) (fun _ K2 hK2=>?_) h
 refine gg_ ?_
 refine zg (hc 6 _ rfl w hr) ?_
 refine gg_ ?_
 exact hK2
theorem X8 {p : PtD} {c : List Value} {w : World} {r : Gh} {K : Value→World→Prop} (hr : Holds r w) (hp : PtG r c p)
  (h : ∀ w',Ext w w'→K (.bool (xC p)) w') : zd Tryz.prog Tryz.qU #[.agg c.toArray] w K:=by
 refine Tryz.abU ?_
 unfold Tryz.X7
 obtain ⟨z1,z2,z3,z4,z5,t1,t2,t3,t4,t5,rfl,hp0⟩:=yN hp
 have S:=St.start hr
 refine S.box fun b1 w1 S=>?_
 have S : StX noX w r w1 [.cell b1 (ptL p z1 z2 z3 z4 z5 t1 t2 t3 t4 t5) 87]:=S
 refine gg_ ?_
 refine zf (c:=decide (p.op≤8)) (fun _ K2 hK2=>by refine gg_ ?_;exact hK2) ?_
 exact h _ S.ext
theorem agH {r : Gh} {p : Option Addr} {n cap : Nat} {l : List Int} (h : SlG 1 r ZJ (.slice p n cap) l) {i : Nat} (hi : i<l.length) : ∃ b off,p=some ⟨b,off,none⟩∧n=l.length∧Ob r fun w=>w.cell? ⟨b,off+i,none⟩=some (.int .i64 l[i]):=
 zY (h.mono fun c x hx=>hx.1) hi
theorem afx {l : List Int} {x : Int} {v : Value} {w : World} {r : Gh} {K : Value→World→Prop} (hr : Holds r w) (hl : SlB 1 r ZJ v l)
  (h : ∀ i : Int,(0≤i↔x ∈ l)→K (.int .i64 i) w) : zd Tryz.prog Tryz.yH #[v,.int .i64 x] w K:=by
 refine Tryz.jm ?_
 unfold Tryz.xI
 obtain ⟨p,cap,rfl,_,_⟩:=hl.sl.shape
 have hf : l.length≤9223372036854775807:=hl.few
 refine gp_ ?_
 refine zi (ι:=Nat) (fun i=>[.int .i64 (i : Nat)]) (fun i w'=>w'=w∧i≤l.length∧x ∉ l.take i) (fun i=>l.length - i) 0 rfl ⟨rfl,Nat.zero_le _,by simp⟩ ?_
 rintro i d w' ⟨rfl,hi,hn⟩ K1 hK1
 simp only [List.getD_cons_zero]
 refine gp_ ?_
 refine zk (fun hlt=>?_) (fun hge=>?_)
 ·have hlt : i<l.length:=by omega
  obtain ⟨b,off,rfl,_,hc⟩:=agH hl.sl hlt
  refine gp_ ?_
  refine zg (by rw [Int.toNat_natCast];exact hc _ hr) ?_
  refine gp_ ?_
  refine zk (fun he=>?_) (fun he=>?_)
  ·exact h _ ⟨fun _=>by rw [he];exact List.getElem_mem hlt,fun _=>Int.natCast_nonneg _⟩
  ·refine gp_ ?_
   refine hK1 (i+1) _ ⟨rfl,hlt,?_⟩ (by omega)
   rw [List.take_succ_eq_append_getElem hlt,List.mem_append,List.mem_singleton]
   exact fun h=>h.elim hn he
 ·have : i=l.length:=by omega
  subst this
  rw [List.take_length] at hn
  exact h _ ⟨fun h=>by omega,fun h=>absurd h hn⟩
theorem abW {l : List Int} {x : Int} {v : Value} {w : World} {r : Gh} {K : Value→World→Prop} (hr : Holds r w) (hl : SlB 1 r ZJ v l)
  (h : K (.bool (decide (x ∈ l))) w) : zd Tryz.prog Tryz.yu #[v,.int .i64 x] w K:=by
 refine Tryz.qG ?_
 unfold Tryz.xk
 refine afx hr hl fun i hi=>?_
 refine gp_ ?_
 have e : decide (0≤i)=decide (x ∈ l):=by
  rw [decide_eq_decide];exact hi
 rw [e];exact h
theorem ajB {c b : Bool} {a : Value} {K : Value→Prop} (h1 : c=true→a = .bool b) (h0 : c=false→b=false) (k : K (.bool b)) : zb (.bool c) a (.bool false) K:=by
 cases c with
 |true=>rw [h1 rfl];exact k_pickT k
 |false=>rw [h0 rfl] at k;exact k_pickF k
theorem aif {l : List OpD} {i : Nat} (hi : i<l.length) : kt (l.take (i+1))=kt (l.take i)++(if kZ l[i]=true then [l[i].pl.l] else []):=by
 rw [kt,kt,List.take_succ_eq_append_getElem hi,List.filter_append,List.map_append]
 congr 1
 by_cases h : kZ l[i]=true
 ·rw [if_pos h,List.filter_cons_of_pos h];rfl
 ·rw [if_neg h,List.filter_cons_of_neg h];rfl
theorem ajC {l : List OpD} {i : Nat} : kt (l.take i) <+: kt l:=by
 refine ⟨kt (l.drop i),?_⟩
 rw [kt,kt,kt,← List.map_append,← List.filter_append,List.take_append_drop]
theorem akF {A B C : List Int} {x : Int} (h : A ++ [x] <+: B) : (B++C)[A.length]? = some x:=by
 obtain ⟨t,rfl⟩:=h
 simp
set_option maxHeartbeats 4000000 in
theorem V2 {g : GrD} {p : PtD} {q : Int} {v f : Value} {w : World} {r : Gh} {K : Value→World→Prop} {D0 : Nat→Prop} {J : Nat→(Nat→Prop)→World→Prop} {Jx : World→Prop}
  (hr : Holds r w) (hx : LookG r v g) (hq : 0≤q) (hp : g.pts[q.toNat]? = some p) (hb : p.args.length≤1000) (hD : ∀ d,D0 d→d<w.heap.size∧∀ o,¬ r d o) (hf : Cbk Tryz.prog f (zI p) J Jx) (h0 : J 0 D0 w)
  (h : ∀ w',((∃ D,J (zI p).length D w')∨Jx w')→K (.tuple #[]) w') : zd Tryz.prog Tryz.xE #[v,.int .i64 q,f] w K:=by
 refine Tryz.VA ?_
 unfold Tryz.YI
 obtain ⟨bl,x1,x2,x3,x4,y1,y2,y3,y4,vn,rfl,hg,hn,hc⟩:=hx
 obtain ⟨_,_,_,_,hEE,m1,m2,m3,m4⟩:=id hg
 cases hEE
 obtain ⟨hlt,hpe⟩:=List.getElem?_eq_some_iff.1 hp
 obtain ⟨bp,op,cp,hqp,hcp,hpc,hpo⟩:=m4.sl.get (by decide) hlt
 cases hqp
 rw [hpe] at hpc
 obtain ⟨z1,z2,z3,z4,z5,t1,t2,t3,t4,t5,rfl,hp0⟩:=yN hpc
 obtain ⟨kto,ka,kb,kl,kf⟩:=Qm hp0
 have S:=St.start hr
 refine gg_ ?_
 refine zg (S.at (hc 6 _ rfl)) ?_
 refine gg_ ?_
 refine zq (n:=21) hcp (fun j v hj=>S.at (hpo j v hj)) ?_
 refine S.al fun b6 w1 S=>?_
 refine S.stB (b:=b6) fun w2 S=>?_
 have S : StX noX w r w2 [.cell b6 (ptL p z1 z2 z3 z4 z5 t1 t2 t3 t4 t5) 87]:=S
 refine gg_ ?_
 refine S.ldN (b:=b6) (vs:=[.int .u8 p.a.k,.int .i64 p.a.n,.int .i64 p.a.pl.l,.slice z2 p.a.pl.ps.length t2]) ?_
 refine gg_ ?_
 refine S.ldN (b:=b6) (vs:=[.int .u8 p.b.k,.int .i64 p.b.n,.int .i64 p.b.pl.l,.slice z3 p.b.pl.ps.length t3]) ?_
 refine S.lit (e:=84) (cs:=[.int .u8 p.a.k,.int .i64 p.a.n,.int .i64 p.a.pl.l,.slice z2 p.a.pl.ps.length t2,.int .u8 p.b.k,.int .i64 p.b.n,.int .i64 p.b.pl.l,.slice z3 p.b.pl.ps.length t3]) (by kernel_rfl) fun b7 w3 S=>?_
 have S:=S.toRow 2 4 rfl (by decide)
 refine gg_ ?_
 obtain ⟨xs,hxr,hxs⟩:=agr (by decide) kl.sl
 obtain ⟨_,_,hE,hq4,_⟩:=kl.sl.shape
 cases hE
 refine S.ap (v:=.slice (some ⟨b7,0,none⟩) 2 2) (S.at hxs) (fun v24 w4 S=>?_) (by omega) hxr.1 hq4 (abF hxr (by decide) fun c x hx=>ags hx)
 have hrow : RowOf 4 (OpG r) ([.int .u8 p.a.k,.int .i64 p.a.n,.int .i64 p.a.pl.l,.slice z2 p.a.pl.ps.length t2,.int .u8 p.b.k,.int .i64 p.b.n,.int .i64 p.b.pl.l,.slice z3 p.b.pl.ps.length t3]++xs) (p.a::p.b::p.args):=
  RowOf.app (l:=[p.a,p.b]) (yG (c:=[.int .u8 p.a.k,.int .i64 p.a.n,.int .i64 p.a.pl.l,.slice z2 p.a.pl.ps.length t2]) rfl ka (yr rfl kb)) hxr
 obtain ⟨s5,T,hs5,_,ha5⟩:=S.doneRow hrow (by decide) (by simp;omega)
 repeat clear S
 have ha5 : Above w s5:=fun b o ho=>(ha5 b o ho).resolve_right id
 have hb6:=(T.mine (.cell b6 (ptL p z1 z2 z3 z4 z5 t1 t2 t3 t4 t5) 87) (by simp) b6 rfl).1.resolve_right id
 have E4:=T.ext
 have T:=T.frzAt b6
 have hp6 : ∀ j u,(ptL p z1 z2 z3 z4 z5 t1 t2 t3 t4 t5)[j]? = some u→Ob ((r.or s5).or (Go.Sh.one b6 (ptL p z1 z2 z3 z4 z5 t1 t2 t3 t4 t5) 87)) fun w=>w.cell? ⟨b6,j,none⟩=some u:=fun j u hj w' hw'=>by
  have B : Blk w' b6 (ptL p z1 z2 z3 z4 z5 t1 t2 t3 t4 t5) 87:=zJ w' (hw'.le (h:=inferInstance))
  show w'.cell? ⟨b6,j,none⟩=some u
  rw [B.cell]
  exact hj
 have hd : Drt D0 w.heap.size ((r.or s5).or (Go.Sh.one b6 (ptL p z1 z2 z3 z4 z5 t1 t2 t3 t4 t5) 87)) w4 [] D0:=fun d hd=>by
  obtain ⟨h1,h2⟩:=hD d hd
  refine ⟨.inr hd,Nat.lt_of_lt_of_le h1 E4.size,fun o ho=>?_,fun h=>h⟩
  rcases ho with (ho|ho)|ho
  ·exact h2 o ho
  ·have:=ha5 d o ho;omega
  ·have:=ho.1;omega
 have S:=T.open D0
 clear T
 have hs5:=hs5.cells (s:=(r.or s5).or (Go.Sh.one b6 (ptL p z1 z2 z3 z4 z5 t1 t2 t3 t4 t5) 87))
 have hto : SlB 1 ((r.or s5).or (Go.Sh.one b6 (ptL p z1 z2 z3 z4 z5 t1 t2 t3 t4 t5) 87)) ZJ (.slice z1 p.to.ps.length t1) p.to.ps:=by
  obtain ⟨vq,hE,hq'⟩:=kto
  cases hE
  exact hq'.cells
 have hp0':=hp0.up (s:=(r.or s5).or (Go.Sh.one b6 (ptL p z1 z2 z3 z4 z5 t1 t2 t3 t4 t5) 87))
 generalize (r.or s5).or (Go.Sh.one b6 (ptL p z1 z2 z3 z4 z5 t1 t2 t3 t4 t5) 87)=r' at S hd hp6 hs5 hto hp0'
 have hJ0:=hf.ext _ _ _ _ h0 E4
 obtain ⟨q5,c5,rfl,_,_⟩:=hs5.shape
 have hol : (p.a::p.b::p.args).length≤1002:=by simp;omega
 generalize hops : p.a::p.b::p.args=ops at hs5 hol
 have hxs : zI p=kt ops++((if p.op=4 then [p.fr.l] else [])++(if p.op=14∨(xC p=true∧-1 ∈ p.to.ps) then [p.to.l] else [])):=by rw [zI,hops]
 rw [hxs] at hf h
 refine gg_ ?_
 refine zi (ι:=Nat × (Nat→Prop)) (fun i=>[.int .i64 (i.1 : Nat)]) (fun i w'=>i.1≤ops.length∧J (kt (ops.take i.1)).length i.2 w'∧Drt D0 w.heap.size r' w' [] i.2∧StX D0 w r' w' []) (fun i=>ops.length - i.1) (0,D0) rfl ⟨Nat.zero_le _,hJ0,hd,S⟩ ?_
 clear S hd hJ0 E4
 rintro ⟨i,D⟩ d w8 ⟨hi,hJ,hd,S⟩ K5 hK5
 simp only at hi hJ hd S ⊢
 rw [List.getD_cons_zero]
 refine gg_ ?_
 refine zk (fun hlti=>?_) (fun hge=>?_)
 ·have hlti : i<ops.length:=by omega
  obtain ⟨bo,oo,co,hqo,hcl,hoc,hoo⟩:=hs5.get (by decide) hlti
  have hnx:=aif hlti
  have hpre:=ajC (l:=ops) (i:=i+1)
  rw [hnx] at hpre
  generalize ops[i]=o at hoc hnx hpre
  obtain ⟨qo,ko,rfl⟩:=acz hoc
  cases hqo
  refine gg_ ?_
  refine zq (n:=4) rfl (fun j v hj=>by rw [Int.toNat_natCast];exact S.at (hoo j v hj)) ?_
  have R : StX noX w8 r' w8 []:=St.start S.holds
  refine R.al fun b8 w9 R=>?_
  refine R.stB (b:=b8) fun w10 R=>?_
  have R : StX noX w8 r' w10 [.cell b8 [.int .u8 o.k,.int .i64 o.n,.int .i64 o.pl.l,.slice qo o.pl.ps.length ko] 84]:=R
  refine gg_ ?_
  refine R.ld (b:=b8) ?_
  refine gg_ ?_
  refine zj (c:=decide (o.k=4)) (fun _ K2 hK2=>?_) ?_
  ·refine gg_ ?_
   refine R.ld (b:=b8) ?_
   refine gg_ ?_
   exact hK2
  have hpl : kZ o=(decide (o.k=3)||decide (o.k=4)):=rfl
  rw [← hpl]
  have S:=S.go R.ext
  have hd:=hd.more R.ext.size
  have hJ:=hf.ext _ _ _ _ hJ R.ext
  cases hc : kZ o with
  |false=>
   rw [hc] at hnx
   rw [if_neg (by decide),List.append_nil] at hnx
   (intro K9 hK9;refine gd_ ?_;refine hK9 _ _ fun _=>?_;clear hK9 K9)
   refine gd_ ?_
   refine c_f rfl ?_
   refine gg_ ?_
   refine hK5 (i+1,D) _ ⟨hlti,?_,hd,S⟩ (by show ops.length - (i+1)<ops.length - i;omega)
   show J (kt (ops.take (i+1))).length D w10
   rw [hnx];exact hJ
  |true=>
   rw [hc,if_pos rfl] at hnx hpre
   have hget:=akF (C:=(if p.op=4 then [p.fr.l] else [])++(if p.op=14∨(xC p=true∧-1 ∈ p.to.ps) then [p.to.l] else [])) hpre
   refine zp (fun s w'=>∃ b,s = [.bool (!b)]∧if b=true then ∃ D2 : Nat→Prop,J (kt (ops.take (i+1))).length D2 w'∧Drt D0 w.heap.size r' w' [] D2∧StX D0 w r' w' [] else Jx w') (fun K15 hK15=>?_) ?_
   ·refine g_TT ?_
    refine gg_ ?_
    refine R.ld (b:=b8) ?_
    refine hf.call _ _ _ _ hget hJ _ fun b W2 e2 hb2=>?_
    refine gp_ ?_
    refine hK15 _ _ ⟨b,rfl,?_⟩
    cases b with
    |false=>exact hb2
    |true=>
     obtain ⟨D2,hd2,hj2⟩:=hb2
     refine ⟨D2,?_,hd.next S e2.size hd2,S.dirty e2 hd⟩
     rw [hnx,List.length_append,List.length_singleton];exact hj2
   rintro _ w18 ⟨b,rfl,hb2⟩ d
   refine gd_ ?_
   cases b with
   |false=>
    refine c_t rfl ?_
    exact h _ (.inr hb2)
   |true=>
    refine c_f rfl ?_
    obtain ⟨D2,hj2,hd2,S2⟩:=hb2
    refine gg_ ?_
    exact hK5 (i+1,D2) _ ⟨hlti,hj2,hd2,S2⟩ (by show ops.length - (i+1)<ops.length - i;omega)
 have hie : i=ops.length:=by omega
 clear hK5 K5 hge hi d
 subst hie
 rw [List.take_length] at hJ
 clear hs5
 generalize hA : kt ops=A at hJ hf h
 clear hxs hol hA hops
 refine gg_ ?_
 refine zg (S.at (hp6 0 _ rfl)) ?_
 refine gg_ ?_
 refine zp (fun s w'=>∃ b : Bool,(p.op=4→s.getD 0 undef = .bool (!b))∧(p.op≠4→b=true)∧if b=true then ∃ D2 : Nat→Prop,J (A++(if p.op=4 then [p.fr.l] else [])).length D2 w'∧Drt D0 w.heap.size r' w' [] D2∧StX D0 w r' w' [] else Jx w') (fun K21 hK21=>?_) ?_
 ·by_cases h4 : p.op=4
  ·rw [decide_eq_true h4]
   rw [if_pos h4] at hf hK21
   refine g_TT ?_
   refine gg_ ?_
   refine zg (S.at (hp6 13 _ rfl)) ?_
   refine hf.call A.length _ _ _ (by simp) hJ _ fun b W2 e2 hb2=>?_
   refine gp_ ?_
   refine hK21 _ _ ⟨b,fun _=>rfl,fun h=>absurd h4 h,?_⟩
   cases b with
   |false=>exact hb2
   |true=>
    obtain ⟨D2,hd2,hj2⟩:=hb2
    exact ⟨D2,by rw [List.length_append];exact hj2,hd.next S e2.size hd2,S.dirty e2 hd⟩
  ·rw [decide_eq_false h4]
   rw [if_neg h4,List.append_nil] at hK21
   refine gd_ ?_
   exact hK21 _ _ ⟨true,fun h=>absurd h h4,fun _=>rfl,D,hJ,hd,S⟩
 clear S hd hJ
 rintro s w18 ⟨b,hs1,hs2,hb2⟩ d
 refine ajB (b:=!b) (fun hc=>hs1 (of_decide_eq_true hc)) (fun hc=>by rw [hs2 (of_decide_eq_false hc)];rfl) ?_
 clear hs1 hs2
 cases b with
 |false=>
  refine c_t rfl ?_
  exact h _ (.inr hb2)
 |true=>
 refine c_f rfl ?_
 obtain ⟨D,hJ,hd,S⟩:=hb2
 rw [← List.append_assoc] at hf h
 generalize A++(if p.op=4 then [p.fr.l] else [])=B at hf h hJ
 refine gg_ ?_
 refine zg (S.at (hp6 0 _ rfl)) ?_
 refine gg_ ?_
 have fin : ∀ W D,J B.length D W→(p.op=14∨(xC p=true∧-1 ∈ p.to.ps))→zK Tryz.prog f #[.int .i64 p.to.l] W fun _ w41=>K (.tuple #[]) w41:=fun W D hJ hc=>by
  rw [if_pos hc] at hf h
  refine hf.call B.length _ _ _ (by simp) hJ _ fun b W2 e2 hb2=>?_
  cases b with
  |false=>exact h _ (.inr hb2)
  |true=>
   obtain ⟨D2,hd2,hj2⟩:=hb2
   exact h _ (.inl ⟨D2,by rw [List.length_append];exact hj2⟩)
 by_cases h14 : p.op=14
 ·rw [decide_eq_true h14]
  (intro K9 hK9;refine gd_ ?_;refine hK9 _ _ fun _=>?_;clear hK9 K9)
  (intro K9 hK9;refine gd_ ?_;refine hK9 _ _ fun _=>?_;clear hK9 K9)
  (intro K9 hK9;refine gd_ ?_;refine hK9 _ _ fun _=>?_;clear hK9 K9)
  refine gd_ ?_
  refine c_t rfl ?_
  refine gg_ ?_
  refine zg (S.at (hp6 1 _ rfl)) ?_
  exact fin _ _ hJ (.inl h14)
 rw [decide_eq_false h14]
 refine zp (fun s w'=>s = [.bool (xC p)]∧Ext w18 w') (fun K27 hK27=>?_) ?_
 ·refine g_FF ?_
  refine zq (n:=21) rfl (fun j v hj=>by rw [Nat.zero_add];exact S.at (hp6 j v hj)) ?_
  refine X8 S.holds hp0' fun w19 e19=>?_
  exact hK27 _ _ ⟨rfl,e19⟩
 rintro _ w19 ⟨rfl,e19⟩ d2
 rw [List.getD_cons_zero]
 have S:=S.go e19
 have hd:=hd.more e19.size
 have hJ:=hf.ext _ _ _ _ hJ e19
 cases hc : xC p with
 |false=>
  have hno : ¬ (p.op=14∨(xC p=true∧-1 ∈ p.to.ps)):=by rintro (h|⟨h,_⟩);exact h14 h;rw [hc] at h;cases h
  rw [if_neg hno,List.append_nil] at hf h
  (intro K9 hK9;refine gd_ ?_;refine hK9 _ _ fun _=>?_;clear hK9 K9)
  (intro K9 hK9;refine gd_ ?_;refine hK9 _ _ fun _=>?_;clear hK9 K9)
  refine gd_ ?_
  refine c_f rfl ?_
  exact h _ (.inl ⟨D,hJ⟩)
 |true=>
  refine zp (fun s w'=>s = [.bool (decide (-1 ∈ p.to.ps))]∧w'=w19) (fun K32 hK32=>?_) ?_
  ·refine g_TT ?_
   refine gg_ ?_
   refine zg (S.at (hp6 2 _ rfl)) ?_
   refine abW S.holds hto ?_
   exact hK32 _ _ ⟨rfl,rfl⟩
  rintro _ w20 ⟨rfl,rfl⟩ d3
  rw [List.getD_cons_zero]
  (intro K9 hK9;refine gd_ ?_;refine hK9 _ _ fun _=>?_;clear hK9 K9)
  refine gd_ ?_
  refine c_b (fun hm=>?_) (fun hm=>?_)
  ·have hm:=of_decide_eq_true hm
   refine gg_ ?_
   refine zg (S.at (hp6 1 _ rfl)) ?_
   exact fin _ _ hJ (.inr ⟨hc,hm⟩)
  ·have hm:=of_decide_eq_false hm
   have hno : ¬ (p.op=14∨(xC p=true∧-1 ∈ p.to.ps)):=by rintro (h|⟨_,h⟩);exact h14 h;exact hm h
   rw [if_neg hno,List.append_nil] at hf h
   exact h _ (.inl ⟨D,hJ⟩)
end Go.Proofs
end
section
namespace Go.Proofs.Tryz
open Go.Sh
set_option maxRecDepth 100000
def V3 (t0 : Value) (w : World) (K : VW) : Prop:=
 pw w (Instr.box 72 t0) fun t1 w1=>
 fl w1 t1 72 0 3 fun t5=>bt .lss 3 t5 (i6 0) fun t6=>za (fun K2=>gIf t6 false (fl w1 t1 72 0 3 fun t9=>bt .gtr 3 t9 (i6 1032) fun t10=>K2 [t10] w1) (K2 [undef] w1)) (fun s3 _d4 w5=>
 zb t6 tr_ (s3.getD 0 undef) fun t11=>za (fun K6=>gIf t11 false (fl w5 t1 72 1 70 fun t14=>pp (Builtin.len_ #[70] 3 #[t14]) fun t15=>fl w5 t1 72 0 3 fun t17=>bt .add 3 t17 (i6 63) fun t18=>bt .quo 3 t18 (i6 64) fun t19=>bf .neq 3 t15 t19 fun t20=>K6 [t20] w5) (K6 [undef] w5)) (fun s7 _d8 w9=>
 zb t11 tr_ (s7.getD 0 undef) fun t21=>zc t21 (K fa_ w9) (fl w9 t1 72 0 3 fun t23=>zo [t23] w9 (fun s11 _d12 w13 K10=>
 fl w13 t1 72 1 70 fun t26=>pp (Builtin.len_ #[70] 3 #[t26]) fun t27=>bt .mul 3 (i6 64) t27 fun t28=>bf .lss 3 (s11.getD 0 undef) t28 fun t29=>zc t29 (fl w13 t1 72 1 70 fun t33=>bt .quo 3 (s11.getD 0 undef) (i6 64) fun t35=>xl w13 70 t33 t35 76 fun t37=>bt .rem 3 (s11.getD 0 undef) (i6 64) fun t39=>bf .shr 76 t37 t39 fun t40=>bt .and 76 t40 (Value.int .u64 1) fun t41=>bt .eql 76 t41 (Value.int .u64 1) fun t42=>zc t42 (K fa_ w13) (bt .add 3 (s11.getD 0 undef) (i6 1) fun t31=>K10 [t31] w13)) (K tr_ w13)))))
theorem afy {t0 : Value} {w : World} {K : VW} (h : V3 t0 w K) : zd prog XG #[t0] w K:=
 okC false (.s (.r (rz 2 0 2)) (.s (.s (.r (ra 4 0 4 (.grp 7 false (ri 3 4 4) [10] (ra 2 7 0 (.grp 12 false (ri 8 9 260) [20] (rz 1 17 0)))))) (.c (.s (.r (rz 1 0 0)) (.n)) (.n))) (.s (.s (.r (rz 3 0 4)) (.b (.lp [3] (.s (.s (.r (rz 6 0 16)) (.c (.n) (.n))) (.s (.b (.s (.r (rz 11 0 1028)) (.c (.s (.r (rz 1 0 0)) (.n)) (.n)))) (.r (rz 3 0 0))))))) (.s (.r (rz 1 0 0)) (.n))))) func41 rfl (by kernel_rfl) (by kernel_rfl) h
def abX (t0 t1 : Value) (w : World) (K : VW) : Prop:=
 pw w (Instr.box 72 t0) fun t2 w1=>
 fl w1 t2 72 1 70 fun t6=>bt .quo 3 t1 (i6 64) fun t8=>xl w1 70 t6 t8 76 fun t10=>bt .rem 3 t1 (i6 64) fun t12=>bf .shr 76 t10 t12 fun t13=>bt .and 76 t13 (Value.int .u64 1) fun t14=>bt .eql 76 t14 (Value.int .u64 1) fun t15=>K t15 w1
theorem af6 {t0 t1 : Value} {w : World} {K : VW} (h : abX t0 t1 w K) : zd prog Ya #[t0,t1] w K:=
 okC false (.s (.r (rz 2 0 2)) (.s (.r (rz 12 0 1028)) (.n))) func50 rfl (by kernel_rfl) (by kernel_rfl) h
def abY (t0 : Value) (w : World) (K : VW) : Prop:=
 pw w (Instr.alloc 72 true (.tuple #[])) fun t2 w1=>
 bt .lss 3 t0 (i6 0) fun t5=>za (fun K2=>gIf t5 false (bt .gtr 3 t0 (i6 1032) fun t8=>K2 [t8] w1) (K2 [undef] w1)) (fun s3 _d4 w5=>
 zb t5 tr_ (s3.getD 0 undef) fun t9=>zc t9 (pp (Instr.build 72 #[]) fun t10=>so w5 72 t2 t10 fun w6=>pq w6 (zn 72 t2) fun r7=>K (.tuple #[r7,(i6 2)]) w6) (bt .add 3 t0 (i6 63) fun t13=>bt .quo 3 t13 (i6 64) fun t14=>pw w5 (Instr.makeSlice 70 t14 t14) fun t15 w8=>
 pp (Instr.build 72 #[(0,t0),(1,t15)]) fun t16=>so w8 72 t2 t16 fun w9=>pq w9 (zn 72 t2) fun r10=>K (.tuple #[r10,(i6 0)]) w9))
theorem af7 {t0 : Value} {w : World} {K : VW} (h : abY t0 w K) : zd prog Qt #[t0] w K:=
 okC false (.s (.r (rz 2 0 2)) (.s (.s (.r (ra 3 0 0 (.grp 6 false (ri 2 3 0) [8] (rz 1 5 0)))) (.c (.s (.r (rz 3 0 8)) (.n)) (.n))) (.s (.r (rz 8 0 8704)) (.n)))) func75 rfl (by kernel_rfl) (by kernel_rfl) h
def abZ (t0 : Value) (w : World) (K : VW) : Prop:=
 pw w (Instr.box 72 t0) fun t1 w1=>
 fl w1 t1 72 0 3 fun t4=>bt .lss 3 t4 (i6 0) fun t5=>za (fun K2=>gIf t5 false (fl w1 t1 72 0 3 fun t8=>bt .gtr 3 t8 (i6 1032) fun t9=>K2 [t9] w1) (K2 [undef] w1)) (fun s3 _d4 w5=>
 zb t5 tr_ (s3.getD 0 undef) fun t10=>za (fun K6=>gIf t10 false (fl w5 t1 72 1 70 fun t13=>pp (Builtin.len_ #[70] 3 #[t13]) fun t14=>fl w5 t1 72 0 3 fun t16=>bt .add 3 t16 (i6 63) fun t17=>bt .quo 3 t17 (i6 64) fun t18=>bf .neq 3 t14 t18 fun t19=>K6 [t19] w5) (K6 [undef] w5)) (fun s7 _d8 w9=>
 zb t10 tr_ (s7.getD 0 undef) fun t20=>zc t20 (K fa_ w9) (fl w9.drew t1 72 0 3 fun t22=>bt .rem 3 t22 (i6 64) fun t23=>bt .eql 3 t23 (i6 0) fun t24=>za (fun K10=>gIf t24 false (fl w9.drew t1 72 1 70 fun t27=>fl w9.drew t1 72 1 70 fun t29=>pp (Builtin.len_ #[70] 3 #[t29]) fun t30=>bt .sub 3 t30 (i6 1) fun t31=>xl w9.drew 70 t27 t31 76 fun t33=>fl w9.drew t1 72 0 3 fun t35=>bt .rem 3 t35 (i6 64) fun t36=>bf .shr 76 t33 t36 fun t37=>bt .eql 76 t37 (Value.int .u64 0) fun t38=>K10 [t38] w9.drew) (K10 [undef] w9.drew)) (fun s11 _d12 w13=>
 zb t24 tr_ (s11.getD 0 undef) fun t39=>K t39 w13))))
theorem af8 {t0 : Value} {w : World} {K : VW} (h : abZ t0 w K) : zd prog Qu #[t0] w K:=
 okC false (.s (.r (rz 2 0 2)) (.s (.s (.r (ra 4 0 4 (.grp 6 false (ri 3 4 4) [9] (ra 2 7 0 (.grp 11 false (ri 8 9 260) [19] (rz 1 17 0)))))) (.c (.s (.r (rz 1 0 0)) (.n)) (.n))) (.s (.r (ra 5 0 4 (.grp 25 false (ri 13 5 278596) [38] (rz 2 18 0)))) (.n)))) func89 rfl (by kernel_rfl) (by kernel_rfl) h
end Go.Proofs.Tryz
end
section
namespace Go.Proofs
open Go.Sh Go.RowKit Go.BM
set_option maxRecDepth 100000
set_option linter.unusedSimpArgs false
set_option linter.unusedVariables false
def WdC (c : List Value) (x : BitVec 64) : Prop:=c = [u64 x]
def RwbC (r : Gh) (c : List Value) (x : Int × List (BitVec 64)) : Prop:=∃ p cap,c = [.int .i64 x.1,.slice p x.2.length cap]∧SlB 1 r WdC (.slice p x.2.length cap) x.2
theorem RwbC.up {r s : Gh} {c : List Value} {x : Int × List (BitVec 64)} (h : RwbC r c x) [le : Le r s] : RwbC s c x:=by
 obtain ⟨p,cap,h1,h2⟩:=h;exact ⟨p,cap,h1,h2.cells⟩
theorem ab0 {r : Gh} {p : Option Addr} {n cap : Nat} {l : List (BitVec 64)} (h : SlG 1 r WdC (.slice p n cap) l) {i : Nat} (hi : i<l.length) : ∃ b off,p=some ⟨b,off,none⟩∧n=l.length∧Ob r fun w=>w.cell? ⟨b,off+i,none⟩=some (u64 l[i]):=aft (V:=u64) h hi
theorem ahm {W : Int} {ws : List (BitVec 64)} {c : List Value} {w : World} {r : Gh} {K : Value→World→Prop} (hr : Holds r w) (hx : RwbC r c (W,ws))
  (h : ∀ w',Ext w w'→K (.bool (BM.mayB W ws)) w') : zd Tryz.prog Tryz.Qu #[.agg c.toArray] w K:=by
 refine Tryz.af8 ?_
 unfold Tryz.abZ
 obtain ⟨p,cap,rfl,hS⟩:=hx
 have hfew : ws.length≤9223372036854775807:=hS.few
 have S:=St.start hr
 refine S.box fun b1 w1 S=>?_
 have S : StX noX w r w1 [.cell b1 [.int .i64 W,.slice p ws.length cap] 72]:=S
 refine gg_ ?_
 refine zj (c:=decide (1032<W)) (fun _ K2 hK2=>by refine gg_ ?_;exact hK2) ?_
 refine zj (c:=decide ((ws.length : Int)≠(W+63) / 64)) (fun hb K2 hK2=>?_) ?_
 ·simp only [Bool.or_eq_false_iff,decide_eq_false_iff_not] at hb
  refine gg_ ?_
  exact hK2
 refine c_b (fun hb=>?_) (fun hb=>?_)
 ·rw [BM.mayB_false (fun hm=>by
   simp only [Bool.or_eq_true,decide_eq_true_eq] at hb
   have:=hm.1;have:=hm.2.1;have:=hm.2.2.1
   omega)] at h
  exact h _ S.ext
 simp only [Bool.or_eq_false_iff,decide_eq_false_iff_not,Decidable.not_not] at hb
 obtain ⟨⟨h0,h1⟩,h2⟩:=hb
 have S:=S.go (Ext.drew _)
 refine gg_ ?_
 by_cases h3 : W % 64=0
 ·rw [decide_eq_true h3]
  refine zj (c:=true) (fun hc=>by cases hc) ?_
  rw [BM.mayB_true (aiO (by omega) (by omega) h2 h3)] at h
  exact h _ S.ext
 rw [decide_eq_false h3]
 have hlt : ws.length - 1<ws.length:=by omega
 obtain ⟨b2,o2,rfl,_,hc⟩:=ab0 hS.sl hlt
 have hz : (((ws[ws.length - 1] >>> (W % 64).toNat).toNat : Int)=0)↔BM.May W ws:=by
  rw [aiN (by omega) (by omega) h2 h3 hlt]
  constructor
  ·intro hz;apply BitVec.eq_of_toNat_eq;have h9 : (ws[ws.length - 1] >>> (W % 64).toNat).toNat=0:=by omega
   rw [h9];rfl
  ·intro hz;rw [hz];rfl
 have hE : BM.mayB W ws=decide (((ws[ws.length - 1] >>> (W % 64).toNat).toNat : Int)=0):=by unfold BM.mayB;simp only [← hz]
 rw [hE] at h
 generalize ws[ws.length - 1]=x at hc h
 refine zj (c:=decide (((x >>> (W % 64).toNat).toNat : Int)=0)) (fun _ K2 hK2=>?_) ?_
 ·refine gg_ ?_
  refine zg (by rw [show ((ws.length : Int) - 1).toNat=ws.length - 1 by omega];exact S.at hc) ?_
  refine gg_ ?_
  exact hK2
 exact h _ S.ext
theorem ab1 {W : Int} {ws : List (BitVec 64)} {k : Int} {c : List Value} {w : World} {r : Gh} {K : Value→World→Prop} (hr : Holds r w) (hx : RwbC r c (W,ws)) (hk : 0≤k) (hk2 : k<64*ws.length) (hl : ws.length≤100000)
  (h : ∀ w',Ext w w'→K (.bool (bit ws k.toNat)) w') : zd Tryz.prog Tryz.Ya #[.agg c.toArray,.int .i64 k] w K:=by
 refine Tryz.af6 ?_
 unfold Tryz.abX
 obtain ⟨p,cap,rfl,hS⟩:=hx
 have hfew : ws.length≤9223372036854775807:=hS.few
 have S:=St.start hr
 refine S.box fun b1 w1 S=>?_
 have S : StX noX w r w1 [.cell b1 [.int .i64 W,.slice p ws.length cap] 72]:=S
 have hlt : k.toNat / 64<ws.length:=by omega
 obtain ⟨b2,o2,rfl,_,hc⟩:=ab0 hS.sl hlt
 have hB : bit ws k.toNat=decide (((ws[k.toNat / 64] >>> (k.toNat % 64)) &&& BitVec.ofInt 64 1).toNat=(1 : Int)):=by
  rw [bit,List.getD_eq_getElem?_getD,List.getElem?_eq_getElem hlt,Option.getD_some,Bool.eq_iff_iff,decide_eq_true_eq,Xr]
 rw [hB] at h
 generalize ws[k.toNat / 64]=x at hc h
 refine gg_ ?_
 refine zg (by rw [show (k / 64).toNat=k.toNat / 64 by omega];exact S.at hc) ?_
 refine gg_ ?_
 rw [show (k % 64).toNat=k.toNat % 64 by omega]
 exact h _ S.ext
end Go.Proofs
end
section
namespace Go.Proofs
open Go.Sh Go.RowKit
set_option maxRecDepth 100000
set_option linter.unusedSimpArgs false
set_option linter.unusedVariables false
abbrev aem (x : Int) : List Value:=[.int .i64 x]
theorem adx {fid : FuncId} (he : xp Tryz.prog fid=true) (hok : ∀ {t0 t1 t2 : Value} {w : World} {K : Value→World→Prop},Tryz.qF t0 t1 t2 w K→zd Tryz.prog fid #[t0,t1,t2] w K)
  {g : GrD} {p : PtD} {q : Int} {v : Value} {w : World} {r : Gh} {b1 b2 : Nat} {D0 : Nat→Prop} (hr : Holds r w) (hx : LookG r v g)
  (h1 : Ob r fun w=>w.cell? ⟨b1,0,none⟩=some v) (h2 : Ob r fun w=>w.cell? ⟨b2,0,none⟩=some (.int .i64 q)) (hq : 0≤q) (hp : g.pts[q.toNat]? = some p) (hb : p.args.length≤1000)
  (hD : ∀ d,D0 d→d<w.heap.size∧∀ o,¬ r d o) : aeg Tryz.prog (.func (.func fid) #[] #[.pointer (some ⟨b1,0,none⟩),.pointer (some ⟨b2,0,none⟩)]) w ((zI p).map aem) D0:=by
 refine ⟨_,_,rfl,he,fun l W J Jx hW hl hlW hJ hJx hround h0=>?_⟩
 have S : StX noX W r W []:=St.start (hr.ext hW)
 refine Calls.mono (hok (t0:=.func (.yield l) #[] #[]) (t1:=.pointer (some ⟨b1,0,none⟩)) (t2:=.pointer (some ⟨b2,0,none⟩)) (K:=fun _ W'=>(∃ D,J (zI p).length D W')∨Jx W') ?_) (fun e W' hh=>?_)
 rotate_left
 ·obtain ⟨v,he,hk⟩:=hh
  exact ⟨⟨v,he⟩,by rwa [List.length_map]⟩
 unfold Tryz.qF
 refine zg (S.at h1) ?_
 refine zg (S.at h2) ?_
 refine V2 (D0:=fun b=>D0 b∨b=l) (J:=fun k D' W1=>∃ D,D'=(fun b=>D b∨b=l)∧J k D W1∧l<W1.heap.size) (Jx:=Jx) S.holds hx hq hp hb ?_ ?_ ⟨D0,rfl,h0,hlW⟩ ?_
 ·rintro d (hd|rfl)
  ·obtain ⟨h3,h4⟩:=hD d hd
   exact ⟨Nat.lt_of_lt_of_le h3 hW.size,h4⟩
  ·exact ⟨hlW,fun o ho=>by have:=hr.lt ho;omega⟩
 ·refine ⟨?_,hJx,?_⟩
  ·rintro k _ W1 W2 ⟨D,rfl,hj,hlt⟩ e
   exact ⟨D,rfl,hJ _ _ _ _ hj e,Nat.lt_of_lt_of_le hlt e.size⟩
  ·rintro k _ W1 x hx ⟨D,rfl,hj,hlt⟩ K1 hK1
   refine akl (YieldC.mono (hround k (aem x) D W1 (by rw [List.getElem?_map,hx];rfl) hj) ?_)
   rintro e W2 ⟨b,rfl,hx2,hb2⟩
   refine ⟨_,rfl,hK1 b W2 hx2 ?_⟩
   cases b with
   |false=>exact hb2
   |true=>
    obtain ⟨D2,hd2,hj2⟩:=hb2
    refine ⟨fun b=>D2 b∨b=l,?_,D2,rfl,hj2,Nat.lt_of_lt_of_le hlt hx2.size⟩
    rintro d (hd|rfl)
    ·exact (hd2 d hd).imp .inl id
    ·exact .inl (.inr rfl)
 ·rintro W' (⟨_,D,rfl,hj,_⟩|hj)
  ·exact .inl ⟨D,hj⟩
  ·exact .inr hj
set_option maxHeartbeats 1000000 in
theorem XH {g : GrD} {p : PtD} {q x : Int} {v : Value} {w : World} {r : Gh} {K : Value→World→Prop} (hr : Holds r w) (hx : LookG r v g) (hq : 0≤q) (hp : g.pts[q.toNat]? = some p) (hb : p.args.length≤1000)
  (h : ∀ w',Ext w w'→K (.bool (decide (x ∈ zI p))) w') : zd Tryz.prog Tryz.xF #[v,.int .i64 q,.int .i64 x] w K:=by
 refine Tryz.VB ?_
 unfold Tryz.YJ
 obtain ⟨bl,_,_,_,_,_,_,_,_,_,hv,_⟩:=id hx
 subst hv
 have S:=St.start hr
 have hlow:=S.low
 refine S.boxN fun b3 w1 _ S=>?_
 refine S.boxN fun b4 w2 _ S=>?_
 refine S.boxN fun b5 w3 _ S=>?_
 refine S.alN fun b6 w4 _ S=>?_
 have S : StX noX w r w4 [.cell b6 [.bool false] 4,.cell b5 [.int .i64 x] 3,.cell b4 [.int .i64 q] 3,.cell b3 [.pointer (some ⟨bl,0,none⟩)] 118]:=S
 have hb3:=(S.mine (.cell b3 [.pointer (some ⟨bl,0,none⟩)] 118) (by simp) b3 rfl).1.resolve_right id
 have hb4:=(S.mine (.cell b4 [.int .i64 q] 3) (by simp) b4 rfl).1.resolve_right id
 have S:=S.frzAt b3
 have S:=S.frzAt b4
 have S:=S.frzAt b5
 have S : StX noX w (((r.or (Go.Sh.one b3 [.pointer (some ⟨bl,0,none⟩)] 118)).or (Go.Sh.one b4 [.int .i64 q] 3)).or (Go.Sh.one b5 [.int .i64 x] 3)) w4 [.cell b6 [.bool false] 4]:=S
 have h3 : Ob (((r.or (Go.Sh.one b3 [.pointer (some ⟨bl,0,none⟩)] 118)).or (Go.Sh.one b4 [.int .i64 q] 3)).or (Go.Sh.one b5 [.int .i64 x] 3)) fun w=>w.cell? ⟨b3,0,none⟩=some (.pointer (some ⟨bl,0,none⟩)):=fun w' hw'=>by
  have B : Blk w' b3 [.pointer (some ⟨bl,0,none⟩)] 118:=zJ w' (hw'.le (h:=inferInstance))
  exact B.cell 0
 have h4 : Ob (((r.or (Go.Sh.one b3 [.pointer (some ⟨bl,0,none⟩)] 118)).or (Go.Sh.one b4 [.int .i64 q] 3)).or (Go.Sh.one b5 [.int .i64 x] 3)) fun w=>w.cell? ⟨b4,0,none⟩=some (.int .i64 q):=fun w' hw'=>by
  have B : Blk w' b4 [.int .i64 q] 3:=zJ w' (hw'.le (h:=inferInstance))
  exact B.cell 0
 have h5 : Ob (((r.or (Go.Sh.one b3 [.pointer (some ⟨bl,0,none⟩)] 118)).or (Go.Sh.one b4 [.int .i64 q] 3)).or (Go.Sh.one b5 [.int .i64 x] 3)) fun w=>w.cell? ⟨b5,0,none⟩=some (.int .i64 x):=fun w' hw'=>by
  have B : Blk w' b5 [.int .i64 x] 3:=zJ w' (hw'.le (h:=inferInstance))
  exact B.cell 0
 have hx':=hx.up (s:=((r.or (Go.Sh.one b3 [.pointer (some ⟨bl,0,none⟩)] 118)).or (Go.Sh.one b4 [.int .i64 q] 3)).or (Go.Sh.one b5 [.int .i64 x] 3))
 have hlow' : Low w.heap.size (((r.or (Go.Sh.one b3 [.pointer (some ⟨bl,0,none⟩)] 118)).or (Go.Sh.one b4 [.int .i64 q] 3)).or (Go.Sh.one b5 [.int .i64 x] 3)):=inferInstance
 generalize ((r.or (Go.Sh.one b3 [.pointer (some ⟨bl,0,none⟩)] 118)).or (Go.Sh.one b4 [.int .i64 q] 3)).or (Go.Sh.one b5 [.int .i64 x] 3)=r' at S h3 h4 h5 hx' hlow'
 clear hlow
 refine gp_ ?_
 have hD : ∀ d,(fun b=>b=b6) d→d<w4.heap.size∧∀ o,¬ r' d o:=by
  rintro d rfl
  exact ⟨S.dlt (.inl rfl),fun o=>(S.mine (.cell d [.bool false] 4) (by simp) d rfl).2 o⟩
 have hw4 : w.heap.size≤w4.heap.size:=S.x.size
 have hlow4:=S.low
 refine al4 ((zI p).map aem) (fun b=>b=b6) (fun k D W=>D=(fun b=>b=b6)∧x ∉ (zI p).take k∧StX noX w r' W [.cell b6 [.bool false] 4]) (fun W=>x ∈ zI p∧StX noX w r' W [.cell b6 [.bool true] 4]) ?_ (adx (by kernel_rfl) (fun h=>Tryz.Q0 h) S.holds hx' h3 h4 hq hp hb hD) ?_ ?_ ?_ ⟨rfl,by simp,S⟩ ?_ ?_ ?_
 ·rintro b rfl
  exact ⟨_,S.has (.cell b [.bool false] 4) (by simp),rfl⟩
 ·intro y hy
  obtain ⟨z,_,rfl⟩:=List.mem_map.1 hy
  rfl
 ·rintro k D W W' ⟨h1,h2,S⟩ e
  exact ⟨h1,h2,S.nl e hw4⟩
 ·rintro W W' ⟨h1,S⟩ e
  exact ⟨h1,S.nl e hw4⟩
 ·rintro k y D W hy ⟨rfl,hno,S⟩ KR hN hR
  rw [List.getElem?_map,Option.map_eq_some_iff] at hy
  obtain ⟨z,hz,rfl⟩:=hy
  refine ⟨.refl _,fun W9 e9=>?_⟩
  have S:=S.nl e9 hw4
  rw [List.getD_cons_zero]
  refine zg (S.at h5) ?_
  refine gg_ ?_
  refine zk (fun he=>?_) (fun he=>?_)
  ·have R:=S.part
   refine R.stN' (b:=b6) fun w10 R=>?_
   have S2:=S.whole R fun _ h=>h
   refine ⟨⟨R.x.os,R.x.tape,R.x.output,R.x.size,fun k hk hn=>R.x.block k hk fun h=>h.elim hn fun h=>h⟩,hR _ ⟨?_,S2⟩⟩
   rw [← he]
   exact List.mem_of_getElem? hz
  ·refine ⟨.refl _ _,hN _ _ (fun d hd=>.inl hd) ⟨rfl,?_,S⟩⟩
   obtain ⟨hk,hze⟩:=List.getElem?_eq_some_iff.1 hz
   rw [List.take_succ_eq_append_getElem hk,List.mem_append,List.mem_singleton,hze]
   exact fun h=>h.elim hno fun e=>he e.symm
 ·rintro D W ⟨_,hno,S⟩
  rw [List.length_map,List.take_length] at hno
  refine S.stN' (b:=b6) fun w12 S=>?_
  intro w13 e13
  have S:=S.shut e13
  refine S.ce (b:=b6) ?_
  have:=h _ S.ext
  rwa [decide_eq_false hno] at this
 ·rintro W ⟨hin,S⟩
  intro w13 e13
  have S:=S.shut e13
  refine S.ce (b:=b6) ?_
  have:=h _ S.ext
  rwa [decide_eq_true hin] at this
end Go.Proofs
end
section
namespace Go.Sh
end Go.Sh
namespace Go.Proofs
open Go.Sh Go.RowKit
set_option maxRecDepth 100000
set_option linter.unusedSimpArgs false
set_option linter.unusedVariables false
end Go.Proofs
end
section
namespace Go.Proofs
open Go.Sh Go.RowKit
set_option maxRecDepth 100000
set_option linter.unusedSimpArgs false
set_option linter.unusedVariables false
theorem akG {A C : List Int} {b p : Int} {q : Nat} (h : A.length=q) : (ints (A++b::C)).set (0+q) (.int .i64 p)=ints (A++p::C):=by
 rw [Nat.zero_add,ints,ints,List.map_append,List.map_append,List.set_append_right _ _ (by rw [List.length_map];omega),List.length_map,h,Nat.sub_self];rfl
end Go.Proofs
end
section
namespace Go.Proofs
open Go.Sh Go.RowKit
set_option maxRecDepth 100000
set_option linter.unusedSimpArgs false
set_option linter.unusedVariables false
end Go.Proofs
end
section
namespace Go.Proofs.Tryz
open Go.Sh
set_option maxRecDepth 100000
def X9 (t0 t1 : Value) (w : World) (K : VW) : Prop:=
 pw w (Instr.box 38 t0) fun t2 w1=>
 zo [(Value.slice Option.none 0 0),(i6 0)] w1 (fun s3 _d4 w5 K2=>
 fl w5 t2 38 6 36 fun t9=>pp (Builtin.len_ #[36] 3 #[t9]) fun t10=>bf .lss 3 (s3.getD 1 undef) t10 fun t11=>zc t11 (za (fun K6=>
 lo w5 38 t2 fun t14=>ca qv #[t14,(s3.getD 1 undef)] w5 fun t16 w10=>
 ca Qd #[t16,t1] w10 fun t18 w11=>
 zc t18 (pw w11 (Instr.buildSlice 28 1 #[(0,(s3.getD 1 undef))]) fun t21 w12=>
 pw w12 (Builtin.append_ #[28,28] 28 #[(s3.getD 0 undef),t21]) fun t22 w13=>
 K6 [t22] w13) (K6 [(s3.getD 0 undef)] w11)) (fun s7 _d8 w9=>
 bt .add 3 (s3.getD 1 undef) (i6 1) fun t13=>K2 [(s7.getD 0 undef),t13] w9)) (K (s3.getD 0 undef) w5))
theorem ab2 {t0 t1 : Value} {w : World} {K : VW} (h : X9 t0 t1 w K) : zd prog vR #[t0,t1] w K:=
 okC false (.s (.r (rz 2 0 2)) (.s (.r (rz 1 0 0)) (.s (.s (.r (rz 1 0 0)) (.b (.lp [5,6] (.s (.s (.r (rz 5 0 16)) (.c (.n) (.n))) (.j [5] (.b (.s (.r (rz 5 0 545)) (.c (.r (rz 5 0 160)) (.n)))) (.r (rz 3 0 0))))))) (.s (.r (rz 2 0 0)) (.n))))) func19 rfl (by kernel_rfl) (by kernel_rfl) h
def V4 (t0 t1 t2 t3 : Value) (w : World) (K : VW) : Prop:=
 pw w (Instr.box 38 t0) fun t4 w1=>
 fl w1 t4 38 6 36 fun t24=>pp (Builtin.len_ #[36] 3 #[t24]) fun t25=>pw w1 (Instr.makeSlice 75 t25 t25) fun t26 w2=>
 zo [(i6 0)] w2 (fun s4 _d5 w6 K3=>
 pp (Builtin.len_ #[28] 3 #[t3]) fun t29=>bf .lss 3 (s4.getD 0 undef) t29 fun t30=>zc t30 (xl w6 28 t3 (s4.getD 0 undef) 3 fun t37=>px 75 t26 t37 fun t38=>so w6 4 t38 tr_ fun w7=>bt .add 3 (s4.getD 0 undef) (i6 1) fun t32=>K3 [t32] w7) (bf .eql 3 t1 t2 fun t41=>zc t41 (pw w6 (Instr.buildSlice 28 1 #[(0,t1)]) fun t43 w8=>
 K (.tuple #[t43,tr_]) w8) (fl w6 t4 38 6 36 fun t45=>pp (Builtin.len_ #[36] 3 #[t45]) fun t46=>pw w6 (Instr.makeSlice 28 t46 t46) fun t47 w9=>
 zo [(i6 0)] w9 (fun s11 _d12 w13 K10=>
 pp (Builtin.len_ #[28] 3 #[t47]) fun t50=>bf .lss 3 (s11.getD 0 undef) t50 fun t51=>zc t51 (px 28 t47 (s11.getD 0 undef) fun t56=>so w13 3 t56 (i6 (-1)) fun w14=>bt .add 3 (s11.getD 0 undef) (i6 1) fun t53=>K10 [t53] w14) (px 28 t47 t2 fun t59=>so w13 3 t59 (i6 0) fun w15=>pw w15 (Instr.buildSlice 28 1 #[(0,t2)]) fun t61 w16=>
 zo [t61,(i6 0)] w16 (fun s18 _d19 w20 K17=>
 pp (Builtin.len_ #[28] 3 #[(s18.getD 0 undef)]) fun t64=>bf .lss 3 (s18.getD 1 undef) t64 fun t65=>zc t65 (lo w20.drew 38 t4 fun t68=>xl w20.drew 28 (s18.getD 0 undef) (s18.getD 1 undef) 3 fun t72=>ca vR #[t68,t72] w20.drew fun t73 w21=>
 zo [(s18.getD 0 undef),(i6 0)] w21 (fun s23 _d24 w25 K22=>
 pp (Builtin.len_ #[28] 3 #[t73]) fun t76=>bf .lss 3 (s23.getD 1 undef) t76 fun t77=>zc t77 (za (fun K26=>
 xl w25 28 t73 (s23.getD 1 undef) 3 fun t84=>xl w25 28 t47 t84 3 fun t86=>bt .lss 3 t86 (i6 0) fun t87=>za (fun K30=>gIf t87 true (xl w25 28 t73 (s23.getD 1 undef) 3 fun t93=>xl w25 75 t26 t93 4 fun t95=>pp (Op.unary .not t95) fun t96=>K30 [t96] w25) (K30 [undef] w25)) (fun s31 _d32 w33=>
 za (fun K34=>gIf (s31.getD 0 undef) false (xl w33 28 t73 (s23.getD 1 undef) 3 fun t101=>bf .eql 3 t101 t1 fun t103=>K34 [t103] w33) (K34 [undef] w33)) (fun s35 _d36 w37=>
 za (fun K38=>gIf t87 true (zb (s31.getD 0 undef) tr_ (s35.getD 0 undef) fun t104=>K38 [t104] w37) (K38 [undef] w37)) (fun s39 _d40 w41=>
 zb t87 (s39.getD 0 undef) fa_ fun t105=>zc t105 (xl w41.drew 28 t73 (s23.getD 1 undef) 3 fun t110=>xl w41.drew 28 (s23.getD 0 undef) (s18.getD 1 undef) 3 fun t115=>xl w41.drew 28 t47 t115 3 fun t117=>bt .add 3 t117 (i6 1) fun t118=>px 28 t47 t110 fun t119=>so w41.drew 3 t119 t118 fun w42=>xl w42 28 t73 (s23.getD 1 undef) 3 fun t123=>bf .neq 3 t123 t1 fun t125=>zc t125 (xl w42 28 t73 (s23.getD 1 undef) 3 fun t130=>pw w42 (Instr.buildSlice 28 1 #[(0,t130)]) fun t131 w43=>
 pw w43 (Builtin.append_ #[28,28] 28 #[(s23.getD 0 undef),t131]) fun t132 w44=>
 K26 [t132] w44) (K26 [(s23.getD 0 undef)] w42)) (K26 [(s23.getD 0 undef)] w41))))) (fun s27 _d28 w29=>
 bt .add 3 (s23.getD 1 undef) (i6 1) fun t79=>K22 [(s27.getD 0 undef),t79] w29)) (bt .add 3 (s18.getD 1 undef) (i6 1) fun t67=>K17 [(s23.getD 0 undef),t67] w25))) (xl w20 28 t47 t1 3 fun t136=>bt .lss 3 t136 (i6 0) fun t137=>zc t137 (K (.tuple #[(Value.slice Option.none 0 0),fa_]) w20) (pw w20 (Instr.buildSlice 28 1 #[(0,t1)]) fun t139 w45=>
 zo [t139,t1] w45 (fun s47 _d48 w49 K46=>
 bf .neq 3 (s47.getD 1 undef) t2 fun t143=>zc t143 (lo w49 38 t4 fun t144=>ca qv #[t144,(s47.getD 1 undef)] w49 fun t146 w50=>
 zo [(i6 (-1)),(i6 0)] w50 (fun s52 _d53 w54 K51=>
 pp (Builtin.len_ #[28] 3 #[t146]) fun t149=>bf .lss 3 (s52.getD 1 undef) t149 fun t150=>zc t150 (za (fun K55=>
 xl w54.drew 28 t146 (s52.getD 1 undef) 3 fun t157=>xl w54.drew 28 t47 t157 3 fun t159=>xl w54.drew 28 t47 (s47.getD 1 undef) 3 fun t163=>bt .sub 3 t163 (i6 1) fun t164=>bf .eql 3 t159 t164 fun t165=>za (fun K59=>gIf t165 true (xl w54.drew 28 t146 (s52.getD 1 undef) 3 fun t170=>bf .neq 3 t170 t1 fun t172=>K59 [t172] w54.drew) (K59 [undef] w54.drew)) (fun s60 _d61 w62=>
 zb t165 (s60.getD 0 undef) fa_ fun t173=>za (fun K63=>gIf t173 true (bt .lss 3 (s52.getD 0 undef) (i6 0) fun t176=>K63 [t176] w62) (K63 [undef] w62)) (fun s64 _d65 w66=>
 za (fun K67=>gIf (s64.getD 0 undef) false (xl w66 28 t146 (s52.getD 1 undef) 3 fun t181=>bf .lss 3 t181 (s52.getD 0 undef) fun t183=>K67 [t183] w66) (K67 [undef] w66)) (fun s68 _d69 w70=>
 za (fun K71=>gIf t173 true (zb (s64.getD 0 undef) tr_ (s68.getD 0 undef) fun t184=>K71 [t184] w70) (K71 [undef] w70)) (fun s72 _d73 w74=>
 zb t173 (s72.getD 0 undef) fa_ fun t185=>zc t185 (xl w74 28 t146 (s52.getD 1 undef) 3 fun t189=>K55 [t189] w74) (K55 [(s52.getD 0 undef)] w74)))))) (fun s56 _d57 w58=>
 bt .add 3 (s52.getD 1 undef) (i6 1) fun t152=>K51 [(s56.getD 0 undef),t152] w58)) (pw w54 (Instr.buildSlice 28 1 #[(0,(s52.getD 0 undef))]) fun t193 w75=>
 pw w75 (Builtin.append_ #[28,28] 28 #[(s47.getD 0 undef),t193]) fun t194 w76=>
 K46 [t194,(s52.getD 0 undef)] w76))) (K (.tuple #[(s47.getD 0 undef),tr_]) w49))))))))))
theorem afz {t0 t1 t2 t3 : Value} {w : World} {K : VW} (h : V4 t0 t1 t2 t3 w K) : zd prog Xt #[t0,t1,t2,t3] w K:=
 okC false (.s (.r (rz 3 0 2)) (.s (.r (rz 5 0 132)) (.s (.s (.r (rz 1 0 0)) (.b (.lp [11] (.s (.s (.r (rz 4 0 0)) (.c (.n) (.n))) (.s (.b (.r (rz 7 0 8448))) (.r (rz 3 0 0))))))) (.s (.s (.r (rz 3 0 0)) (.c (.s (.r (rz 4 0 8)) (.n)) (.n))) (.s (.r (rz 5 0 132)) (.s (.s (.r (rz 1 0 0)) (.b (.lp [13] (.s (.s (.r (rz 4 0 0)) (.c (.n) (.n))) (.s (.b (.r (rz 4 0 128))) (.r (rz 3 0 0))))))) (.s (.r (rz 4 0 128)) (.s (.r (rz 3 0 8)) (.s (.s (.r (rz 1 0 0)) (.b (.lp [14,15] (.s (.s (.r (rz 4 0 0)) (.c (.n) (.n))) (.s (.b (.s (.r (rz 7 0 2305)) (.s (.r (rz 1 0 0)) (.b (.lp [14,17] (.s (.s (.r (rz 4 0 0)) (.c (.n) (.n))) (.j [14] (.b (.s (.r (ra 9 0 4352 (.grp 88 true (ri 9 9 4352) [97] (.grp 97 false (ri 6 18 64) [103] (.grp 88 true (ri 1 24 0) [104] (rz 1 25 0)))))) (.c (.s (.r (rz 15 0 541327616)) (.s (.r (rz 6 0 64)) (.c (.r (rz 8 0 10496)) (.n)))) (.n)))) (.r (rz 3 0 0))))))))) (.r (rz 3 0 0))))))) (.s (.s (.r (rz 5 0 64)) (.c (.s (.r (rz 2 0 0)) (.n)) (.n))) (.s (.r (rz 3 0 8)) (.s (.s (.r (rz 2 0 0)) (.b (.lp [18,19] (.s (.s (.r (rz 3 0 0)) (.c (.n) (.n))) (.b (.s (.r (rz 4 0 33)) (.s (.r (rz 1 0 0)) (.s (.s (.r (rz 1 0 0)) (.b (.lp [21,22] (.s (.s (.r (rz 4 0 0)) (.c (.n) (.n))) (.j [21] (.b (.s (.r (ra 14 0 1052928 (.grp 166 true (ri 6 14 64) [172] (ra 2 20 0 (.grp 174 true (ri 3 22 0) [177] (.grp 177 false (ri 6 25 64) [183] (.grp 174 true (ri 1 31 0) [184] (rz 1 32 0)))))))) (.c (.r (rz 5 0 64)) (.n)))) (.r (rz 3 0 0))))))) (.s (.r (rz 2 0 0)) (.r (rz 5 0 160))))))))))) (.s (.r (rz 3 0 0)) (.n)))))))))))))) func32 rfl (by kernel_rfl) (by kernel_rfl) h
def JX (t0 t1 : Value) (w : World) (K : VW) : Prop:=
 pw w (Instr.box 38 t0) fun t2 w1=>
 lo w1 38 t2 fun t5=>ca Ym #[t5,t1] w1 fun t7 w2=>
 K t7 w2
theorem ad8 {t0 t1 : Value} {w : World} {K : VW} (h : JX t0 t1 w K) : zd prog qv #[t0,t1] w K:=
 okC false (.s (.r (rz 2 0 2)) (.s (.r (rz 4 0 33)) (.n))) func49 rfl (by kernel_rfl) (by kernel_rfl) h
def ab4 (t0 t1 : Value) (w : World) (K : VW) : Prop:=
 zo [(i6 0)] w (fun s2 _d3 w4 K1=>
 pp (Builtin.len_ #[28] 3 #[t0]) fun t8=>bf .lss 3 (s2.getD 0 undef) t8 fun t9=>zc t9 (xl w4 28 t0 (s2.getD 0 undef) 3 fun t15=>bf .eql 3 t15 t1 fun t17=>zc t17 (K tr_ w4) (bt .add 3 (s2.getD 0 undef) (i6 1) fun t11=>K1 [t11] w4)) (K fa_ w4))
theorem af9 {t0 t1 : Value} {w : World} {K : VW} (h : ab4 t0 t1 w K) : zd prog Qd #[t0,t1] w K:=
 okC false (.s (.r (rz 1 0 0)) (.s (.s (.r (rz 1 0 0)) (.b (.lp [5] (.s (.s (.r (rz 4 0 0)) (.c (.n) (.n))) (.s (.b (.s (.r (rz 6 0 64)) (.c (.s (.r (rz 1 0 0)) (.n)) (.n)))) (.r (rz 3 0 0))))))) (.s (.r (rz 1 0 0)) (.n)))) func63 rfl (by kernel_rfl) (by kernel_rfl) h
end Go.Proofs.Tryz
end
section
namespace Go.Proofs
open Go.Sh Go.RowKit
set_option maxRecDepth 100000
set_option linter.unusedSimpArgs false
set_option linter.unusedVariables false
theorem Qv {g : GrD} {q : Int} {c : List Value} {w : World} {r : Gh} {K : Value→World→Prop} (hr : Holds r w) (hg : GrG r c g) (hq : isN (zh g) q)
  (h : ∀ v' s w',Ext w w'→New w s w'→SlG 1 s zH v' (nxt (zh g) q)→K v' w') : zd Tryz.prog Tryz.qv #[.agg c.toArray,.int .i64 q] w K:=by
 refine Tryz.ad8 ?_
 unfold Tryz.JX
 have hg0:=hg
 obtain ⟨x1,x2,x3,x4,y1,y2,y3,y4,rfl,_⟩:=jT hg
 have S:=St.start hr
 refine S.box fun b2 w1 S=>?_
 have S : StX noX w r w1 [.cell b2 (grL g x1 x2 x3 x4 y1 y2 y3 y4) 38]:=S
 refine S.ldB (b:=b2) ?_ rfl
 have h0:=hq.1;have h1:=hq.2
 rw [zS] at h1
 refine afh S.holds hg0 h0 (by omega) rfl fun v' s w2 e2 n2 hs=>?_
 obtain ⟨S,_,a2⟩:=S.tell e2 n2
 rw [agw hq] at h
 exact h _ s _ S.ext (StX.newOf S a2) hs
theorem ajD {l : List Int} {x : Int} {v : Value} {w : World} {r : Gh} {K : Value→World→Prop} (hr : Holds r w) (hl : SlG 1 r zH v l) (hf : l.length≤maxLen)
  (h : K (.bool (decide (x ∈ l))) w) : zd Tryz.prog Tryz.Qd #[v,.int .i64 x] w K:=by
 refine Tryz.af9 ?_
 unfold Tryz.ab4
 obtain ⟨p,cap,rfl,_,_⟩:=hl.shape
 have hf : l.length≤9223372036854775807:=hf
 refine zi (ι:=Nat) (fun i=>[.int .i64 (i : Nat)]) (fun i w'=>w'=w∧i≤l.length∧x ∉ l.take i) (fun i=>l.length - i) 0 rfl ⟨rfl,Nat.zero_le _,by simp⟩ ?_
 rintro i d w' ⟨rfl,hi,hn⟩ K1 hK1
 simp only [List.getD_cons_zero]
 refine gp_ ?_
 refine gp_ ?_
 refine zk (fun hlt=>?_) (fun hge=>?_)
 ·have hlt : i<l.length:=by omega
  obtain ⟨b,off,rfl,_,hc⟩:=zY hl hlt
  refine gp_ ?_
  refine zg (by rw [Int.toNat_natCast];exact hc _ hr) ?_
  refine gp_ ?_
  refine zk (fun he=>?_) (fun he=>?_)
  ·rw [decide_eq_true (by rw [← he];exact List.getElem_mem hlt)] at h
   exact h
  ·refine gp_ ?_
   refine hK1 (i+1) _ ⟨rfl,hlt,?_⟩ (by omega)
   rw [List.take_succ_eq_append_getElem hlt,List.mem_append,List.mem_singleton]
   exact fun h=>h.elim hn fun e=>he e.symm
 ·have : i=l.length:=by omega
  subst this
  rw [List.take_length] at hn
  rw [decide_eq_false hn] at h
  exact h
theorem ab5 {n : zz} {i : Nat} (hi : i<n.length) : n[i]=nxt n (i : Nat):=by
 rw [JM ⟨Int.natCast_nonneg i,by omega⟩];simp
theorem afA {g : GrD} {q : Int} {c : List Value} {w : World} {r : Gh} {K : Value→World→Prop} (hr : Holds r w) (hg : GrG r c g) (hF : afu (zh g))
  (h : ∀ v' s w',Ext w w'→New w s w'→SlG 1 s zH v' (befN (zh g) q)→K v' w') : zd Tryz.prog Tryz.vR #[.agg c.toArray,.int .i64 q] w K:=by
 refine Tryz.ab2 ?_
 unfold Tryz.X9
 have hg0:=hg
 obtain ⟨x1,x2,x3,x4,y1,y2,y3,y4,rfl,hg1⟩:=jT hg
 have hfew:=hF.few
 have hgl:=zS (g:=g)
 have S:=St.start hr
 refine S.box fun b2 w1 S=>?_
 have S : StX noX w r w1 [.cell b2 (grL g x1 x2 x3 x4 y1 y2 y3 y4) 38]:=S
 have S:=S.ownNil 3 1
 refine zi (ι:=Nat × Value) (fun i=>[i.2,.int .i64 (i.1 : Nat)]) (fun i w'=>i.1≤(zh g).length∧StX noX w r w' [.row i.2 3 1 (befN ((zh g).take i.1) q).length (ints (befN ((zh g).take i.1) q)),.cell b2 (grL g x1 x2 x3 x4 y1 y2 y3 y4) 38]) (fun i=>(zh g).length - i.1) (0,.slice none 0 0) rfl ⟨Nat.zero_le _,S⟩ ?_
 repeat clear S
 rintro ⟨i,vp⟩ d w3 ⟨hi,S⟩ K1 hK1
 simp only at hi S ⊢
 simp only [List.getD_cons_zero,List.getD_cons_succ]
 refine gg_ ?_
 refine zk (fun hlt=>?_) (fun hge=>?_)
 ·have hlt : i<(zh g).length:=by omega
  have hsn:=ajA (q:=q) hlt
  have hml : (befN ((zh g).take i) q).length≤1000000:=Nat.le_trans akE (by rw [List.length_take];omega)
  have hiN : isN (zh g) (i : Nat):=⟨Int.natCast_nonneg i,by omega⟩
  have hnl : (nxt (zh g) (i : Nat)).length≤2:=by rw [← ab5 hlt];exact hF.nar _ (List.getElem_mem hlt)
  refine zp (fun s w'=>∃ vq,s = [vq]∧StX noX w r w' [.row vq 3 1 (befN ((zh g).take (i+1)) q).length (ints (befN ((zh g).take (i+1)) q)),.cell b2 (grL g x1 x2 x3 x4 y1 y2 y3 y4) 38]) (fun K5 hK5=>?_) ?_
  ·refine S.ldB (b:=b2) ?_ rfl
   refine Qv S.holds hg0 hiN fun v' s w4 e4 n4 hs=>?_
   obtain ⟨S,_,_⟩:=S.tell e4 n4
   refine ajD S.holds hs.cells (Nat.le_trans hnl (by decide)) ?_
   rw [ab5 hlt] at hsn
   refine zk (fun hb=>?_) (fun hb=>?_)
   ·refine S.lit (e:=3) (cs:=[.int .i64 (i : Nat)]) (by kernel_rfl) fun b5 w5 S=>?_
    refine S.ap (m':=1) (Sl.blk (S.blk b5)) (fun v4 w6 S=>?_) (by omega)
    have S:=S.drop b5
    refine hK5 _ _ ⟨v4,rfl,?_⟩
    rw [hsn,if_pos hb,yX,List.length_append];exact S.to _
   ·refine hK5 _ _ ⟨vp,rfl,?_⟩
    rw [hsn,if_neg hb,List.append_nil];exact S.to _
  rintro s w4 ⟨vq,rfl,S⟩ d
  simp only [List.getD_cons_zero]
  refine gp_ ?_
  exact hK1 (i+1,vq) _ ⟨hlt,S⟩ (by show (zh g).length - (i+1)<(zh g).length - i;omega)
 have hie : i=(zh g).length:=by omega
 subst hie
 rw [List.take_length] at S
 obtain ⟨s,T,hs,_,hab⟩:=S.doneRow yk (by decide) rfl
 exact h _ s _ T.ext (StX.newOf (q:=s) T fun b o ho=>(hab b o ho).resolve_right id) hs
end Go.Proofs
end
section
namespace Go.Proofs
open Go.Sh Go.RowKit
set_option maxRecDepth 100000
set_option linter.unusedSimpArgs false
set_option linter.unusedVariables false
end Go.Proofs
end
section
namespace Go.Proofs
open Go.Sh Go.RowKit
set_option maxRecDepth 100000
set_option linter.unusedSimpArgs false
set_option linter.unusedVariables false
theorem alz {k : Nat} {x : Int} : mk' (List.replicate k false) x=false:=by
 rw [mk',List.getD_eq_getElem?_getD,List.getElem?_replicate];split<;>rfl
end Go.Proofs
end
section
namespace Go.Sh
end Go.Sh
namespace Go.Proofs
open Go.Sh Go.RowKit
set_option maxRecDepth 100000
set_option linter.unusedSimpArgs false
set_option linter.unusedVariables false
end Go.Proofs
end
section
namespace Go.Proofs
open Go.Sh Go.RowKit
set_option maxRecDepth 100000
set_option linter.unusedSimpArgs false
set_option linter.unusedVariables false
end Go.Proofs
end
section
namespace Go.Proofs
set_option linter.unusedSimpArgs false
set_option linter.unusedVariables false
end Go.Proofs
end
section
namespace Go.Proofs
open Go.Sh Go.RowKit
set_option maxRecDepth 100000
set_option linter.unusedSimpArgs false
set_option linter.unusedVariables false
theorem ajE {m : List Bool} {x : Int} (h : x.toNat<m.length) : (bls m)[0+x.toNat]? = some (.bool (mk' m x)):=by
 rw [Nat.zero_add,bls,List.getElem?_map,mk',List.getD_eq_getElem?_getD,List.getElem?_eq_getElem h];rfl
end Go.Proofs
end
section
namespace Go.Proofs
open Go.Sh Go.RowKit
set_option maxRecDepth 100000
set_option linter.unusedSimpArgs false
set_option linter.unusedVariables false
end Go.Proofs
end
section
namespace Go.Proofs.Tryz
open Go.Sh
set_option maxRecDepth 100000
end Go.Proofs.Tryz
end
section
namespace Go.Proofs
open Go.Sh Go.RowKit
set_option maxRecDepth 100000
set_option linter.unusedSimpArgs false
set_option linter.unusedVariables false
end Go.Proofs
end
section
namespace Go.Proofs
open Go.Sh
set_option maxRecDepth 100000
set_option linter.unusedSimpArgs false
set_option linter.unusedVariables false
end Go.Proofs
end
section
namespace Go.Proofs
open Go.Sh
set_option maxRecDepth 100000
set_option linter.unusedSimpArgs false
set_option linter.unusedVariables false
end Go.Proofs
end
section
namespace Go.Proofs
open Go.Sh
set_option maxRecDepth 100000
set_option linter.unusedSimpArgs false
set_option linter.unusedVariables false
end Go.Proofs
end
