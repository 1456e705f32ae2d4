/-
  Heads of graphs: plain facts, and what the tables hold.
  Contracts: what types imply.
  Contracts: what outlives what.
  Elements of rows of one's own written over.
  Contracts: places among types: walk, May, Type.
  A map of strings of one's own: made, filled, asked.
  Contracts: whether a point is as it must be.
  Which programs may be: what it tells when one may.
  Contracts: heads of graphs; Check and May of graph.
  Contracts: the regions of a function, numbered.
  Contracts: all regions of a function; Of, Width.
  Contracts: Of, Width, Place, Borrowed, Called of region.
  Texts of points, of both sides.
  Contracts: Borrowed, Called of region.
  Contracts: SameType of the reference, typeFits and spoil of law 13.
  Contracts: the example of law 13, and what is told of it.
  What is told of the example of law 13; awake.
  Contracts: fits of law 13; lists of numbers read in a memory that stays.
  What is cleared: the end of a slice of one's own.
  Contracts: a function, a point of a program; Assigns, Type, Operands of graph.
  graph.Text, graph.Lines, graph.Next.
  Shallow readings of functions. Made by a program (wip/gen/gen.py) out of the translation; the kernel checks each equality.
  Points compared: slices.EqualFunc of any kind; places, operands, points.
  graph.Same: two programs are the same.
  graph.Same: points, graphs, structs, units compared.
  graph.Same: graphs, structs, units compared.
  loanwordlaw10: fits; graph.Next.
-/
import Derived.Test.YtngfnikkdhbajaaGreatDoorQPc
import Derived.MapKept
import Derived.Test.YtngfnikkdhbajaaGreatDoorQPb
import GoSem.Builtin.Clear
section
namespace Go.Proofs
open Go.Sh
set_option linter.unusedVariables false
def yq (f : Nat→Nat→Bool) : List Value:=(List.range 64).map fun k=>.bool (f (k / 8) (k % 8))
theorem Zm {f : Nat→Nat→Bool} : (yq f).length=64:=by rw [yq,List.length_map,List.length_range]
theorem J3 {f : Nat→Nat→Bool} {k : Nat} (h : k<64) : (yq f)[k]? = some (.bool (f (k / 8) (k % 8))):=by
 rw [yq,List.getElem?_map,List.getElem?_range h];rfl
theorem adM {f : Nat→Nat→Bool} {x y : Nat} (hx : x<8) (hy : y<8) : (yq f)[x*8+y]? = some (.bool (f x y)):=by
 rw [J3 (by omega),show (x*8+y) / 8=x by omega,show (x*8+y) % 8=y by omega]
theorem kc {f g : Nat→Nat→Bool} (h : ∀ x y,x<8→y<8→f x y=g x y) : yq f=yq g:=by
 refine List.map_congr_left fun k hk=>?_
 have:=List.mem_range.1 hk
 rw [h _ _ (by omega) (by omega)]
theorem aaO {f : Nat→Nat→Bool} {x y : Nat} (hx : x<8) (hy : y<8) : (yq f).set (x*8+y) (.bool true)=yq fun a b=>f a b||(decide (a=x)&&decide (b=y)):=by
 refine List.ext_getElem? fun k=>?_
 by_cases hk : k<64
 ·rw [List.getElem?_set,J3 hk,J3 hk]
  by_cases e : x*8+y=k
  ·rw [if_pos e,if_pos (by rw [Zm];omega)]
   subst e
   rw [show (x*8+y) / 8=x by omega,show (x*8+y) % 8=y by omega];simp
  ·rw [if_neg e]
   by_cases e1 : k / 8=x
   ·rw [decide_eq_false (show ¬ k % 8=y by omega),Bool.and_false,Bool.or_false]
   ·rw [decide_eq_false e1,Bool.false_and,Bool.or_false]
 ·rw [List.getElem?_eq_none (by rw [List.length_set,Zm];omega),List.getElem?_eq_none (by rw [Zm];omega)]
theorem acY {x y : Int} {a : Int} {l : List Int} : jo x y (a::l)=((decide (a=y)&&l.contains x)||jo x y l):=rfl
theorem adN {l : List Int} {i : Nat} {x : Int} (h : i<l.length) : (l.take (i+1)).contains x=((l.take i).contains x||decide (x=l[i])):=by
 rw [List.take_succ_eq_append_getElem h,List.contains_eq_any_beq,List.any_append,← List.contains_eq_any_beq]
 simp only [List.any_cons,List.any_nil,Bool.or_false]
 congr 1
theorem acZ {x y : Int} {l : List TyD} {i : Nat} (h : i<l.length) : jp (l.take (i+1)) x y=(jp (l.take i) x y||jo x y (y8 l[i])):=by
 rw [List.take_succ_eq_append_getElem h,jp,List.any_append,jp]
 simp only [List.any_cons,List.any_nil,Bool.or_false]
theorem ac0 {x y : Int} {l : List (Int × Int)} {i : Nat} (h : i<l.length) : jM (l.take (i+1)) x y=(jM (l.take i) x y||(decide (x=l[i].1)&&decide (y=l[i].2))):=by
 rw [jM,List.take_succ_eq_append_getElem h,List.contains_eq_any_beq,List.any_append,← List.contains_eq_any_beq,← jM]
 simp only [List.any_cons,List.any_nil,Bool.or_false]
 congr 1
def jE (lv : Int) : Option (Int × Int)→List (Int × Int)→Bool
 |_,[]=>true
 |w,o::l=>(xi lv o&&(match w with|none=>true|some w=>jq w o))&&jE lv (some o) l
theorem Vs (lv : Int) : ∀ (l : List (Int × Int)) (w : Int × Int),jE lv (some w) l=(l.all (xi lv)&&YD (w::l))
 |[],w=>rfl
 |o::l,w=>by
  rw [jE,Vs lv l o,List.all_cons,YD]
  cases xi lv o<;>cases jq w o<;>cases l.all (xi lv)<;>simp
theorem ac1 (lv : Int) (l : List (Int × Int)) : jE lv none l=(l.all (xi lv)&&YD l):=by
 cases l with
 |nil=>rfl
 |cons o l=>
  rw [jE,Vs lv l o,List.all_cons]
  cases xi lv o<;>cases l.all (xi lv)<;>simp
theorem aeH {lv : Int} {w : Option (Int × Int)} {l : List (Int × Int)} {i : Nat} (h : i<l.length) : jE lv w (l.drop i)=((xi lv l[i]&&(match w with|none=>true|some w=>jq w l[i]))&&jE lv (some l[i]) (l.drop (i+1))):=by
 rw [List.drop_eq_getElem_cons h];rfl
theorem afm {o w : Int × Int} : (decide (o.1<w.1)||(decide (w.1=o.1)&&decide (o.2≤w.2))) = !jq w o:=by
 unfold jq
 rcases Int.lt_trichotomy o.1 w.1 with h|h|h
 ·rw [decide_eq_true h,decide_eq_false (show ¬ w.1<o.1 by omega),decide_eq_false (show ¬ w.1=o.1 by omega)];rfl
 ·rw [decide_eq_false (show ¬ o.1<w.1 by omega),decide_eq_false (show ¬ w.1<o.1 by omega),decide_eq_true (show w.1=o.1 by omega)]
  by_cases h2 : o.2≤w.2
  ·rw [decide_eq_true h2,decide_eq_false (show ¬ w.2<o.2 by omega)];rfl
  ·rw [decide_eq_false h2,decide_eq_true (show w.2<o.2 by omega)];rfl
 ·rw [decide_eq_false (show ¬ o.1<w.1 by omega),decide_eq_true (show w.1<o.1 by omega),decide_eq_false (show ¬ w.1=o.1 by omega)];rfl
theorem ab4 {n i : Nat} (h : i<n) : (List.range n).drop i=i::(List.range n).drop (i+1):=by
 rw [List.drop_eq_getElem_cons (by rwa [List.length_range]),List.getElem_range]
theorem Xx {n i : Nat} {f : Nat→Bool} (h : i<n) : ((List.range n).drop i).all f=(f i&&((List.range n).drop (i+1)).all f):=by rw [ab4 h,List.all_cons]
theorem Xy {n : Nat} {f : Nat→Bool} : ((List.range n).drop n).all f=true:=by rw [List.drop_of_length_le (by rw [List.length_range];exact Nat.le_refl _)];rfl
theorem Vt {u : UnD} {g : GrD} {i : Nat} {t : TyD} {l : List TyD} : kP u g i (t::l)=(tyG u g i t&&kP u g (i+1) l):=rfl
theorem ac2 {u : UnD} {g : GrD} {i j : Nat} {l : List TyD} (h : i<l.length) : kP u g j (l.drop i)=(tyG u g j l[i]&&kP u g (j+1) (l.drop (i+1))):=by rw [List.drop_eq_getElem_cons h];rfl
theorem QK {u : UnD} {g : GrD} : ∀ {l : List TyD} {i : Nat},kP u g i l=true→∀ t ∈ l,x7 u.ss t=true
 |[],i,_,t,ht=>by cases ht
 |x::l,i,h,t,ht=>by
  rw [Vt,Bool.and_eq_true] at h
  rcases List.mem_cons.1 ht with rfl|ht
  ·have:=h.1
   rw [tyG,Bool.and_eq_true] at this
   exact this.1
  ·exact QK h.2 t ht
theorem aaP {u : UnD} {g : GrD} : ∀ {l : List TyD} {i : Nat},kP u g i l=true→∀ {j : Nat} (hj : j<l.length),((i+j : Nat) : Int)≤g.pn→∀ x ∈ y8 l[j],0≤x∧x<g.lv
 |[],i,_,j,hj,_=>absurd hj (Nat.not_lt_zero _)
 |y::l,i,h,j,hj,hle=>by
  rw [Vt,Bool.and_eq_true] at h
  cases j with
  |zero=>
   have:=h.1
   rw [tyG,Bool.and_eq_true,List.all_eq_true] at this
   intro x hx
   have:=this.2 x hx
   rw [if_pos (by omega)] at this
   simp only [Bool.not_eq_true',Bool.or_eq_false_iff,decide_eq_false_iff_not] at this
   omega
  |succ j=>exact aaP h.2 (j:=j) (by simpa using hj) (by omega)
theorem Jp {l : List PtD} {i : Nat} (h : i<l.length) : zJ (l.take (i+1))=zJ (l.take i)+(if l[i].op=4 then 1 else 0):=by
 rw [List.take_succ_eq_append_getElem h,zJ,List.countP_append,zJ]
 congr 1
 rw [List.countP_singleton]
 by_cases e : l[i].op=4<;>simp [e]
end Go.Proofs
end
section
namespace Go.Proofs
open Go.Sh
set_option maxRecDepth 100000
set_option linter.unusedSimpArgs false
set_option linter.unusedVariables false
theorem Sl.tail {w : World} {p : Option Addr} {a : Int} {l : List Int} {cap : Nat} (h : Sl w p (ints (a::l))) (hc : (a::l).length≤cap) : Sl w (if cap=(1 : Int).toNat then p else p.map (·.add ((1 : Int).toNat*1))) (ints l):=fun i v hv=>by
 have h1:=h (i+1) v (by simpa [ints] using hv)
 have hi : i<l.length:=by
  have:=(List.getElem?_eq_some_iff.1 hv).1
  rwa [kM] at this
 obtain ⟨b,off,hp,hcell⟩:=h1
 rw [List.length_cons] at hc
 rw [if_neg (show ¬ cap=(1 : Int).toNat by have : (1 : Int).toNat=1:=rfl;omega),hp,Option.map_some,xA]
 exact ⟨b,off+1,rfl,by rwa [show off+1+i=off+(i+1) by omega]⟩
abbrev fvI (b3 b4 : Nat) : Value:=.func (.func Tryz.vr) #[] #[.pointer (some ⟨b3,0,none⟩),.pointer (some ⟨b4,0,none⟩)]
abbrev ab5 (f : Nat→Nat→Bool) (l : List Int) : Nat→Nat→Bool:=fun x y=>f x y||jo x y l
abbrev J4 (f : Nat→Nat→Bool) (a : Int) (l : List Int) : Nat→Nat→Bool:=fun x y=>f x y||(decide (a=(y : Int))&&l.contains (x : Int))
theorem abl {b3 b4 bt : Nat} {M : List Asr} {w0 : World} {r : Gh} : ∀ (l : List Int) {p : Option Addr} {cap : Nat} {f : Nat→Nat→Bool} {w : World} {K : Value→World→Prop},(∀ x ∈ l,0≤x∧x<8)→(Ob r fun w=>Sl w p (ints l))→l.length≤cap→l.length≤1000→
  StX noX w0 r w (.cell b4 [fvI b3 b4] 126 :: .cell b3 [.pointer (some ⟨bt,0,none⟩)] 210 :: .cell bt (yq f) 208::M)→
  (∀ w',StX noX w0 r w' (.cell b4 [fvI b3 b4] 126 :: .cell b3 [.pointer (some ⟨bt,0,none⟩)] 210 :: .cell bt (yq (ab5 f l)) 208::M)→K (.tuple #[]) w')→
  zQ Tryz.prog (fvI b3 b4) #[.slice p l.length cap] w K:=by
 intro l
 induction l with
 |nil=>
  intro p cap f w K hx hl hc hb S h
  refine V1 (by kernel_rfl) ?_
  refine Tryz.jW ?_
  unfold Tryz.qi
  refine gP_ ?_
  refine gP_ ?_
  refine c_t (by simp) ?_
  refine h _ ?_
  rw [kc (g:=f) (fun x y _ _=>by show (f x y||jo x y [])=f x y;rw [jo,Bool.or_false])]
  exact S
 |cons a l ih=>
  intro p cap f w K hx hl hc hb S h
  refine V1 (by kernel_rfl) ?_
  refine Tryz.jW ?_
  unfold Tryz.qi
  obtain ⟨ha0,ha8⟩:=hx a List.mem_cons_self
  have hxl : ∀ x ∈ l,0≤x∧x<8:=fun x h=>hx x (List.mem_cons_of_mem _ h)
  have hal : (a::l).length=l.length+1:=List.length_cons
  have hll : l.length≤1000:=by rw [List.length_cons] at hb;omega
  have hlc : l.length+1≤cap:=by rwa [List.length_cons] at hc
  have hsl : Ob r fun w=>Sl w (if cap=(1 : Int).toNat then p else p.map (·.add ((1 : Int).toNat*1))) (ints l):=fun w k=>Sl.tail (hl w k) hc
  have hlen : (a::l).length - (1 : Int).toNat=l.length:=by simp
  obtain ⟨bp,op,rfl,hcell⟩:=JV (S.at hl) (i:=0) (by simp)
  refine gP_ ?_
  refine gP_ ?_
  refine c_f (by rw [List.length_cons];exact decide_eq_false (by omega)) ?_
  refine gP_ ?_
  rw [hlen]
  refine gP_ ?_
  obtain ⟨p2,hp2⟩ : ∃ p2,(if cap=(1 : Int).toNat then (some ⟨bp,op,none⟩ : Option Addr) else (some ⟨bp,op,none⟩ : Option Addr).map (·.add ((1 : Int).toNat*1)))=p2:=⟨_,rfl⟩
  rw [hp2] at hsl ⊢
  refine zk (ι:=Nat) (fun i=>[.int .i64 (i : Nat)]) (fun i w'=>i≤l.length∧StX noX w0 r w' (.cell b4 [fvI b3 b4] 126 :: .cell b3 [.pointer (some ⟨bt,0,none⟩)] 210 :: .cell bt (yq (J4 f a (l.take i))) 208::M)) (fun i=>l.length - i) 0 rfl
   ⟨Nat.zero_le _,by
    rw [kc (f:=J4 f a (l.take 0)) (g:=f) (fun x y _ _=>by simp [J4])]
    exact S⟩ ?_
  clear S
  rintro i d w1 ⟨hi,S⟩ K6 hK6
  rw [List.getD_cons_zero]
  refine gP_ ?_
  refine zg (fun hlt=>?_) (fun hge=>?_)
  ·have hlt : i<l.length:=by omega
   obtain ⟨bq,oq,rfl,hcell2⟩:=JV (S.at hsl) hlt
   obtain ⟨hi0,hi8⟩:=hxl _ (List.getElem_mem hlt)
   have S:=S.go (Ext.drew _)
   refine gP_ ?_
   refine zG (v:=.int .i64 l[i]) (by simpa using hcell2) ?_
   refine S.ld (b:=b3) ?_ rfl
   refine gP_ ?_
   have hc0:=(S.at hl 0 (.int .i64 a) (by simp [ints]))
   refine zG (v:=.int .i64 a) (by obtain ⟨b',o',h1,h2⟩:=hc0;cases h1;simpa using h2) ?_
   refine gG_ ?_
   refine S.st (b:=bt) (fun w2 S=>?_) (by rw [Zm];omega)
   refine gP_ ?_
   rw [show ((i : Int)+1)=((i+1 : Nat) : Int) by omega]
   refine hK6 (i+1) _ ⟨hlt,?_⟩ (by omega)
   rw [show 0+l[i].toNat*8+a.toNat*1=l[i].toNat*8+a.toNat by omega,aaO (by omega) (by omega)] at S
   rw [kc (f:=J4 f a (l.take (i+1))) (g:=fun x y=>J4 f a (l.take i) x y||(decide (x=l[i].toNat)&&decide (y=a.toNat))) (fun x y _ _=>by
    show (f x y||(decide (a=(y : Int))&&(l.take (i+1)).contains (x : Int)))=((f x y||(decide (a=(y : Int))&&(l.take i).contains (x : Int)))||(decide (x=l[i].toNat)&&decide (y=a.toNat)))
    rw [adN hlt,show decide ((x : Int)=l[i])=decide (x=l[i].toNat) from decide_eq_decide.2 (by omega),show decide (a=(y : Int))=decide (y=a.toNat) from decide_eq_decide.2 (by omega)]
    cases f x y<;>cases decide (y=a.toNat)<;>cases (l.take i).contains (x : Int)<;>cases decide (x=l[i].toNat)<;>rfl)]
   exact S
  ·have hie : i=l.length:=by omega
   rw [hie,List.take_length] at S
   have S:=S.go (Ext.drew _)
   refine S.ld (b:=b4) ?_ rfl
   refine gP_ ?_
   rw [hlen,hp2]
   refine ih hxl hsl (by show l.length≤cap - (1 : Int).toNat;have : (1 : Int).toNat=1:=rfl;omega) hll S fun w2 S=>?_
   refine h _ ?_
   rw [kc (f:=ab5 f (a::l)) (g:=ab5 (J4 f a l) l) (fun x y _ _=>by
    show (f x y||jo x y (a::l))=((f x y||(decide (a=(y : Int))&&l.contains (x : Int)))||jo x y l)
    rw [acY,Bool.or_assoc])]
   exact S
abbrev QL (f : Nat→Nat→Bool) (l : List TyD) : Nat→Nat→Bool:=fun x y=>f x y||jp l x y
theorem Jq {bt : Nat} {M : List Asr} {w0 : World} {r : Gh} {l : List TyD} {q : Option Addr} {cap : Nat} {f : Nat→Nat→Bool} {w : World} {K : Value→World→Prop} (hl : TysG r q l) (hn : l.length≤maxLen) (hx : ∀ t ∈ l,∀ x ∈ y8 t,0≤x∧x<8)
  (S : StX noX w0 r w (.cell bt (yq f) 208::M))
  (h : ∀ w',StX noX w0 r w' (.cell bt (yq (QL f l)) 208::M)→K (.tuple #[]) w') : zd Tryz.prog Tryz.jf #[.slice q l.length cap,.pointer (some ⟨bt,0,none⟩)] w K:=by
 refine Tryz.Qv ?_
 unfold Tryz.ZD
 have hn' : l.length≤9223372036854775807:=hn
 refine S.box fun b3 w1 S=>?_
 refine S.al fun b4 w2 S=>?_
 refine gP_ ?_
 refine S.st (b:=b4) fun w3 S=>?_
 refine gP_ ?_
 refine zk (ι:=Nat) (fun i=>[.int .i64 (i : Nat)]) (fun i w'=>i≤l.length∧StX noX w0 r w' (.cell b4 [fvI b3 b4] 126 :: .cell b3 [.pointer (some ⟨bt,0,none⟩)] 210 :: .cell bt (yq (QL f (l.take i))) 208::M)) (fun i=>l.length - i) 0 rfl
  ⟨Nat.zero_le _,by
   rw [kc (f:=QL f (l.take 0)) (g:=f) (fun x y _ _=>by simp [QL,jp])]
   exact S⟩ ?_
 clear S
 rintro i d w4 ⟨hi,S⟩ K6 hK6
 rw [List.getD_cons_zero]
 refine gP_ ?_
 refine zg (fun hlt=>?_) (fun hge=>?_)
 ·have hlt : i<l.length:=by omega
  obtain ⟨b1,o1,c1,rfl,hc1,htc,hto⟩:=hl i hlt
  obtain ⟨q2,cap2,rfl,ht2⟩:=qV hto
  refine gP_ ?_
  refine zt (n:=5) hc1 (fun j v hj=>by rw [Int.toNat_natCast];exact S.at (htc j v hj)) ?_
  refine S.al fun b6 w5 S=>?_
  refine S.stB (b:=b6) fun w6 S=>?_
  have S:=S.go (Ext.drew _)
  refine S.ld (b:=b4) ?_ rfl
  refine S.ldB (b:=b6) ?_ rfl
  refine ZM S.holds ht2 fun v7 w7 e7 o7=>⟨e7,?_⟩
  obtain ⟨s1,p1,cap1,n1,nb1,rfl,_,hc1,hs1⟩:=afa o7
  have S:=S.new e7 n1
  have S:=S.drop b6
  have hr48 : (y8 l[i]).length≤1000:=by
   rw [y8];split
   ·have:=Vi (by assumption);omega
   ·simp
  refine abl (y8 l[i]) (fun x h=>hx _ (List.getElem_mem hlt) x h) hs1.up hc1 hr48 S fun w8 S=>?_
  refine gP_ ?_
  rw [show ((i : Int)+1)=((i+1 : Nat) : Int) by omega]
  refine hK6 (i+1) _ ⟨hlt,?_⟩ (by omega)
  have S:=S.to r
  rw [kc (f:=QL f (l.take (i+1))) (g:=ab5 (QL f (l.take i)) (y8 l[i])) (fun x y _ _=>by
   show (f x y||jp (l.take (i+1)) x y)=((f x y||jp (l.take i) x y)||jo x y (y8 l[i]))
   rw [acZ hlt,Bool.or_assoc])]
  exact S
 ·have hie : i=l.length:=by omega
  rw [hie,List.take_length] at S
  exact h _ S.tl.tl
end Go.Proofs
end
section
namespace Go.Proofs
open Go.Sh
set_option maxRecDepth 100000
set_option linter.unusedSimpArgs false
set_option linter.unusedVariables false
theorem TysG.take {s : Gh} {q : Option Addr} {ts : List TyD} (h : TysG s q ts) (n : Nat) : TysG s q (ts.take n):=fun i hi=>by
 rw [List.length_take] at hi
 obtain ⟨b,off,c,h1,h2,h3,h4⟩:=h i (by omega)
 refine ⟨b,off,c,h1,h2,h3,?_⟩
 rw [List.getElem_take];exact h4
theorem Xz {f : Nat→Nat→Bool} {a b : Nat} (ha : a<8) (hb : b<8) : (yq f)[0+((a : Nat) : Int).toNat*8+((b : Nat) : Int).toNat*1]? = some (.bool (f a b)):=by
 rw [show 0+((a : Nat) : Int).toNat*8+((b : Nat) : Int).toNat*1=a*8+b by omega]
 exact adM ha hb
abbrev syF (l : List (Int × Int)) : Nat→Nat→Bool:=fun x y=>jM l (x : Int) (y : Int)
abbrev muF (l : List TyD) : Nat→Nat→Bool:=fun x y=>jp l (x : Int) (y : Int)
def clH (sy : Nat→Nat→Bool) (a b c : Nat) : Bool:=!((sy a b&&sy b c)&&(!decide (a=c) && !sy a c))
def clG (n : Nat) (mu sy : Nat→Nat→Bool) (a b : Nat) : Bool:=(List.range n).all (clH sy a b) && !(!decide (a=b)&&(mu a b && !sy a b))
def clF (n : Nat) (mu sy : Nat→Nat→Bool) (a : Nat) : Bool:=(List.range n).all (clG n mu sy a)
theorem aeI (n : Nat) (l : List TyD) (o : List (Int × Int)) : ab3 n (jp l) (jM o)=(List.range n).all (clF n (muF l) (syF o)):=by
 unfold ab3 clF clG clH;simp only [decide_not,Int.natCast_inj]
def jO (l : List (Int × Int)) (i : Nat) : Option (Int × Int):=if i=0 then none else l[i - 1]?
def adO (w : Option (Int × Int)) (o : Int × Int) : Bool:=match w with|none=>true|some w=>jq w o
theorem adP {lv : Int} {l : List (Int × Int)} {i : Nat} (h : i<l.length) : jE lv (jO l i) (l.drop i)=((xi lv l[i]&&adO (jO l i) l[i])&&jE lv (jO l (i+1)) (l.drop (i+1))):=by
 rw [aeH h,jO,jO,if_neg (Nat.succ_ne_zero i),Nat.add_sub_cancel,List.getElem?_eq_getElem h];rfl
set_option maxHeartbeats 2000000 in
theorem QM {g : GrD} {c : List Value} {w : World} {r : Gh} {K : Value→World→Prop} (hr : Holds r w) (hg : GrG r c g) (hlv0 : 0≤g.lv) (hlv8 : g.lv≤8) (hpn0 : 0≤g.pn) (hpn1 : g.pn<g.tys.length)
  (hx : ∀ t ∈ g.tys.take (g.pn.toNat+1),∀ x ∈ y8 t,0≤x∧x<8) (h : ∀ w',Ext w w'→K (.bool (vI g)) w') : zd Tryz.prog Tryz.qG #[.agg c.toArray] w K:=by
 obtain ⟨vo,vt,vn,vp,rfl,h1,h2,h3,h4⟩:=hg
 obtain ⟨qo,capo,rfl,_,_⟩:=h1.sl.shape
 obtain ⟨qt,capt,rfl,_,hct⟩:=h2.sl.shape
 obtain ⟨qn,capn,rfl,_,_⟩:=h3.sl.shape
 obtain ⟨qp,capp,rfl,_,_⟩:=h4.sl.shape
 have hol : g.outs.length≤9223372036854775807:=h1.few
 have htl : g.tys.length≤9223372036854775807:=h2.few
 refine Tryz.X0 ?_
 unfold Tryz.Zb
 have S:=St.start hr
 refine S.box fun b1 w1 S=>?_
 refine S.al fun b3 w2 S=>?_
 refine S.al fun b4 w3 S=>?_
 have S : StX noX w r w3 (.cell b3 (yq fun _ _=>false) 208 :: [.cell b4 (yq fun _ _=>false) 208,.cell b1 [.string g.name,.int .i64 g.lv,.slice qo g.outs.length capo,.int .i64 g.pn,.slice qt g.tys.length capt,.slice qn g.nms.length capn,.slice qp g.pts.length capp] 33]):=S.swap
 refine gG_ ?_
 rw [show (g.pn+1).toNat=(g.tys.take (g.pn.toNat+1)).length by rw [List.length_take];omega]
 refine Jq (l:=g.tys.take (g.pn.toNat+1)) ((abz h2.sl).take _) (by rw [List.length_take];have:=h2.few;omega) hx S fun w4 S=>?_
 have S : StX noX w r w4 ([.cell b3 (yq (muF (g.tys.take (g.pn.toNat+1)))) 208,.cell b4 (yq fun _ _=>false) 208,.cell b1 [.string g.name,.int .i64 g.lv,.slice qo g.outs.length capo,.int .i64 g.pn,.slice qt g.tys.length capt,.slice qn g.nms.length capn,.slice qp g.pts.length capp] 33]):=by
  rw [kc (f:=muF (g.tys.take (g.pn.toNat+1))) (g:=QL (fun _ _=>false) (g.tys.take (g.pn.toNat+1))) (fun x y _ _=>(Bool.false_or _).symm)]
  exact S
 rw [vI,← ac1,aeI] at h
 generalize hmu : muF (g.tys.take (g.pn.toNat+1))=mu at h S
 refine gG_ ?_
 refine zk (ι:=Nat) (fun i=>[.int .i64 (i : Nat)]) (fun i w'=>i≤g.outs.length∧jE g.lv (jO g.outs i) (g.outs.drop i)=jE g.lv none g.outs∧
  StX noX w r w' ([.cell b3 (yq mu) 208,.cell b4 (yq (syF (g.outs.take i))) 208,.cell b1 [.string g.name,.int .i64 g.lv,.slice qo g.outs.length capo,.int .i64 g.pn,.slice qt g.tys.length capt,.slice qn g.nms.length capn,.slice qp g.pts.length capp] 33])) (fun i=>g.outs.length - i) 0 rfl
  ⟨Nat.zero_le _,rfl,by
   rw [kc (f:=syF (g.outs.take 0)) (g:=fun _ _=>false) (fun x y _ _=>by simp [syF,jM])]
   exact S⟩ ?_
 clear S
 rintro i d w5 ⟨hi,hd,S⟩ K6 hK6
 rw [List.getD_cons_zero]
 refine gP_ ?_
 refine zg (fun hlt=>?_) (fun hge=>?_)
 ·have hlt : i<g.outs.length:=by omega
  obtain ⟨bo,oo,co,rfl,hco,hoo,hoc⟩:=h1.sl.get (by decide) hlt
  obtain rfl : co=_:=hoo
  rw [adP hlt] at hd
  have hgo:=fun (j : Nat) (hj : j<g.outs.length)=>h1.sl.get (by decide) hj
  obtain ⟨⟨o1,o2⟩,ho⟩ : ∃ o,g.outs[i]=o:=⟨_,rfl⟩
  rw [ho] at hd
  have hst : syF (g.outs.take (i+1))=fun x y=>syF (g.outs.take i) x y||(decide ((x : Int)=o1)&&decide ((y : Int)=o2)):=by
   funext x y
   show jM _ _ _=(jM _ _ _||_)
   rw [ac0 hlt,ho]
  refine gP_ ?_
  refine zt (n:=2) hco (fun j v hj=>by rw [Int.toNat_natCast];exact S.at (hoc j v hj)) ?_
  rw [ho]
  refine S.al fun b6 w6 S=>?_
  refine S.stB (b:=b6) fun w7 S=>?_
  refine gG_ ?_
  refine zh (c:=decide (g.lv≤max o1 o2)) (fun _ K2 hK2=>?_) ?_
  ·refine gG_ ?_
   exact hK2
  refine zh (c:=decide (o1=o2)) (fun _ K2 hK2=>?_) ?_
  ·refine gG_ ?_
   exact hK2
  refine c_b (fun hbad=>?_) (fun hgood=>?_)
  ·have hin : xi g.lv (o1,o2)=false:=by rw [xi,hbad];rfl
   rw [hin,Bool.false_and,Bool.false_and] at hd
   rw [← hd,Bool.false_and] at h
   exact h _ S.ext
  have hin : xi g.lv (o1,o2)=true:=by rw [xi,hgood];rfl
  rw [hin,Bool.true_and] at hd
  have hrg : (0≤o1∧o1<8)∧(0≤o2∧o2<8):=by
   simp only [Bool.or_eq_false_iff,decide_eq_false_iff_not] at hgood;omega
  clear hgood hin
  obtain ⟨⟨ho10,ho18⟩,ho20,ho28⟩:=hrg
  refine zA (fun _ w'=>adO (jO g.outs i) (o1,o2)=true∧StX noX w r w' ([.cell b6 [.int .i64 o1,.int .i64 o2] 101,.cell b3 (yq mu) 208,.cell b4 (yq (syF (g.outs.take i))) 208,.cell b1 [.string g.name,.int .i64 g.lv,.slice (some ⟨bo,oo,none⟩) g.outs.length capo,.int .i64 g.pn,.slice qt g.tys.length capt,.slice qn g.nms.length capn,.slice qp g.pts.length capp] 33])) (fun K9 hK9=>?_) ?_
  ·refine gP_ ?_
   refine zg (fun hpos=>?_) (fun hz=>?_)
   ·have hpos : 0<i:=by omega
    have hlt2 : i - 1<g.outs.length:=by omega
    obtain ⟨bo2,oo2,co2,hbe,hco2,hoo2,hoc2⟩:=h1.sl.get (by decide) hlt2
    obtain rfl : co2=_:=hoo2
    cases hbe
    have hpv : jO g.outs i=some g.outs[i - 1]:=by rw [jO,if_neg (by omega),List.getElem?_eq_getElem hlt2]
    rw [hpv] at hd hK9
    obtain ⟨⟨p1,p2⟩,hp⟩ : ∃ o,g.outs[i - 1]=o:=⟨_,rfl⟩
    rw [hp] at hd hK9
    refine gG_ ?_
    refine zt (n:=2) hco2 (fun j v hj=>by rw [show ((i : Int) - 1).toNat=i - 1 by omega];exact S.at (hoc2 j v hj)) ?_
    rw [hp]
    refine S.al fun b7 w8 S=>?_
    refine S.stB (b:=b7) fun w9 S=>?_
    refine gG_ ?_
    refine J2 (g:=decide (p1=o1)) (c:=decide (o2≤p2)) (fun _ K2 hK2=>?_) (fun _ K2 hK2=>?_) ?_
    ·refine gG_ ?_
     exact hK2
    ·refine gG_ ?_
     exact hK2
    rw [afm (o:=(o1,o2)) (w:=(p1,p2))]
    refine c_b (fun hb=>?_) (fun hb=>?_)
    ·have hb : jq (p1,p2) (o1,o2)=false:=by simpa using hb
     rw [show adO (some (p1,p2)) (o1,o2)=jq (p1,p2) (o1,o2) from rfl,hb,Bool.false_and] at hd
     rw [← hd,Bool.false_and] at h
     exact h _ S.ext
    ·have hb : jq (p1,p2) (o1,o2)=true:=by simpa using hb
     exact hK9 _ _ ⟨hb,S.drop b7⟩
   ·have hz : i=0:=by omega
    refine hK9 _ _ ⟨?_,S⟩
    rw [hz];rfl
  clear S
  rintro _ w10 ⟨haf,S⟩ d10
  have S:=S.go (Ext.drew _)
  rw [haf,Bool.true_and] at hd
  refine gG_ ?_
  refine S.st (b:=b4) (fun w11 S=>?_) (by rw [Zm];omega)
  refine gP_ ?_
  rw [show ((i : Int)+1)=((i+1 : Nat) : Int) by omega]
  refine hK6 (i+1) _ ⟨hlt,hd,?_⟩ (by omega)
  rw [show 0+o1.toNat*8+o2.toNat*1=o1.toNat*8+o2.toNat by omega,aaO (by omega) (by omega)] at S
  rw [hst,kc (f:=fun x y=>syF (g.outs.take i) x y||(decide ((x : Int)=o1)&&decide ((y : Int)=o2))) (g:=fun x y=>syF (g.outs.take i) x y||(decide (x=o1.toNat)&&decide (y=o2.toNat))) (fun x y _ _=>by
   show (syF (g.outs.take i) x y||(decide ((x : Int)=o1)&&decide ((y : Int)=o2)))=(syF (g.outs.take i) x y||(decide (x=o1.toNat)&&decide (y=o2.toNat)))
   rw [show decide ((x : Int)=o1)=decide (x=o1.toNat) from decide_eq_decide.2 (by omega),show decide ((y : Int)=o2)=decide (y=o2.toNat) from decide_eq_decide.2 (by omega)])]
  exact S.drop b6
 have hie : i=g.outs.length:=by omega
 rw [hie,List.take_length] at S
 rw [hie,List.drop_length] at hd
 rw [← hd,show jE g.lv (jO g.outs g.outs.length) []=true from by rw [jE],Bool.true_and] at h
 clear hd hK6 K6 hie hge hi
 generalize hsy : syF g.outs=sy at h S
 obtain ⟨n,hn⟩ : ∃ n : Nat,g.lv.toNat=n:=⟨_,rfl⟩
 have hn8 : n≤8:=by omega
 have hlvn : g.lv=(n : Int):=by omega
 rw [hn] at h
 refine gG_ ?_
 refine zk (ι:=Nat) (fun i=>[.int .i64 (i : Nat)]) (fun i w'=>i≤n∧((List.range n).drop i).all (clF n mu sy)=(List.range n).all (clF n mu sy)∧
  StX noX w r w' ([.cell b3 (yq mu) 208,.cell b4 (yq sy) 208,.cell b1 [.string g.name,.int .i64 g.lv,.slice qo g.outs.length capo,.int .i64 g.pn,.slice qt g.tys.length capt,.slice qn g.nms.length capn,.slice qp g.pts.length capp] 33])) (fun i=>n - i) 0 rfl
  ⟨Nat.zero_le _,rfl,S⟩ ?_
 clear S
 rintro a d2 w12 ⟨ha,hda,S⟩ K7 hK7
 rw [List.getD_cons_zero,hlvn]
 refine gP_ ?_
 refine zg (fun hlta=>?_) (fun hgea=>?_)
 rotate_left
 ·have hae : a=n:=by omega
  rw [hae,Xy] at hda
  rw [← hda] at h
  exact h _ S.ext
 have hlta : a<n:=by omega
 rw [Xx hlta] at hda
 refine gG_ ?_
 refine zk (ι:=Nat) (fun i=>[.int .i64 (i : Nat)]) (fun i w'=>i≤n∧((List.range n).drop i).all (clG n mu sy a)=(List.range n).all (clG n mu sy a)∧
  StX noX w r w' ([.cell b3 (yq mu) 208,.cell b4 (yq sy) 208,.cell b1 [.string g.name,.int .i64 g.lv,.slice qo g.outs.length capo,.int .i64 g.pn,.slice qt g.tys.length capt,.slice qn g.nms.length capn,.slice qp g.pts.length capp] 33])) (fun i=>n - i) 0 rfl
  ⟨Nat.zero_le _,rfl,S⟩ ?_
 clear S
 rintro b d3 w13 ⟨hb,hdb,S⟩ K8 hK8
 rw [List.getD_cons_zero,hlvn]
 refine gP_ ?_
 refine zg (fun hltb=>?_) (fun hgeb=>?_)
 rotate_left
 ·have hbe : b=n:=by omega
  rw [hbe,Xy] at hdb
  have hF : clF n mu sy a=true:=hdb.symm
  rw [hF,Bool.true_and] at hda
  refine gP_ ?_
  rw [show ((a : Int)+1)=((a+1 : Nat) : Int) by omega]
  exact hK7 (a+1) _ ⟨hlta,hda,S⟩ (by omega)
 have hltb : b<n:=by omega
 rw [Xx hltb] at hdb
 refine gG_ ?_
 refine zk (ι:=Nat) (fun i=>[.int .i64 (i : Nat)]) (fun i w'=>i≤n∧((List.range n).drop i).all (clH sy a b)=(List.range n).all (clH sy a b)∧
  StX noX w r w' ([.cell b3 (yq mu) 208,.cell b4 (yq sy) 208,.cell b1 [.string g.name,.int .i64 g.lv,.slice qo g.outs.length capo,.int .i64 g.pn,.slice qt g.tys.length capt,.slice qn g.nms.length capn,.slice qp g.pts.length capp] 33])) (fun i=>n - i) 0 rfl
  ⟨Nat.zero_le _,rfl,S⟩ ?_
 clear S
 have hfalse : clG n mu sy a b=false→(List.range n).all (clF n mu sy)=false:=fun e=>by
  rw [e,Bool.false_and] at hdb
  have hF : clF n mu sy a=false:=hdb.symm
  rw [hF,Bool.false_and] at hda
  exact hda.symm
 rintro cc d4 w14 ⟨hc,hdc,S⟩ K9 hK9
 rw [List.getD_cons_zero,hlvn]
 refine gP_ ?_
 refine zg (fun hltc=>?_) (fun hgec=>?_)
 ·have hltc : cc<n:=by omega
  rw [Xx hltc] at hdc
  refine gP_ ?_
  refine gP_ ?_
  refine S.ld (b:=b4) ?_ (Xz (f:=sy) (by omega) (by omega))
  refine zj (c:=sy b cc) (fun _ K2 hK2=>?_) ?_
  ·refine gP_ ?_
   refine gP_ ?_
   refine S.ld (b:=b4) ?_ (Xz (f:=sy) (by omega) (by omega))
   exact hK2
  refine zj (c:=decide (a≠cc)) (fun _ K2 hK2=>?_) ?_
  ·refine gP_ ?_
   rw [show decide ((a : Int)≠(cc : Int))=decide (a≠cc) from decide_eq_decide.2 (by omega)]
   exact hK2
  refine zj (c:=!sy a cc) (fun _ K2 hK2=>?_) ?_
  ·refine gP_ ?_
   refine gP_ ?_
   refine S.ld (b:=b4) ?_ (Xz (f:=sy) (by omega) (by omega))
   refine gP_ ?_
   exact hK2
  have hH : clH sy a b cc = !(((sy a b&&sy b cc)&&decide (a≠cc)) && !sy a cc):=by
   rw [clH,Bool.and_assoc (sy a b&&sy b cc),decide_not]
  refine c_b (fun hbad=>?_) (fun hgood=>?_)
  ·rw [hH,hbad] at hdc
   have hA : (List.range n).all (clH sy a b)=false:=by rw [← hdc];rfl
   rw [hfalse (by rw [clG,hA,Bool.false_and])] at h
   exact h _ S.ext
  ·rw [hH,hgood,Bool.not_false,Bool.true_and] at hdc
   refine gP_ ?_
   rw [show ((cc : Int)+1)=((cc+1 : Nat) : Int) by omega]
   exact hK9 (cc+1) _ ⟨hltc,hdc,S⟩ (by omega)
 have hce : cc=n:=by omega
 rw [hce,Xy] at hdc
 refine gP_ ?_
 refine zj (c:=mu a b) (fun _ K2 hK2=>?_) ?_
 ·refine gP_ ?_
  refine gP_ ?_
  refine S.ld (b:=b3) ?_ (Xz (f:=mu) (by omega) (by omega))
  exact hK2
 refine zj (c:=!sy a b) (fun _ K2 hK2=>?_) ?_
 ·refine gP_ ?_
  refine gP_ ?_
  refine S.ld (b:=b4) ?_ (Xz (f:=sy) (by omega) (by omega))
  refine gP_ ?_
  exact hK2
 have hG : clG n mu sy a b = !((decide ((a : Int)≠(b : Int))&&mu a b) && !sy a b):=by
  rw [clG,← hdc,Bool.true_and,Bool.and_assoc,show decide ((a : Int)≠(b : Int)) = !decide (a=b) from by rw [← decide_not];exact decide_eq_decide.2 (by omega)]
 refine c_b (fun hbad=>?_) (fun hgood=>?_)
 ·rw [hfalse (by rw [hG,hbad];rfl)] at h
  exact h _ S.ext
 ·rw [hG,hgood,Bool.not_false,Bool.true_and] at hdb
  refine gP_ ?_
  rw [show ((b : Int)+1)=((b+1 : Nat) : Int) by omega]
  exact hK8 (b+1) _ ⟨hltb,hdb,S⟩ (by omega)
end Go.Proofs
end
section
namespace Go.Sh
open Go.RowKit
end Go.Sh
end
section
namespace Go.Proofs
open Go.Sh
set_option maxRecDepth 100000
set_option linter.unusedSimpArgs false
set_option linter.unusedVariables false
end Go.Proofs
end
section
namespace Go.Sh
open Go.RowKit Go.MapKept
set_option linter.unusedVariables false
def zr1 (P : Program) (t : TypeId) : Option Value:=(P.info? t).bind fun i=>i.zero
theorem ac3 {P : Program} {t : TypeId} {z : Value} (hz : zr1 P t=some z) (w : World) : (zeroValue t).run P w = .ok z w:=by
 unfold zr1 at hz
 cases hi : P.info? t with
 |none=>rw [hi] at hz;cases hz
 |some i=>
  rw [hi] at hz
  have hz : i.zero=some z:=hz
  simp [zeroValue,typeInfo,Sem.run,pure,hi,hz,Sem.run_bind,Result.andThen]
def mpT (P : Program) (t : TypeId) : Option (TypeId × TypeId):=match P.underlying t with
 |some (.map k e)=>(match P.underlying k with|some .string=>some (k,e)|_=>none)
 |_=>none
theorem aaQ {P : Program} {t k e : TypeId} (h : mpT P t=some (k,e)) : P.underlying t=some (.map k e)∧P.underlying k=some .string:=by
 unfold mpT at h
 split at h
 ·rename_i k' e' h1
  split at h
  ·rename_i h2
   cases h;exact ⟨h1,h2⟩
  ·cases h
 ·cases h
def YG (x : ByteArray) : List MapEntry→Option Value
 |[]=>none
 |m::l=>match m.key with|.string s=>if x == s then some m.val else YG x l|_=>YG x l
def adQ (l : List MapEntry) : Prop:=∀ m ∈ l,∃ s,m.key = .string s
theorem QN {x : ByteArray} : ∀ {l : List MapEntry} {i : Nat},adQ l→∃ o,Instr.findNow .string (.string x) l i=some o∧o.map (·.2)=YG x l
 |[],i,_=>⟨none,rfl,rfl⟩
 |m::l,i,h=>by
  obtain ⟨s,hs⟩:=h m List.mem_cons_self
  cases hx : (x == s) with
  |true=>
   refine ⟨some (i,m.val),?_,?_⟩
   ·rw [Instr.findNow,hs]
    simp [Instr.sameNow,hx]
   ·rw [YG,hs];simp [hx]
  |false=>
   obtain ⟨o,h1,h2⟩:=QN (x:=x) (l:=l) (i:=i+1) fun y hy=>h y (List.mem_cons_of_mem _ hy)
   refine ⟨o,?_,?_⟩
   ·rw [Instr.findNow,hs]
    simp [Instr.sameNow,hx,h1]
   ·rw [h2,YG,hs];simp [hx]
theorem ac4 (x y : ByteArray) : (x == y)=(x.toList == y.toList):=by
 rw [show (x == y)=(x.data == y.data) by cases x;cases y;rfl,ByteArray.toList_eq,ByteArray.toList_eq,Bool.eq_iff_iff,beq_iff_eq,beq_iff_eq,Array.toList_inj]
section
variable {P : Program} {X : Nat→Prop} {w0 w : World} {r : Gh} {L : List Asr} {t k e : TypeId} {b c : Nat} {es : Array MapEntry}
theorem StX.addO (S : StX X w0 r w L) {w' : World} (ex : Ext w w') {o : Obj} (hb : w.heap.size≤b) (B : w'.heap[b]? = some o) (ho : Obj.isBook o=false) : StX X w0 r w' (.obj b (· = o)::L):=by
 have S':=S.go ex
 refine ⟨S'.x,S'.holds,?_,?_,.cons ?_ S'.apart⟩
 ·intro x hx;rcases List.mem_cons.1 hx with rfl|hx
  ·exact ⟨o,B,ho,rfl⟩
  ·exact S'.has x hx
 ·intro x hx;rcases List.mem_cons.1 hx with rfl|hx
  ·rintro k rfl
   exact ⟨.inl (by have:=S.x.size;omega),fun o ho=>by have:=S.holds.lt ho;omega⟩
  ·exact S'.mine x hx
 ·rintro y hy k rfl hk
  have:=Asr.lt (S.has y hy) hk;omega
theorem StX.mkMap (S : StX X w0 r w L) {K : Value→World→Prop} (h : ∀ b w',StX X w0 r w' (.obj b (· = .map #[] 0)::L)→K (.map (some b)) w') : opW P w (Instr.makeMap t none) K:=by
 refine ⟨.map (some w.heap.size),{ w with heap:=w.heap.push (.map #[] 0) },?_,h _ _ (S.addO ?_ (Nat.le_refl _) ?_ rfl)⟩
 ·simp [Instr.makeMap,newObj,Sem.run_bind,Sem.run,pure,Result.andThen]
  try rfl
 ·exact ⟨rfl,rfl,rfl,by simp,fun b hb=>by simp [Array.getElem?_push,Nat.ne_of_lt hb]⟩
 ·simp
theorem StX.mapAdd (S : StX X w0 r w (.obj b (· = .map es c)::L)) {x : ByteArray} {v : Value} (ht : mpT P t=some (k,e)) (hs : adQ es.toList) (hn : YG x es.toList=none) {K : World→Prop}
  (h : ∀ w',StX X w0 r w' (.obj b (· = .map (es.push { key:=.string x,val:=v,born:=c }) (c+1))::L)→K w') : opU P w (Instr.mapUpdate t (.map (some b)) (.string x) v) K:=by
 obtain ⟨ht,hk⟩:=aaQ ht
 obtain ⟨o,hb,_,rfl⟩:=S.has _ List.mem_cons_self
 obtain ⟨o,h1,h2⟩:=QN (x:=x) (i:=0) hs
 have h3 : o=none:=by
  rw [hn] at h2
  cases o with
  |none=>rfl
  |some y=>cases h2
 subst h3
 have hf:=run_findKey (w:=w) hk h1
 refine ⟨{ w with heap:=w.heap.setIfInBounds b (.map (es.push { key:=.string x,val:=v,born:=c }) (c+1)) },?_,h _ ?_⟩
 ·simp [Instr.mapUpdate,run_underlying ht,MapKept.run_getObj_map hb,run_checkKey (w:=w) hk (k:=.string x) trivial false 9999,hf,MapKept.run_setObj_map _ hb,Result.andThen]
 ·obtain ⟨e1,e2⟩:=heap_set hb (o':=.map (es.push { key:=.string x,val:=v,born:=c }) (c+1))
  exact S.turn (p:=[]) (x:=.obj b (· = .map es c)) (y:=.obj b (· = .map (es.push { key:=.string x,val:=v,born:=c }) (c+1))) ⟨rfl,rfl,rfl,by simp,fun k _ hk=>e2 k hk⟩ ⟨_,e1,rfl,rfl⟩ fun k hk=>.inl hk
theorem StX.mapGet (S : StX X w0 r w (.obj b (· = .map es c)::L)) {x : ByteArray} {z : Value} (ht : mpT P t=some (k,e)) (hz : zr1 P e=some z) (hs : adQ es.toList) {K : Value→Prop} (h : K ((YG x es.toList).getD z)) :
  opQ P w (Instr.lookup t (.map (some b)) (.string x) false) K:=by
 obtain ⟨ht,hk⟩:=aaQ ht
 obtain ⟨o,hb,_,rfl⟩:=S.has _ List.mem_cons_self
 obtain ⟨o,h1,h2⟩:=QN (x:=x) (i:=0) hs
 refine ⟨_,fun w' ex=>?_,h⟩
 have hb' : w'.heap[b]? = some (.map es c):=(ex.block b (Array.getElem?_eq_some_iff.1 hb).1).trans hb
 have hf:=run_findKey (w:=w') hk h1
 rw [← h2]
 cases o with
 |none=>simp [Instr.lookup,run_underlying ht,MapKept.run_getObj_map hb',run_checkKey (w:=w') hk (k:=.string x) trivial _ 9999,hf,ac3 hz,Result.andThen]
 |some y=>simp [Instr.lookup,run_underlying ht,MapKept.run_getObj_map hb',run_checkKey (w:=w') hk (k:=.string x) trivial _ 9999,hf,Result.andThen]
end
end Go.Sh
end
section
namespace Go.Proofs
open Go.Sh
set_option maxRecDepth 100000
set_option linter.unusedSimpArgs false
set_option linter.unusedVariables false
structure PaD where
 tt : TyD
 tm : Int
 tok : Bool
 ft : TyD
 fm : Int
 fok : Bool
 at' : TyD
 aok : Bool
 bt : TyD
 bok : Bool
noncomputable def ptH (u : UnD) (g : GrD) (p : PtD) (x : PaD) : Bool:=
 if p.op=1 then ((zE p { to:=true,a:=true } && (x.tok&&decide (x.tm<3)))&&x.aok)&&zY xh x.at' x.tt
 else if p.op=2 then
  (zE p { to:=true,a:=true,b:=true,sign:=true } && ((x.tok&&decide (x.tm<3))&&(x.aok&&x.bok))) &&
   (if z8 p.sign [[43],[45],[42],[47],[37]] then isK x.tt 1&&(isK x.at' 1&&isK x.bt 1)
    else if z8 p.sign [[60],[60,61],[62],[62,61]] then isK x.tt 2&&(isK x.at' 1&&isK x.bt 1)
    else if z8 p.sign [[61,61],[33,61]] then isK x.tt 2&&((isK x.at' 1&&isK x.bt 1)||(isK x.at' 2&&isK x.bt 2)) else false)
 else if p.op=3 then
  ((zE p { to:=true,a:=true,sign:=true } && (x.tok&&decide (x.tm<3)))&&x.aok) &&
   (if z8 p.sign [[45]] then isK x.tt 1&&isK x.at' 1 else if z8 p.sign [[33]] then isK x.tt 2&&isK x.at' 2 else false)
 else if p.op=4 then
  ((((zE p { to:=true,fr:=true,mu:=true } && (x.tok&&decide (x.tm<3)))&&x.fok)&&isK x.tt 4)&&(x.tt.m == p.mu))&&(zY xh (x.tt.of.headD yo) x.ft && !(p.mu&&decide (x.fm=3)))
 else if p.op=5 then (((zE p { to:=true,a:=true } && (x.tok&&decide (x.tm<3)))&&x.aok)&&isK x.tt 3)&&zY xh (x.tt.of.headD yo) x.at'
 else if p.op=6 then
  (((zE p { to:=true,args:=true,st:=true } && (x.tok&&decide (x.tm<3)))&&isK x.tt 5)&&decide (x.tt.st=p.st))&&yT u.ss g.tys p.args (xq u.ss x.tt).1
 else if p.op=7 then
  ((zE p { to:=true,args:=true,fn:=true } && (x.tok&&decide (x.tm<3)))&&(decide (0≤p.fn)&&decide (p.fn<u.fs.length))) &&
   (match u.fs[p.fn.toNat]? with
    |some f=>zY xh x.tt (f.tys.headD yo)&&yT u.ss g.tys p.args ((f.tys.drop 1).take f.pn.toNat)
    |none=>false)
 else if p.op=8 then (zE p { to:=true } && (x.tok&&decide (x.tm<3)))&&isK x.tt 1
 else if p.op=9 then (zE p { a:=true } && x.aok)&&isK x.at' 1
 else if p.op=10 then ((zE p { fr:=true } && x.fok)&&(Zj u.ss x.ft).1)&&decide (x.fm<2)
 else if p.op=11 then ((zE p { fr:=true } && x.fok)&&decide (0<p.fr.l))&&decide (p.fr.ps.length=0)
 else if p.op=12 then ((zE p { a:=true,el:=true } && x.aok)&&isK x.at' 2)&&kO g p.el
 else if p.op=13∨p.op=14 then zE p {}
 else false
noncomputable def pad (u : UnD) (g : GrD) (p : PtD) : PaD:=
 ⟨(zC u.ss g.tys p.to).1,(zC u.ss g.tys p.to).2.1,(zC u.ss g.tys p.to).2.2,(zC u.ss g.tys p.fr).1,(zC u.ss g.tys p.fr).2.1,(zC u.ss g.tys p.fr).2.2,
  (zK u.ss g.tys p.a).1,(zK u.ss g.tys p.a).2,(zK u.ss g.tys p.b).1,(zK u.ss g.tys p.b).2⟩
theorem afn (u : UnD) (g : GrD) (p : PtD) : ptG u g p=ptH u g p (pad u g p):=rfl
theorem bb4 {a b c d : Bool} (h : (((!a || !b) || !c) || !d)=true) : (a&&(b&&(c&&d)))=false:=by revert h;cases a<;>cases b<;>cases c<;>cases d<;>simp
theorem agm {a b c d : Bool} (h : (((!a || !b) || !c) || !d)=false) : (a&&(b&&(c&&d)))=true:=by revert h;cases a<;>cases b<;>cases c<;>cases d<;>simp
theorem bb3 {a b c : Bool} {x y : Int} (h : (((!a || !b) || !c)||decide (x≠y))=true) : (((a&&b)&&c)&&decide (x=y))=false:=by
 by_cases e : x=y
 ·simp only [e] at h ⊢;revert h;cases a<;>cases b<;>cases c<;>simp
 ·simp [e]
theorem agn {a b c : Bool} {x y : Int} (h : (((!a || !b) || !c)||decide (x≠y))=false) : (((a&&b)&&c)&&decide (x=y))=true:=by
 by_cases e : x=y
 ·simp only [e] at h ⊢;revert h;cases a<;>cases b<;>cases c<;>simp
 ·simp [e] at h
theorem bb5 {a b : Bool} {x y : Int} (h : (((!a || !b)||decide (x<0))||decide (y≤x))=true) : ((a&&b)&&(decide (0≤x)&&decide (x<y)))=false:=by
 by_cases e : 0≤x<;>by_cases f : x<y
 ·rw [decide_eq_false (show ¬ x<0 by omega),decide_eq_false (show ¬ y≤x by omega)] at h
  revert h;cases a<;>cases b<;>simp
 all_goals simp [e,f]
theorem ago {a b : Bool} {x y : Int} (h : (((!a || !b)||decide (x<0))||decide (y≤x))=false) : ((a&&b)&&(decide (0≤x)&&decide (x<y)))=true:=by
 simp only [Bool.or_eq_false_iff,decide_eq_false_iff_not,Bool.not_eq_false'] at h
 obtain ⟨⟨⟨h1,h2⟩,h3⟩,h4⟩:=h
 rw [h1,h2,decide_eq_true (show 0≤x by omega),decide_eq_true (show x<y by omega)];rfl
theorem mpK : mpT Tryz.prog 167=some (9,55):=by kernel_rfl
theorem mpZ : zr1 Tryz.prog 55=some (.int .u8 0):=by kernel_rfl
theorem adR (x : ByteArray) (f g : Int→Bool) : ∃ ks : Int,(YG x ((#[].push (⟨.string (bs [45]),.int .u8 1,0⟩ : MapEntry)).push ⟨.string (bs [33]),.int .u8 2,0+1⟩).toList).getD (.int .u8 0) = .int .u8 ks∧
  ((decide (ks≠0)&&f ks)&&g ks)=(if z8 x [[45]] then f 1&&g 1 else if z8 x [[33]] then f 2&&g 2 else false):=by
 have e : ((#[].push (⟨.string (bs [45]),.int .u8 1,0⟩ : MapEntry)).push ⟨.string (bs [33]),.int .u8 2,0+1⟩).toList = [⟨.string (bs [45]),.int .u8 1,0⟩,⟨.string (bs [33]),.int .u8 2,0+1⟩]:=rfl
 rw [e]
 simp only [YG,ac4,qM,z8,List.any_cons,List.any_nil,Bool.or_false]
 by_cases h1 : (x.toList == [45])=true
 ·exact ⟨1,by rw [if_pos h1];rfl,by rw [if_pos h1];simp⟩
 ·by_cases h2 : (x.toList == [33])=true
  ·exact ⟨2,by rw [if_neg h1,if_pos h2];rfl,by rw [if_neg h1,if_pos h2];simp⟩
  ·exact ⟨0,by rw [if_neg h1,if_neg h2];rfl,by rw [if_neg h1,if_neg h2];simp⟩
set_option maxHeartbeats 20000000 in
theorem Y6 {u : UnD} {g : GrD} {p : PtD} {c : List Value} {v : Value} {w : World} {r : Gh} {K : Value→World→Prop} (hr : Holds r w) (hx : AskG r v u g) (hf : YE u.ss g.tys) (hfs : ∀ f ∈ u.fs,0≤f.pn∧f.pn<f.tys.length) (hp : PtG r c p)
  (h : ∀ w',Ext w w'→K (.bool (zu u g p)) w') : zd Tryz.prog Tryz.ku #[v,.agg c.toArray] w K:=by
 have hx0:=hx
 obtain ⟨p0,cap0,vf,vo,vt,vn,vp,rfl,hu,hg⟩:=hx
 have hu0:=hu
 obtain ⟨_,_,_,hE,_,_,hst,_,hfn⟩:=hu
 cases hE
 obtain ⟨qfn,capfn,rfl,_,_⟩:=hfn.sl.shape
 obtain ⟨_,_,_,_,hE,_,htys,_,hpts⟩:=hg
 cases hE
 obtain ⟨qp,capp,rfl,_,_⟩:=hpts.sl.shape
 have hp0:=hp
 obtain ⟨vto,va,vb,vl,vfr,rfl,h1,h2,h3,h4,h5⟩:=hp
 obtain ⟨qto,capto,rfl,_,_⟩:=h1.sl.shape
 obtain ⟨qa,capa,rfl,_,_⟩:=h2.sl.shape
 obtain ⟨qb,capb,rfl,_,_⟩:=h3.sl.shape
 obtain ⟨ql,capl,rfl,_,_⟩:=h4.sl.shape
 obtain ⟨qf,capf,rfl,_,_⟩:=h5.sl.shape
 have hpto : PlG r [.int .i64 p.to.l,.slice qto p.to.ps.length capto] p.to:=⟨_,rfl,h1⟩
 have hpfr : PlG r [.int .i64 p.fr.l,.slice qf p.fr.ps.length capf] p.fr:=⟨_,rfl,h5⟩
 have hoa : OpG r [.int .u8 p.a.k,.int .i64 p.a.n,.int .i64 p.a.pl.l,.slice qa p.a.pl.ps.length capa] p.a:=⟨_,rfl,h2⟩
 have hob : OpG r [.int .u8 p.b.k,.int .i64 p.b.n,.int .i64 p.b.pl.l,.slice qb p.b.pl.ps.length capb] p.b:=⟨_,rfl,h3⟩
 refine Tryz.Yw ?_
 unfold Tryz.ju
 have S:=St.start hr
 refine S.box fun b2 w1 S=>?_
 refine S.box fun b3 w2 S=>?_
 refine gg_ ?_
 refine S.al fun b5 w3 S=>?_
 refine S.st (b:=b5) fun w4 S=>?_
 refine gg_ ?_
 refine J2 (g:=decide (p.op≠14)) (c:=!kO g p.nx) (fun _ K2 hK2=>?_) (fun _ K2 hK2=>?_) ?_
 ·refine gg_ ?_
  exact hK2
 ·refine gg_ ?_
  refine Vp (b:=b5) S ?_
  refine gp_ ?_
  exact hK2
 refine J2 (g:=decide (p.op=14)) (c:=decide (p.nx≠0)) (fun _ K2 hK2=>?_) (fun _ K2 hK2=>?_) ?_
 ·refine gg_ ?_
  exact hK2
 ·refine gg_ ?_
  exact hK2
 have hpg : zu u g p=(!((decide (p.tx<0)||(decide (p.op≠14) && !kO g p.nx))||(decide (p.op=14)&&decide (p.nx≠0)))&&ptG u g p):=by
  rw [zu];simp only [decide_not]
 rw [hpg] at h
 refine c_b (fun hbad=>?_) (fun hgood=>?_)
 ·rw [hbad,Bool.not_true,Bool.false_and] at h
  exact h _ S.ext
 rw [hgood,Bool.not_false,Bool.true_and,afn] at h
 clear hpg hgood
 have S:=S.go (Ext.drew _)
 have S : StX noX w r w4.drew [.cell b5 [.int .i64 (g.pts.length : Nat)] 3,
   .cell b3 [.int .u8 p.op,.int .i64 p.to.l,.slice qto p.to.ps.length capto,.int .u8 p.a.k,.int .i64 p.a.n,.int .i64 p.a.pl.l,.slice qa p.a.pl.ps.length capa,.int .u8 p.b.k,.int .i64 p.b.n,.int .i64 p.b.pl.l,.slice qb p.b.pl.ps.length capb,.slice ql p.args.length capl,
    .string p.sign,.int .i64 p.fr.l,.slice qf p.fr.ps.length capf,.bool p.mu,.int .i64 p.fn,.int .i64 p.st,.int .i64 p.nx,.int .i64 p.el,.int .i64 p.tx] 44,
   .cell b2 [.slice p0 u.ss.length cap0,.slice qfn u.fs.length capfn,.int .i64 u.mn,.string g.name,.int .i64 g.lv,vo,.int .i64 g.pn,vt,vn,.slice qp g.pts.length capp] 117]:=S
 obtain ⟨tt,tm,tok,hspt⟩ : ∃ tt tm tok,zC u.ss g.tys p.to=(tt,tm,tok):=⟨_,_,_,rfl⟩
 obtain ⟨ft,fm,fok,hspf⟩ : ∃ tt tm tok,zC u.ss g.tys p.fr=(tt,tm,tok):=⟨_,_,_,rfl⟩
 obtain ⟨ta,aok,hopa⟩ : ∃ t ok,zK u.ss g.tys p.a=(t,ok):=⟨_,_,rfl⟩
 obtain ⟨tb,bok,hopb⟩ : ∃ t ok,zK u.ss g.tys p.b=(t,ok):=⟨_,_,rfl⟩
 have hpad : pad u g p=⟨tt,tm,tok,ft,fm,fok,ta,aok,tb,bok⟩:=by simp only [pad,hspt,hspf,hopa,hopb]
 rw [hpad,ptH] at h
 dsimp only at h
 have inside : tok=true→(tt.k=3∨tt.k=4)→∃ uu,tt.of = [uu]:=by
  intro h1 h2
  have hfi:=acV hf (p:=p.to) (by rw [hspt];exact h1)
  rw [hspt] at hfi
  rcases Fine.cases hfi with ⟨_,h3⟩|⟨uu,h3,_⟩
  ·have h3 : tt.k=1∨tt.k=2∨tt.k=5:=h3
   omega
  ·exact ⟨uu,h3⟩
 refine zA (fun s w'=>∃ b7 b8 q7 c7 q8 c8,s = [.pointer (some ⟨b7,0,none⟩),.pointer (some ⟨b8,0,none⟩)]∧TyG r (tyV tt q7 c7) tt∧TyG r (tyV ft q8 c8) ft∧
  StX noX w r w' (.cell b8 (spL ft q8 c8 fm fok) 115 :: .cell b7 (spL tt q7 c7 tm tok) 115 :: [.cell b5 [.int .i64 (g.pts.length : Nat)] 3,
   .cell b3 [.int .u8 p.op,.int .i64 p.to.l,.slice qto p.to.ps.length capto,.int .u8 p.a.k,.int .i64 p.a.n,.int .i64 p.a.pl.l,.slice qa p.a.pl.ps.length capa,.int .u8 p.b.k,.int .i64 p.b.n,.int .i64 p.b.pl.l,.slice qb p.b.pl.ps.length capb,.slice ql p.args.length capl,
    .string p.sign,.int .i64 p.fr.l,.slice qf p.fr.ps.length capf,.bool p.mu,.int .i64 p.fn,.int .i64 p.st,.int .i64 p.nx,.int .i64 p.el,.int .i64 p.tx] 44,
   .cell b2 [.slice p0 u.ss.length cap0,.slice qfn u.fs.length capfn,.int .i64 u.mn,.string g.name,.int .i64 g.lv,vo,.int .i64 g.pn,vt,vn,.slice qp g.pts.length capp] 117])) (fun K30 hK30=>?_) ?_
 ·refine S.ldB (b:=b2) ?_ rfl
  refine gp_ ?_
  refine S.ldN (b:=b3) ?_
  refine S.ldB (b:=b2) ?_ rfl
  refine gp_ ?_
  refine S.ldN (b:=b3) ?_
  repeat' (first
   |(refine S.alU fun b9 w9 S=>?_)
   |(refine S.al fun b9 w9 S=>?_)
   |(refine S.stB fun w9 S=>?_)
   |(refine yQ S.holds hx0 hf hpto hspt (fun q7 c7 w9 e9 ht7=>⟨e9,?_⟩);have S:=S.go e9)
   |(refine yQ S.holds hx0 hf hpto hspt (fun q7 c7 w9 e9 ht7=>?_);have S:=S.go e9)
   |(refine yQ S.holds hx0 hf hpfr hspf (fun q8 c8 w9 e9 ht8=>⟨e9,?_⟩);have S:=S.go e9)
   |(refine yQ S.holds hx0 hf hpfr hspf (fun q8 c8 w9 e9 ht8=>?_);have S:=S.go e9)
   |exact hK30 _ _ ⟨_,_,_,_,_,_,rfl,ht7,ht8,S⟩
   |exact hK30 _ _ ⟨_,_,_,_,_,_,rfl,ht7,ht8,S.swap⟩
   |refine ⟨?_,?_⟩)
 clear S
 rintro _ w33 ⟨b7,b8,q7,c7,q8,c8,rfl,ht7,ht8,S⟩ d33
 simp only [List.getD_cons_zero,List.getD_cons_succ]
 refine gg_ ?_
 refine zj (c:=decide (tm<3)) (fun _ K2 hK2=>?_) ?_
 ·refine gg_ ?_
  exact hK2
 refine S.ldB (b:=b2) ?_ rfl
 refine gp_ ?_
 refine S.ldN (b:=b3) ?_
 refine xS S.holds hx0 hf hoa hopa fun q10 c10 w34 e34 hta=>?_
 have S:=S.go e34
 refine gp_ ?_
 refine gp_ ?_
 refine S.al fun b10 w35 S=>?_
 refine S.stB (b:=b10) fun w36 S=>?_
 refine S.ldB (b:=b2) ?_ rfl
 refine gp_ ?_
 refine S.ldN (b:=b3) ?_
 refine xS S.holds hx0 hf hob hopb fun q12 c12 w37 e37 htb=>?_
 have S:=S.go e37
 refine gp_ ?_
 refine gp_ ?_
 refine S.al fun b12 w38 S=>?_
 refine S.stB (b:=b12) fun w39 S=>?_
 refine gg_ ?_
 refine zg (fun ho=>?_) (fun ho=>?_)
 ·rw [if_pos ho] at h
  refine S.ldB (b:=b3) ?_ rfl
  refine gp_ ?_
  refine zS (f:={ to:=true,a:=true }) S.holds hp0 fun w31 e31=>?_
  have S:=S.go e31
  refine zj (c:=tok&&decide (tm<3)) (fun _ K2 hK2=>hK2) ?_
  refine zj (c:=aok) (fun _ K2 hK2=>hK2) ?_
  refine zm (c:=zY xh ta tt) (fun _ K2 hK2=>?_) fun w32 e32=>h _ (S.go e32).ext
  refine S.ldB (b:=b10) ?_ rfl
  refine gp_ ?_
  refine S.ldN (b:=b7) ?_
  exact km S.holds hta ht7 fun w33 e33=>hK2 _ e33
 rw [if_neg ho] at h
 clear ho
 refine gg_ ?_
 refine zg (fun ho=>?_) (fun ho=>?_)
 ·rw [if_pos ho] at h
  refine S.ldB (b:=b3) ?_ rfl
  refine gp_ ?_
  refine zS (f:={ to:=true,a:=true,b:=true,sign:=true }) S.holds hp0 fun w31 e31=>?_
  have S:=S.go e31
  refine gp_ ?_
  refine zh (c:=!(tok&&decide (tm<3))) (fun _ K2 hK2=>?_) ?_
  ·refine gp_ ?_
   exact hK2
  refine zh (c:=!aok) (fun _ K2 hK2=>?_) ?_
  ·refine gp_ ?_
   exact hK2
  refine zh (c:=!bok) (fun _ K2 hK2=>?_) ?_
  ·refine gp_ ?_
   exact hK2
  refine c_b (fun hc=>?_) (fun hc=>?_)
  ·rw [bb4 hc,Bool.false_and] at h
   exact h _ S.ext
  rw [agm hc,Bool.true_and] at h
  refine S.ldB (b:=b10) ?_ rfl
  refine zZ S.holds fun w34 e34=>?_
  have S:=S.go e34
  refine zm (c:=isK tb 1) (fun hb K2 hK2=>?_) fun w32 e32=>?_
  ·refine S.ldB (b:=b12) ?_ rfl
   exact zZ S.holds fun w33 e33=>hK2 _ e33
  have S:=S.go e32
  refine gg_ ?_
  refine zA (fun s w'=>s = [.bool (z8 p.sign [[43],[45],[42],[47],[37]])]∧Ext w32 w') (fun K9 hK9=>?_) ?_
  ·have hk:=hK9 _ _ ⟨rfl,Ext.refl _⟩
   simp only [z8,List.any_cons,List.any_nil,Bool.or_false] at hk
   refine gp_ ?_
   refine jc hk fun _ hk=>?_
   refine gp_ ?_
   refine jc hk fun _ hk=>?_
   refine gp_ ?_
   refine jc hk fun _ hk=>?_
   refine gp_ ?_
   refine jc hk fun _ hk=>?_
   refine gp_ ?_
   exact hk
  rintro _ w41 ⟨rfl,e41⟩ d41
  have S:=S.go e41
  rw [List.getD_cons_zero]
  refine c_b (fun hs=>?_) (fun hs=>?_)
  ·rw [if_pos hs] at h
   refine gp_ ?_
   refine S.ldN (b:=b7) ?_
   refine zZ S.holds fun w35 e35=>?_
   have S:=S.go e35
   exact zj (c:=isK ta 1&&isK tb 1) (fun _ K2 hK2=>hK2) (h _ S.ext)
  rw [if_neg (by rw [hs];decide)] at h
  refine zA (fun s w'=>s = [.bool (z8 p.sign [[60],[60,61],[62],[62,61]])]∧Ext w41 w') (fun K9 hK9=>?_) ?_
  ·have hk:=hK9 _ _ ⟨rfl,Ext.refl _⟩
   simp only [z8,List.any_cons,List.any_nil,Bool.or_false] at hk
   refine gp_ ?_
   refine jc hk fun _ hk=>?_
   refine gp_ ?_
   refine jc hk fun _ hk=>?_
   refine gp_ ?_
   refine jc hk fun _ hk=>?_
   refine gp_ ?_
   exact hk
  rintro _ w41 ⟨rfl,e41⟩ d41
  have S:=S.go e41
  rw [List.getD_cons_zero]
  refine c_b (fun hs=>?_) (fun hs=>?_)
  ·rw [if_pos hs] at h
   refine gp_ ?_
   refine S.ldN (b:=b7) ?_
   refine zZ S.holds fun w35 e35=>?_
   have S:=S.go e35
   exact zj (c:=isK ta 1&&isK tb 1) (fun _ K2 hK2=>hK2) (h _ S.ext)
  rw [if_neg (by rw [hs];decide)] at h
  refine zA (fun s w'=>s = [.bool (z8 p.sign [[61,61],[33,61]])]∧Ext w41 w') (fun K9 hK9=>?_) ?_
  ·have hk:=hK9 _ _ ⟨rfl,Ext.refl _⟩
   simp only [z8,List.any_cons,List.any_nil,Bool.or_false] at hk
   refine gp_ ?_
   refine jc hk fun _ hk=>?_
   refine gp_ ?_
   exact hk
  rintro _ w41 ⟨rfl,e41⟩ d41
  have S:=S.go e41
  rw [List.getD_cons_zero]
  refine c_b (fun hs=>?_) (fun hs=>?_)
  rotate_left
  ·rw [if_neg (by rw [hs];decide)] at h
   exact h _ S.ext
  rw [if_pos hs] at h
  refine gp_ ?_
  refine S.ldN (b:=b7) ?_
  refine zZ S.holds fun w35 e35=>?_
  have S:=S.go e35
  generalize isK tt 2=x1 at h ⊢
  generalize (isK ta 1&&isK tb 1)=x2 at h ⊢
  cases x1 with
  |false=>
   (intro K9 hK9;refine gd_ ?_;refine hK9 _ _ fun _=>?_;clear hK9 K9)
   (intro K9 hK9;refine gd_ ?_;refine hK9 _ _ fun _=>?_;clear hK9 K9)
   (intro K9 hK9;refine gd_ ?_;refine hK9 _ _ fun _=>?_;clear hK9 K9)
   (intro K9 hK9;refine gd_ ?_;refine hK9 _ _ fun _=>?_;clear hK9 K9)
   (intro K9 hK9;refine gd_ ?_;refine hK9 _ _ fun _=>?_;clear hK9 K9)
   refine gd_ ?_
   exact h _ S.ext
  |true=>
   cases x2 with
   |true=>
    (intro K9 hK9;refine gd_ ?_;refine hK9 _ _ fun _=>?_;clear hK9 K9)
    (intro K9 hK9;refine gd_ ?_;refine hK9 _ _ fun _=>?_;clear hK9 K9)
    (intro K9 hK9;refine gd_ ?_;refine hK9 _ _ fun _=>?_;clear hK9 K9)
    (intro K9 hK9;refine gd_ ?_;refine hK9 _ _ fun _=>?_;clear hK9 K9)
    (intro K9 hK9;refine gd_ ?_;refine hK9 _ _ fun _=>?_;clear hK9 K9)
    refine gd_ ?_
    exact h _ S.ext
   |false=>
    (intro K9 hK9;refine gd_ ?_;refine hK9 _ _ fun _=>?_;clear hK9 K9)
    refine zA (fun s w'=>s = [.bool (isK ta 2)]∧Ext w35 w') (fun K9 hK9=>?_) ?_
    ·refine gd_ ?_
     exact zZ S.holds fun w36 e36=>hK9 _ _ ⟨rfl,e36⟩
    rintro _ w37 ⟨rfl,e37⟩ d37
    have S:=S.go e37
    generalize isK ta 2=x3 at h ⊢
    cases x3 with
    |false=>
     (intro K9 hK9;refine gd_ ?_;refine hK9 _ _ fun _=>?_;clear hK9 K9)
     (intro K9 hK9;refine gd_ ?_;refine hK9 _ _ fun _=>?_;clear hK9 K9)
     (intro K9 hK9;refine gd_ ?_;refine hK9 _ _ fun _=>?_;clear hK9 K9)
     refine gd_ ?_
     exact h _ S.ext
    |true=>
     refine zA (fun s w'=>s = [.bool (isK tb 2)]∧Ext w37 w') (fun K9 hK9=>?_) ?_
     ·refine gd_ ?_
      exact zZ S.holds fun w36 e36=>hK9 _ _ ⟨rfl,e36⟩
     rintro _ w38 ⟨rfl,e38⟩ d38
     have S:=S.go e38
     generalize isK tb 2=x4 at h ⊢
     (intro K9 hK9;refine gd_ ?_;refine hK9 _ _ fun _=>?_;clear hK9 K9)
     (intro K9 hK9;refine gd_ ?_;refine hK9 _ _ fun _=>?_;clear hK9 K9)
     refine gd_ ?_
     cases x4<;>exact h _ S.ext
 rw [if_neg ho] at h
 clear ho
 refine gg_ ?_
 refine zg (fun ho=>?_) (fun ho=>?_)
 ·rw [if_pos ho] at h
  refine S.mkMap fun b70 w70 S=>?_
  refine S.mapAdd mpK (by intro m hm;cases hm) rfl fun w71 S=>?_
  refine S.mapAdd mpK (by intro m hm;rcases List.mem_cons.1 hm with rfl|hm<;>first|exact ⟨_,rfl⟩|cases hm) (by decide) fun w72 S=>?_
  refine gg_ ?_
  refine S.mapGet mpK mpZ (by
   intro m hm
   rcases List.mem_cons.1 hm with rfl|hm
   ·exact ⟨_,rfl⟩
   rcases List.mem_cons.1 hm with rfl|hm<;>first|exact ⟨_,rfl⟩|cases hm) ?_
  obtain ⟨ks,hks,hk2⟩:=adR p.sign (isK tt) (isK ta)
  rw [hks]
  refine S.ldB (b:=b3) ?_ rfl
  refine gp_ ?_
  refine zS (f:={ to:=true,a:=true,sign:=true }) S.holds hp0 fun w31 e31=>?_
  have S:=S.go e31
  refine zj (c:=tok&&decide (tm<3)) (fun _ K2 hK2=>hK2) ?_
  refine zj (c:=aok) (fun _ K2 hK2=>hK2) ?_
  refine zj (c:=decide (ks≠0)) (fun _ K2 hK2=>?_) ?_
  ·refine gp_ ?_
   exact hK2
  refine zm (c:=isK tt ks) (fun hb K2 hK2=>?_) fun w32 e32=>?_
  ·refine gp_ ?_
   refine S.ldN (b:=b7) ?_
   exact zZ S.holds fun w33 e33=>hK2 _ e33
  have S:=S.go e32
  refine zm (c:=isK ta ks) (fun hb K2 hK2=>?_) fun w32 e32=>?_
  ·refine S.ldB (b:=b10) ?_ rfl
   exact zZ S.holds fun w33 e33=>hK2 _ e33
  have S:=S.go e32
  have:=h _ S.ext
  rw [← hk2] at this
  simpa only [Bool.and_assoc] using this
 rw [if_neg ho] at h
 clear ho
 refine gg_ ?_
 refine zg (fun ho=>?_) (fun ho=>?_)
 ·rw [if_pos ho] at h
  have S:=S.go (Ext.drew _)
  refine S.ldB (b:=b3) ?_ rfl
  refine gp_ ?_
  refine zS (f:={ to:=true,fr:=true,mu:=true }) S.holds hp0 fun w31 e31=>?_
  have S:=S.go e31
  refine zj (c:=tok&&decide (tm<3)) (fun _ K2 hK2=>hK2) ?_
  refine zj (c:=fok) (fun _ K2 hK2=>?_) ?_
  ·refine gg_ ?_
   exact hK2
  refine zm (c:=isK tt 4) (fun hb K2 hK2=>?_) fun w32 e32=>?_
  ·refine gp_ ?_
   refine S.ldN (b:=b7) ?_
   exact zZ S.holds fun w33 e33=>hK2 _ e33
  have S:=S.go e32
  refine zj (c:=tt.m == p.mu) (fun _ K2 hK2=>?_) ?_
  ·refine gg_ ?_
   exact hK2
  refine zm (c:=zY xh (tt.of.headD yo) ft) (fun hb K2 hK2=>?_) fun w33 e33=>?_
  ·simp only [Bool.and_eq_true] at hb
   obtain ⟨uu,hof⟩:=inside hb.1.1.1.2.1 (.inr (of_decide_eq_true hb.1.2))
   obtain ⟨bo,oo,q2,cap2,rfl,ht2,hcc⟩:=V3 ht7 hof
   have hl1 : tt.of.length=1:=by rw [hof];rfl
   rw [hof] at hK2
   refine gg_ ?_
   refine zt (n:=5) (c:=tyL uu q2 cap2) rfl (fun j v hj=>by simpa using S.at (hcc j v hj)) ?_
   refine gp_ ?_
   refine S.ldN (b:=b8) ?_
   exact km S.holds ht2 ht8 fun w34 e34=>hK2 _ e34
  have S:=S.go e33
  have:=h _ S.ext
  rw [← Bool.and_assoc] at this
  generalize ((((((zE p { to:=true,fr:=true,mu:=true } && (tok&&decide (tm<3)))&&fok)&&isK tt 4)&&(tt.m == p.mu))&&zY xh (tt.of.headD yo) ft))=B at this ⊢
  cases B with
  |false=>
   (intro K9 hK9;refine gd_ ?_;refine hK9 _ _ fun _=>?_;clear hK9 K9)
   (intro K9 hK9;refine gd_ ?_;refine hK9 _ _ fun _=>?_;clear hK9 K9)
   (intro K9 hK9;refine gd_ ?_;refine hK9 _ _ fun _=>?_;clear hK9 K9)
   refine gd_ ?_
   exact this
  |true=>
   refine zA (fun s w'=>s = [.bool p.mu]∧w'=w33) (fun K9 hK9=>?_) ?_
   ·refine gd_ ?_
    exact hK9 _ _ ⟨rfl,rfl⟩
   rintro _ w33 ⟨rfl,rfl⟩ d33
   generalize p.mu=mu at this ⊢
   cases mu with
   |false=>
    (intro K9 hK9;refine gd_ ?_;refine hK9 _ _ fun _=>?_;clear hK9 K9)
    (intro K9 hK9;refine gd_ ?_;refine hK9 _ _ fun _=>?_;clear hK9 K9)
    refine gd_ ?_
    exact this
   |true=>
    refine zA (fun s w'=>s = [.bool (decide (fm=3))]∧w'=w33) (fun K9 hK9=>?_) ?_
    ·refine gd_ ?_
     exact hK9 _ _ ⟨rfl,rfl⟩
    rintro _ w33 ⟨rfl,rfl⟩ d33
    (intro K9 hK9;refine gd_ ?_;refine hK9 _ _ fun _=>?_;clear hK9 K9)
    refine gd_ ?_
    simpa using this
 rw [if_neg ho] at h
 clear ho
 refine gg_ ?_
 refine zg (fun ho=>?_) (fun ho=>?_)
 ·rw [if_pos ho] at h
  have S:=S.go (Ext.drew _)
  refine S.ldB (b:=b3) ?_ rfl
  refine gp_ ?_
  refine zS (f:={ to:=true,a:=true }) S.holds hp0 fun w31 e31=>?_
  have S:=S.go e31
  refine zj (c:=tok&&decide (tm<3)) (fun _ K2 hK2=>hK2) ?_
  refine zj (c:=aok) (fun _ K2 hK2=>hK2) ?_
  refine zm (c:=isK tt 3) (fun hb K2 hK2=>?_) fun w32 e32=>?_
  ·refine gp_ ?_
   refine S.ldN (b:=b7) ?_
   exact zZ S.holds fun w33 e33=>hK2 _ e33
  have S:=S.go e32
  refine zm (c:=zY xh (tt.of.headD yo) ta) (fun hb K2 hK2=>?_) fun w33 e33=>h _ (S.go e33).ext
  simp only [Bool.and_eq_true] at hb
  obtain ⟨uu,hof⟩:=inside hb.1.1.2.1 (.inl (of_decide_eq_true hb.2))
  obtain ⟨bo,oo,q2,cap2,rfl,ht2,hcc⟩:=V3 ht7 hof
  have hl1 : tt.of.length=1:=by rw [hof];rfl
  rw [hof] at hK2
  refine gg_ ?_
  refine zt (n:=5) (c:=tyL uu q2 cap2) rfl (fun j v hj=>by simpa using S.at (hcc j v hj)) ?_
  refine S.ldB (b:=b10) ?_ rfl
  exact km S.holds ht2 hta fun w34 e34=>hK2 _ e34
 rw [if_neg ho] at h
 clear ho
 refine gg_ ?_
 refine zg (fun ho=>?_) (fun ho=>?_)
 ·rw [if_pos ho] at h
  refine S.ldB (b:=b3) ?_ rfl
  refine gp_ ?_
  refine zS (f:={ to:=true,args:=true,st:=true }) S.holds hp0 fun w31 e31=>?_
  have S:=S.go e31
  refine gp_ ?_
  refine zh (c:=!(tok&&decide (tm<3))) (fun _ K2 hK2=>?_) ?_
  ·refine gp_ ?_
   exact hK2
  refine xM (c:=!isK tt 5) (fun _ K2 hK2=>?_) fun w32 e32=>?_
  ·refine gp_ ?_
   refine S.ldN (b:=b7) ?_
   refine zZ S.holds fun w33 e33=>?_
   refine gp_ ?_
   exact hK2 _ e33
  have S:=S.go e32
  refine zh (c:=decide (tt.st≠p.st)) (fun _ K2 hK2=>?_) ?_
  ·refine gg_ ?_
   exact hK2
  refine c_b (fun hc=>?_) (fun hc=>?_)
  ·rw [bb3 hc,Bool.false_and] at h
   exact h _ S.ext
  rw [agn hc,Bool.true_and] at h
  refine gg_ ?_
  refine S.ldN (b:=b7) ?_
  refine JY S.holds hst ht7 fun q9 cp9 top gs w35 e35 n35 hfd hcp=>?_
  have S:=S.new e35 n35
  refine gp_ ?_
  refine gp_ ?_
  refine Vr (r:=((r.or (top.or (un gs 0 (xq u.ss tt).1.length))).or (Go.Sh.one b2 _ _)).or (Go.Sh.one b3 _ _)) ((S.holdW b2).or (yc (S.blk b3))) (yx (b:=b2)).up (yx (b:=b3)).up hx0.up rfl hf hp0.up (adL hfd).up fun w44 e44=>?_
  exact h _ (S.go e44).ext
 rw [if_neg ho] at h
 clear ho
 refine gg_ ?_
 refine zg (fun ho=>?_) (fun ho=>?_)
 ·rw [if_pos ho] at h
  refine S.ldB (b:=b3) ?_ rfl
  refine gp_ ?_
  refine zS (f:={ to:=true,args:=true,fn:=true }) S.holds hp0 fun w31 e31=>?_
  have S:=S.go e31
  refine gp_ ?_
  refine zh (c:=!(tok&&decide (tm<3))) (fun _ K2 hK2=>?_) ?_
  ·refine gp_ ?_
   exact hK2
  refine zh (c:=decide (p.fn<0)) (fun _ K2 hK2=>?_) ?_
  ·refine gg_ ?_
   exact hK2
  refine zh (c:=decide ((u.fs.length : Int)≤p.fn)) (fun _ K2 hK2=>?_) ?_
  ·refine gg_ ?_
   exact hK2
  refine c_b (fun hc=>?_) (fun hc=>?_)
  ·rw [bb5 hc,Bool.false_and] at h
   exact h _ S.ext
  rw [ago hc,Bool.true_and] at h
  have hfl : 0≤p.fn∧p.fn<u.fs.length:=by
   simp only [Bool.or_eq_false_iff,decide_eq_false_iff_not] at hc;omega
  have hfi : p.fn.toNat<u.fs.length:=by omega
  rw [List.getElem?_eq_getElem hfi] at h
  obtain ⟨bg,og,cg,rfl,hcg,hgg,hgc⟩:=hfn.sl.get (by decide) hfi
  have hfp:=hfs _ (List.getElem_mem hfi)
  generalize u.fs[p.fn.toNat]=fd at h hgg hfp
  obtain ⟨vo2,vt2,vn2,vp2,rfl,hg1,hg2,hg3,hg4⟩:=hgg
  obtain ⟨qo2,co2,rfl,_,_⟩:=hg1.sl.shape
  obtain ⟨qt2,ct2,rfl,_,hct2⟩:=hg2.sl.shape
  obtain ⟨qn2,cn2,rfl,_,_⟩:=hg3.sl.shape
  obtain ⟨qp2,cp2,rfl,_,_⟩:=hg4.sl.shape
  refine gg_ ?_
  refine zt (n:=7) hcg (fun j v hj=>S.at (hgc j v hj)) ?_
  refine S.al fun b20 w50 S=>?_
  refine S.stB (b:=b20) fun w51 S=>?_
  have S:=S.go (Ext.drew _)
  have htl:=abz hg2.sl
  have htl9 : fd.tys.length≤9223372036854775807:=hg2.few
  obtain ⟨bt2,ot2,cc2,rfl,hcc2,hcl2,hct3⟩:=htl 0 (by omega)
  obtain ⟨q4,cap4,rfl,ht4⟩:=qV hct3
  have hhd : fd.tys.headD yo=fd.tys[0]'(by omega):=by
   rw [List.headD_eq_head?_getD,List.head?_eq_getElem?,List.getElem?_eq_getElem (by omega),Option.getD_some]
  dsimp only at h
  rw [hhd] at h
  refine gp_ ?_
  refine S.ldN (b:=b7) ?_
  refine gg_ ?_
  refine zt (n:=5) hcc2 (fun j v hj=>by simpa using S.at (hcl2 j v hj)) ?_
  refine km S.holds ht7 ht4 fun w52 e52=>?_
  have S:=S.go e52
  refine zm (c:=yT u.ss g.tys p.args ((fd.tys.drop 1).take fd.pn.toNat)) (fun _ K2 hK2=>?_) fun w53 e53=>h _ (S.go e53).ext
  refine gg_ ?_
  have hl9 : (fd.pn+1).toNat - (1 : Int).toNat=((fd.tys.drop 1).take fd.pn.toNat).length:=by
   rw [List.length_take,List.length_drop];omega
  rw [hl9]
  refine Vr (r:=(r.or (Go.Sh.one b2 _ _)).or (Go.Sh.one b3 _ _)) ((S.holdW b2).or (yc (S.blk b3))) (yx (b:=b2)).up (yx (b:=b3)).up hx0.up rfl hf hp0.up (htl.sub (a:=(1 : Int).toNat) (n:=fd.pn.toNat) hct2).up fun w44 e44=>?_
  exact hK2 _ e44
 rw [if_neg ho] at h
 clear ho
 refine gg_ ?_
 refine zg (fun ho=>?_) (fun ho=>?_)
 ·rw [if_pos ho] at h
  refine S.ldB (b:=b3) ?_ rfl
  refine gp_ ?_
  refine zS (f:={ to:=true }) S.holds hp0 fun w31 e31=>?_
  have S:=S.go e31
  refine zj (c:=tok&&decide (tm<3)) (fun _ K2 hK2=>hK2) ?_
  refine zm (c:=isK tt 1) (fun hb K2 hK2=>?_) fun w32 e32=>?_
  ·refine gp_ ?_
   refine S.ldN (b:=b7) ?_
   exact zZ S.holds fun w33 e33=>hK2 _ e33
  have S:=S.go e32
  exact h _ S.ext
 rw [if_neg ho] at h
 clear ho
 refine gg_ ?_
 refine zg (fun ho=>?_) (fun ho=>?_)
 ·rw [if_pos ho] at h
  refine S.ldB (b:=b3) ?_ rfl
  refine gp_ ?_
  refine zS (f:={ a:=true }) S.holds hp0 fun w31 e31=>?_
  have S:=S.go e31
  refine zj (c:=aok) (fun _ K2 hK2=>hK2) ?_
  refine zm (c:=isK ta 1) (fun hb K2 hK2=>?_) fun w32 e32=>?_
  ·refine S.ldB (b:=b10) ?_ rfl
   exact zZ S.holds fun w33 e33=>hK2 _ e33
  have S:=S.go e32
  exact h _ S.ext
 rw [if_neg ho] at h
 clear ho
 refine gg_ ?_
 refine zg (fun ho=>?_) (fun ho=>?_)
 ·rw [if_pos ho] at h
  refine gg_ ?_
  refine S.ldN (b:=b8) ?_
  refine VK S.holds hst ht8 fun w35 e35=>?_
  have S:=S.go e35
  refine gp_ ?_
  refine gp_ ?_
  refine S.ldB (b:=b3) ?_ rfl
  refine gp_ ?_
  refine zS (f:={ fr:=true }) S.holds hp0 fun w31 e31=>?_
  have S:=S.go e31
  refine zj (c:=fok) (fun _ K2 hK2=>?_) ?_
  ·refine gg_ ?_
   exact hK2
  refine zj (c:=(Zj u.ss ft).1) (fun _ K2 hK2=>hK2) ?_
  refine zj (c:=decide (fm<2)) (fun _ K2 hK2=>?_) (h _ S.ext)
  refine gg_ ?_
  exact hK2
 rw [if_neg ho] at h
 clear ho
 refine gg_ ?_
 refine zg (fun ho=>?_) (fun ho=>?_)
 ·rw [if_pos ho] at h
  refine S.ldB (b:=b3) ?_ rfl
  refine gp_ ?_
  refine zS (f:={ fr:=true }) S.holds hp0 fun w31 e31=>?_
  have S:=S.go e31
  refine zj (c:=fok) (fun _ K2 hK2=>?_) ?_
  ·refine gg_ ?_
   exact hK2
  refine zj (c:=decide (0<p.fr.l)) (fun _ K2 hK2=>?_) ?_
  ·refine gg_ ?_
   exact hK2
  refine zj (c:=decide (p.fr.ps.length=0)) (fun _ K2 hK2=>?_) (h _ S.ext)
  refine gg_ ?_
  rw [Z1]
  exact hK2
 rw [if_neg ho] at h
 clear ho
 refine gg_ ?_
 refine zg (fun ho=>?_) (fun ho=>?_)
 ·rw [if_pos ho] at h
  refine S.ldB (b:=b3) ?_ rfl
  refine gp_ ?_
  refine zS (f:={ a:=true,el:=true }) S.holds hp0 fun w31 e31=>?_
  have S:=S.go e31
  refine zj (c:=aok) (fun _ K2 hK2=>hK2) ?_
  refine zm (c:=isK ta 2) (fun hb K2 hK2=>?_) fun w32 e32=>?_
  ·refine S.ldB (b:=b10) ?_ rfl
   exact zZ S.holds fun w33 e33=>hK2 _ e33
  have S:=S.go e32
  refine zj (c:=kO g p.el) (fun _ K2 hK2=>?_) (h _ S.ext)
  refine gg_ ?_
  exact Vp (b:=b5) S hK2
 rw [if_neg ho] at h
 clear ho
 refine gg_ ?_
 refine zA (fun s w'=>s = [.bool (decide (p.op=13∨p.op=14))]∧Ext w39 w') (fun K9 hK9=>?_) ?_
 ·have hk:=hK9 _ _ ⟨rfl,Ext.refl _⟩
  rw [Bool.decide_or] at hk
  refine gp_ ?_
  refine jc hk fun _ hk=>?_
  refine gp_ ?_
  exact hk
 rintro _ w41 ⟨rfl,e41⟩ d41
 have S:=S.go e41
 rw [List.getD_cons_zero]
 refine zg (fun ho=>?_) (fun ho=>?_)
 ·rw [if_pos ho] at h
  refine S.ldB (b:=b3) ?_ rfl
  refine gp_ ?_
  refine zS (f:={}) S.holds hp0 fun w31 e31=>h _ (S.go e31).ext
 ·rw [if_neg ho] at h
  exact h _ S.ext
end Go.Proofs
end
section
namespace Go.Proofs
open Go.Sh
set_option linter.unusedVariables false
theorem qy {u : UnD} : ∀ {l : List GrD} {i : Nat},kQ u i l=none↔∀ (j : Nat) (h : j<l.length),yh u (i+j) l[j]=true
 |[],i=>⟨fun _ j h=>absurd h (Nat.not_lt_zero _),fun _=>rfl⟩
 |g::l,i=>by
  rw [kQ]
  constructor
  ·intro h j hj
   split at h
   ·rename_i hg
    cases j with
    |zero=>exact hg
    |succ j=>
     have:=(qy (l:=l) (i:=i+1)).1 h j (by simpa using hj)
     rw [List.getElem_cons_succ,show i+(j+1)=i+1+j by omega];exact this
   ·cases h
  ·intro h
   rw [if_pos (show yh u i g=true from h 0 (Nat.zero_lt_succ _))]
   refine (qy (l:=l) (i:=i+1)).2 fun j hj=>?_
   have:=h (j+1) (by simpa using hj)
   rwa [List.getElem_cons_succ,show i+(j+1)=i+1+j by omega] at this
theorem vJ {u : UnD} {g : GrD} : ∀ {l : List PtD} {q : Nat},jN u g q l=none↔∀ p ∈ l,zu u g p=true
 |[],q=>⟨fun _ p h=>(by cases h),fun _=>rfl⟩
 |x::l,q=>by
  rw [jN]
  constructor
  ·intro h p hp
   split at h
   ·rename_i hx
    rcases List.mem_cons.1 hp with rfl|hp
    ·exact hx
    ·exact (vJ (l:=l) (q:=q+1)).1 h p hp
   ·cases h
  ·intro h
   rw [if_pos (h x List.mem_cons_self)]
   exact (vJ (l:=l) (q:=q+1)).2 fun p hp=>h p (List.mem_cons_of_mem _ hp)
theorem ZO {u : UnD} : ∀ {l : List GrD} {i : Nat},jD u i l=none↔∀ g ∈ l,∀ p ∈ g.pts,zu u g p=true
 |[],i=>⟨fun _ g h=>(by cases h),fun _=>rfl⟩
 |x::l,i=>by
  rw [jD]
  constructor
  ·intro h g hg
   split at h
   ·cases h
   ·rename_i hx
    rcases List.mem_cons.1 hg with rfl|hg
    ·exact vJ.1 hx
    ·exact (ZO (l:=l) (i:=i+1)).1 h g hg
  ·intro h
   rw [vJ.2 (h x List.mem_cons_self)]
   exact (ZO (l:=l) (i:=i+1)).2 fun g hg=>h g (List.mem_cons_of_mem _ hg)
structure MayU (u : UnD) : Prop where
 ok : (zU u.ss).2=0
 fs1 : 1≤u.fs.length
 fs32 : u.fs.length≤32
 mn0 : 0≤u.mn
 mn1 : u.mn<u.fs.length
 head : ∀ (i : Nat) (h : i<u.fs.length),yh u i u.fs[i]=true
 pts : ∀ g ∈ u.fs,∀ p ∈ g.pts,zu u g p=true
theorem Vu {u : UnD} (h : MayU u) : kn u=(0,0,0):=by
 have h1:=h.fs1;have h2:=h.fs32;have h3:=h.mn0;have h4:=h.mn1
 unfold kn
 rw [if_neg (by rw [h.ok,decide_eq_false (show ¬ u.fs.length<1 by omega),decide_eq_false (show ¬ 32<u.fs.length by omega),decide_eq_false (show ¬ u.mn<0 by omega),decide_eq_false (show ¬ (u.fs.length : Int)≤u.mn by omega)];decide),
  qy.2 (fun j hj=>by rw [Nat.zero_add];exact h.head j hj)]
 dsimp only
 rw [ZO.2 h.pts]
theorem ac5 {u : UnD} (h : (kn u).2.2=0) : MayU u:=by
 unfold kn at h
 split at h
 ·cases h
 ·rename_i h1
  split at h
  ·cases h
  ·rename_i h2
   split at h
   ·cases h
   ·rename_i h3
    simp only [Bool.or_eq_true,Bool.not_eq_true',decide_eq_false_iff_not,decide_eq_true_eq,not_or] at h1
    obtain ⟨⟨h4,h5,h6⟩,h7,h8⟩:=h1
    exact ⟨by omega,by omega,by omega,by omega,by omega,fun i hi=>by have:=qy.1 h2 i hi;rwa [Nat.zero_add] at this,ZO.1 h3⟩
theorem yY {u : UnD} : kx u=true↔MayU u:=by
 rw [kx,decide_eq_true_eq]
 exact ⟨ac5,fun h=>by rw [Vu h]⟩
structure HeadU (u : UnD) (fn : Nat) (g : GrD) : Prop where
 lv0 : 0≤g.lv
 lv8 : g.lv≤8
 pn0 : 0≤g.pn
 pn8 : g.pn≤8
 pn1 : g.pn<g.tys.length
 ty512 : g.tys.length≤512
 nms : g.nms.length=g.tys.length
 tys : kP u g 0 g.tys=true
 pt1 : 1≤g.pts.length
 pt1024 : g.pts.length≤1024
 outs : vI g=true
 loans : zJ g.pts≤256
 main : (fn : Int)=u.mn→g.lv=0∧g.pn=0∧(g.tys.headD yo).k=1
theorem V4 {u : UnD} {fn : Nat} {g : GrD} (h : yh u fn g=true) : HeadU u fn g:=by
 simp only [yh,Bool.and_eq_true,Bool.or_eq_true,Bool.not_eq_true',decide_eq_true_eq,decide_eq_false_iff_not,isK] at h
 obtain ⟨⟨⟨⟨⟨⟨⟨h1,h2⟩,h3,h4⟩,h5,h6⟩,h7⟩,h8⟩,⟨h9,h10⟩,h11⟩,h12,h13⟩:=h
 exact ⟨h1,h2,h3,h4,by omega,h6,h7,h8,h9,h10,h11,h12,fun e=>by rcases h13 with h|⟨⟨h,h'⟩,h2⟩
                                                               ·exact absurd e h
                                                               ·exact ⟨h,h',h2⟩⟩
theorem HeadU.fine {u : UnD} {fn : Nat} {g : GrD} (h : HeadU u fn g) (ok : (zU u.ss).2=0) : YE u.ss g.tys:=by
 obtain ⟨h1,h2,h3,h4,_⟩:=kX ok
 exact ⟨h1,h3,h4,fun t ht=>(Ji (QK h.tys t ht)).2⟩
theorem MayU.hd {u : UnD} (h : MayU u) {i : Nat} (hi : i<u.fs.length) : HeadU u i u.fs[i]:=V4 (h.head i hi)
theorem MayU.mem {u : UnD} (h : MayU u) {g : GrD} (hg : g ∈ u.fs) : ∃ i,HeadU u i g:=by
 obtain ⟨i,hi,rfl⟩:=List.getElem_of_mem hg
 exact ⟨i,h.hd hi⟩
end Go.Proofs
end
section
namespace Go.Sh
theorem adS {w : World} {A2 : (List Value→World→Prop)→Prop} {A3 A4 A5 : (List Value→World→Prop)→World→Prop} {Z : Value→World→Prop} {b1 b2 b3 b4 b5 : Bool}
  (h2 : ∀ K : List Value→World→Prop,K [.bool b2] w→A2 K) (h3 : ∀ K : List Value→World→Prop,K [.bool b3] w→A3 K w) (h4 : ∀ K : List Value→World→Prop,K [.bool b4] w→A4 K w) (h5 : ∀ K : List Value→World→Prop,K [.bool b5] w→A5 K w)
  (hZ : Z (.bool (b1&&(b2||((b3&&b4)&&b5)))) w) :
  za (fun K=>gIf (.bool b1) true (A2 K) (K [undef] w)) fun s64 _ w66=>
   za (fun K=>gIf (s64.getD 0 undef) false (A3 K w66) (K [undef] w66)) fun s68 _ w70=>
    za (fun K=>gIf (s68.getD 0 undef) true (A4 K w70) (K [undef] w70)) fun s72 _ w74=>
     za (fun K=>gIf (s64.getD 0 undef) false (zc (s68.getD 0 undef) (s72.getD 0 undef) (.bool false) fun t=>K [t] w74) (K [undef] w74)) fun s76 _ w78=>
      za (fun K=>gIf (s76.getD 0 undef) true (A5 K w78) (K [undef] w78)) fun s80 _ w82=>
       za (fun K=>gIf (s64.getD 0 undef) false (zc (s76.getD 0 undef) (s80.getD 0 undef) (.bool false) fun t=>K [t] w82) (K [undef] w82)) fun s84 _ w86=>
        za (fun K=>gIf (.bool b1) true (zc (s64.getD 0 undef) (.bool true) (s84.getD 0 undef) fun t=>K [t] w86) (K [undef] w86)) fun s88 _ w90=>
         zc (.bool b1) (s88.getD 0 undef) (.bool false) fun t=>Z t w90:=by
 cases b1<;>cases b2<;>cases b3<;>cases b4 <;>
  (iterate 7 (intro K hK;first|refine hK _ _ fun _=>?_|refine h2 _ (hK _ _ fun _=>?_)|refine h3 _ (hK _ _ fun _=>?_)|refine h4 _ (hK _ _ fun _=>?_)|refine h5 _ (hK _ _ fun _=>?_)|refine ⟨_,rfl,hK _ _ fun _=>?_⟩)) <;>
  exact ⟨_,rfl,by simpa using hZ⟩
end Go.Sh
namespace Go.Proofs
open Go.Sh
set_option maxRecDepth 100000
set_option linter.unusedSimpArgs false
set_option linter.unusedVariables false
theorem ab6 {a b : Nat} : decide ((a : Int)≠(b : Int))=decide (a≠b):=decide_eq_decide.2 (by omega)
theorem aeJ {u : UnD} {g : GrD} {i : Nat} {t : TyD} : tyG u g i t=(x7 u.ss t && !((y8 t).any fun r=>decide (r<(if (i : Int)≤g.pn then 0 else -1))||decide (g.lv≤r))):=by
 rw [tyG,List.not_any_eq_all_not]
set_option maxHeartbeats 4000000 in
theorem aaR {u : UnD} {i : Nat} {v : Value} {w : World} {r : Gh} {K : Value→World→Prop} (hi : i<u.fs.length) (hr : Holds r w) (hu : UnG r v u)
  (h : ∀ w',Ext w w'→K (.bool (yh u i u.fs[i])) w') : zd Tryz.prog Tryz.vV #[v,.int .i64 i] w K:=by
 obtain ⟨p0,cap0,vf,rfl,_,_,hst,hsl,hfn⟩:=hu
 obtain ⟨qf,capf,rfl,_,_⟩:=hfn.sl.shape
 obtain ⟨bf,of,cf,rfl,hcf,hgc,hfo⟩:=hfn.sl.get (by decide) hi
 refine Tryz.VC ?_
 unfold Tryz.Xb
 generalize hgi : u.fs[i]=g at h hgc
 obtain ⟨vo,vt,vn,vp,rfl,h1,h2,h3,h4⟩:=id hgc
 obtain ⟨qo,capo,rfl,_,_⟩:=h1.sl.shape
 obtain ⟨qt,capt,rfl,_,hct⟩:=h2.sl.shape
 obtain ⟨qn,capn,rfl,_,_⟩:=h3.sl.shape
 obtain ⟨qp,capp,rfl,_,_⟩:=h4.sl.shape
 have hptl : g.pts.length≤9223372036854775807:=h4.few
 have htl : g.tys.length≤9223372036854775807:=h2.few
 have S:=St.start hr
 refine S.box fun b2 w1 S=>?_
 refine gG_ ?_
 refine zt (n:=7) hcf (fun j v hj=>by rw [Int.toNat_natCast];exact S.at (hfo j v hj)) ?_
 refine S.al fun b5 w2 S=>?_
 refine S.stB (b:=b5) fun w3 S=>?_
 refine gG_ ?_
 have no : (HeadU u i g→False)→yh u i g=false:=fun hh=>by
  cases e : yh u i g
  ·rfl
  ·exact (hh (V4 e)).elim
 refine zh (c:=decide (8<g.lv)) (fun _ K2 hK2=>?_) ?_
 ·refine gG_ ?_
  exact hK2
 refine zh (c:=decide (g.pn<0)) (fun _ K2 hK2=>?_) ?_
 ·refine gG_ ?_
  exact hK2
 refine zh (c:=decide (8<g.pn)) (fun _ K2 hK2=>?_) ?_
 ·refine gG_ ?_
  exact hK2
 refine zh (c:=decide ((g.tys.length : Int)≤g.pn)) (fun _ K2 hK2=>?_) ?_
 ·refine gG_ ?_
  exact hK2
 refine zh (c:=decide (512<g.tys.length)) (fun _ K2 hK2=>?_) ?_
 ·refine gG_ ?_
  rw [show decide ((512 : Int)<(g.tys.length : Int))=decide (512<g.tys.length) from decide_eq_decide.2 (by omega)]
  exact hK2
 refine zh (c:=decide (g.nms.length≠g.tys.length)) (fun _ K2 hK2=>?_) ?_
 ·refine gG_ ?_
  rw [ab6]
  exact hK2
 refine c_b (fun hbad=>?_) (fun hgood=>?_)
 ·rw [no fun H=>by
   have:=H.lv0;have:=H.lv8;have:=H.pn0;have:=H.pn8;have:=H.pn1;have:=H.ty512;have:=H.nms
   simp only [Bool.or_eq_true,decide_eq_true_eq] at hbad;omega] at h
  exact h _ S.ext
 have hnum : (0≤g.lv∧g.lv≤8∧0≤g.pn∧g.pn≤8)∧g.pn<g.tys.length∧g.tys.length≤512∧g.nms.length=g.tys.length:=by
  simp only [Bool.or_eq_false_iff,decide_eq_false_iff_not] at hgood;omega
 clear hgood
 obtain ⟨⟨hlv0,hlv8,hpn0,hpn8⟩,hpn1,hty,hnm⟩:=hnum
 refine gG_ ?_
 refine zk (ι:=Nat) (fun i=>[.int .i64 (i : Nat)]) (fun j w'=>j≤g.tys.length∧kP u g j (g.tys.drop j)=kP u g 0 g.tys∧StX noX w r w' _) (fun i=>g.tys.length - i) 0 rfl ⟨Nat.zero_le _,rfl,S⟩ ?_
 clear S
 rintro j d w5 ⟨hj,hd,S⟩ K6 hK6
 rw [List.getD_cons_zero]
 refine gP_ ?_
 refine zg (fun hlt=>?_) (fun hge=>?_)
 ·have hlt : j<g.tys.length:=by omega
  obtain ⟨bt,ot,ct,rfl,hct,htc,hcell⟩:=h2.sl.get (by decide) hlt
  obtain ⟨q2,cap2,rfl,ht2⟩:=qV htc
  rw [ac2 hlt] at hd
  refine gP_ ?_
  refine zt (n:=5) hct (fun j v hj=>by rw [Int.toNat_natCast];exact S.at (hcell j v hj)) ?_
  refine S.al fun b7 w6 S=>?_
  refine S.stB (b:=b7) fun w7 S=>?_
  refine gG_ ?_
  refine ZY S.holds hst ht2 fun w8 e8=>?_
  have S:=S.go e8
  refine gP_ ?_
  refine c_b (fun hm=>?_) (fun hm=>?_)
  ·have hm : x7 u.ss g.tys[j]=false:=by simpa using hm
   rw [no fun H=>by
    have:=H.tys
    rw [← hd,tyG,hm,Bool.false_and,Bool.false_and] at this;cases this] at h
   exact h _ S.ext
  have hm : x7 u.ss g.tys[j]=true:=by simpa using hm
  refine S.al fun b8 w9 S=>?_
  refine S.st (b:=b8) fun w10 S=>?_
  refine zA (fun _ w'=>StX noX w r w' [.cell b8 [.int .i64 (if (j : Int)≤g.pn then 0 else -1)] 3,.cell b7 (tyL g.tys[j] q2 cap2) 57,.cell b5 [.string g.name,.int .i64 g.lv,.slice qo g.outs.length capo,.int .i64 g.pn,.slice (some ⟨bt,ot,none⟩) g.tys.length capt,.slice qn g.nms.length capn,.slice qp g.pts.length capp] 33,
   .cell b2 [.slice p0 u.ss.length cap0,.slice (some ⟨bf,of,none⟩) u.fs.length capf,.int .i64 u.mn] 25]) (fun K3 hK3=>?_) ?_
  ·refine gG_ ?_
   refine zg (fun hle=>?_) (fun hgt=>?_)
   ·refine S.st (b:=b8) fun w11 S=>?_
    refine hK3 [] _ ?_
    rw [if_pos hle];exact S
   ·refine hK3 [] _ ?_
    rw [if_neg hgt];exact S
  clear S
  rintro _ w11 S d11
  refine S.ldB (b:=b7) ?_ rfl
  refine ZM S.holds ht2 fun v7 w12 e12 o12=>?_
  have S:=S.go e12
  obtain ⟨p7,cap7,rfl,_,_,_,hs7⟩:=Xa o12
  refine gP_ ?_
  have hr48 : (y8 g.tys[j]).length≤1000:=by
   rw [y8];split
   ·have:=Vi (by assumption);omega
   ·simp
  refine Y5 (f:=fun x=>decide (x<(if (j : Int)≤g.pn then 0 else -1))||decide (g.lv≤x)) (fun x K hK=>?_) hs7 (by omega) ?_
  ·refine V1 (by kernel_rfl) ?_
   refine Tryz.Q8 ?_
   unfold Tryz.Z8
   refine S.ld (b:=b8) ?_ rfl
   refine gP_ ?_
   refine zh (c:=decide (g.lv≤x)) (fun _ K2 hK2=>?_) hK
   refine gG_ ?_
   exact hK2
  have hty : tyG u g j g.tys[j] = !((y8 g.tys[j]).any fun x=>decide (x<(if (j : Int)≤g.pn then 0 else -1))||decide (g.lv≤x)):=by
   rw [aeJ,hm,Bool.true_and]
  refine c_b (fun hx=>?_) (fun hx=>?_)
  ·rw [hty,hx,Bool.not_true,Bool.false_and] at hd
   rw [no fun H=>by have:=H.tys;rw [← hd] at this;cases this] at h
   exact h _ S.ext
  ·rw [hty,hx,Bool.not_false,Bool.true_and] at hd
   refine gP_ ?_
   rw [show ((j : Int)+1)=((j+1 : Nat) : Int) by omega]
   exact hK6 (j+1) _ ⟨hlt,hd,(S.drop b8).drop b7⟩ (by omega)
 have hje : j=g.tys.length:=by omega
 rw [hje,List.drop_length] at hd
 have htys : kP u g 0 g.tys=true:=hd.symm
 clear hd hK6 K6 hge hj hje
 refine gG_ ?_
 refine zh (c:=decide (1024<g.pts.length)) (fun _ K2 hK2=>?_) ?_
 ·refine gG_ ?_
  rw [show decide ((1024 : Int)<(g.pts.length : Int))=decide (1024<g.pts.length) from decide_eq_decide.2 (by omega)]
  exact hK2
 refine xM (c:=!vI g) (fun _ K2 hK2=>?_) fun w20 e20=>?_
 ·refine S.ldB (b:=b5) ?_ rfl
  refine QM S.holds hgc hlv0 hlv8 hpn0 hpn1 (fun t ht x hx=>?_) fun w21 e21=>?_
  ·obtain ⟨k,hk,rfl⟩:=List.getElem_of_mem ht
   rw [List.length_take] at hk
   rw [List.getElem_take] at hx
   have:=aaP htys (j:=k) (by omega) (by omega) x hx
   omega
  refine gP_ ?_
  exact hK2 _ e21
 have S:=S.go e20
 refine c_b (fun hbad=>?_) (fun hgood=>?_)
 ·rw [no fun H=>by
   have:=H.pt1;have:=H.pt1024;have h3:=H.outs
   rw [h3] at hbad
   simp only [Bool.or_eq_true,decide_eq_true_eq,Bool.not_true,Bool.false_eq_true,or_false] at hbad;omega] at h
  exact h _ S.ext
 have hnum : (1≤g.pts.length∧g.pts.length≤1024)∧vI g=true:=by
  cases ho : vI g
  ·rw [ho] at hgood;simp at hgood
  ·simp only [Bool.or_eq_false_iff,decide_eq_false_iff_not] at hgood
   exact ⟨by omega,rfl⟩
 clear hgood
 obtain ⟨⟨hp1,hp1024⟩,hout⟩:=hnum
 refine gG_ ?_
 refine zk (ι:=Nat) (fun i=>[.int .i64 (zJ (g.pts.take i) : Nat),.int .i64 (i : Nat)]) (fun j w'=>j≤g.pts.length∧zJ (g.pts.take j)≤j∧StX noX w r w' _) (fun i=>g.pts.length - i) 0 rfl ⟨Nat.zero_le _,Nat.le_refl _,S⟩ ?_
 clear S
 rintro j d w22 ⟨hj,hlj,S⟩ K7 hK7
 simp only [List.getD_cons_zero,List.getD_cons_succ]
 refine gP_ ?_
 refine zg (fun hlt=>?_) (fun hge=>?_)
 ·have hlt : j<g.pts.length:=by omega
  obtain ⟨bp,op,cp,rfl,hcp,hpc,hcell⟩:=h4.sl.get (by decide) hlt
  refine zA (fun s w'=>s = [.int .i64 (zJ (g.pts.take (j+1)) : Nat)]∧StX noX w r w' [.cell b5 [.string g.name,.int .i64 g.lv,.slice qo g.outs.length capo,.int .i64 g.pn,.slice qt g.tys.length capt,.slice qn g.nms.length capn,.slice (some ⟨bp,op,none⟩) g.pts.length capp] 33,
   .cell b2 [.slice p0 u.ss.length cap0,.slice (some ⟨bf,of,none⟩) u.fs.length capf,.int .i64 u.mn] 25]) (fun K3 hK3=>?_) ?_
  ·refine gP_ ?_
   refine zt (n:=21) hcp (fun j v hj=>by rw [Int.toNat_natCast];exact S.at (hcell j v hj)) ?_
   obtain ⟨vto,va,vb,vl,vfr,rfl,k1,k2,k3,k4,k5⟩:=hpc
   obtain ⟨_,_,rfl,_⟩:=k1.sl.shape
   obtain ⟨_,_,rfl,_⟩:=k2.sl.shape
   obtain ⟨_,_,rfl,_⟩:=k3.sl.shape
   obtain ⟨_,_,rfl,_⟩:=k4.sl.shape
   obtain ⟨_,_,rfl,_⟩:=k5.sl.shape
   refine S.al fun b11 w23 S=>?_
   refine S.stB (b:=b11) fun w24 S=>?_
   refine gG_ ?_
   have hlo:=Jp hlt
   refine zg (fun ho=>?_) (fun ho=>?_)
   ·rw [if_pos ho] at hlo
    refine gP_ ?_
    rw [show ((zJ (g.pts.take j) : Nat) : Int)+1=((zJ (g.pts.take (j+1)) : Nat) : Int) by omega]
    exact hK3 _ _ ⟨rfl,S.drop b11⟩
   ·rw [if_neg ho] at hlo
    rw [show ((zJ (g.pts.take j) : Nat) : Int)=((zJ (g.pts.take (j+1)) : Nat) : Int) by omega]
    exact hK3 _ _ ⟨rfl,S.drop b11⟩
  clear S
  rintro _ w25 ⟨rfl,S⟩ d25
  rw [List.getD_cons_zero]
  refine gP_ ?_
  rw [show ((j : Int)+1)=((j+1 : Nat) : Int) by omega]
  refine hK7 (j+1) _ ⟨hlt,?_,S⟩ (by omega)
  rw [Jp hlt];split<;>omega
 have hje : j=g.pts.length:=by omega
 rw [hje,List.take_length]
 refine gP_ ?_
 have hfin : yh u i g=(decide (zJ g.pts≤256)&&(decide ((i : Int)≠u.mn)||((decide (g.lv=0)&&decide (g.pn=0))&&isK (g.tys.headD yo) 1))):=by
  rw [yh,htys,hout,decide_eq_true hlv0,decide_eq_true hlv8,decide_eq_true hpn0,decide_eq_true hpn8,decide_eq_true hpn1,decide_eq_true hty,decide_eq_true hnm,decide_eq_true hp1,decide_eq_true hp1024,decide_not];rfl
 rw [hfin] at h
 rw [show decide ((zJ g.pts : Int)≤256)=decide (zJ g.pts≤256) from decide_eq_decide.2 (by omega)]
 refine adS (b2:=decide ((i : Int)≠u.mn)) (b3:=decide (g.lv=0)) (b4:=decide (g.pn=0)) (b5:=isK (g.tys.headD yo) 1) (fun K2 hK2=>?_) (fun K2 hK2=>?_) (fun K2 hK2=>?_) (fun K2 hK2=>?_) (h _ S.ext)
 ·refine gG_ ?_
  exact hK2
 ·refine gG_ ?_
  exact hK2
 ·refine gG_ ?_
  exact hK2
 ·have hpos : 0<g.tys.length:=by omega
  obtain ⟨bt,ot,ct,rfl,hct,htc,hcell⟩:=h2.sl.get (by decide) hpos
  obtain ⟨q2,cap2,rfl,ht2⟩:=qV htc
  refine gG_ ?_
  refine zG (v:=.int .u8 g.tys[0].k) (by simpa using S.at (hcell 0 _ rfl)) ?_
  refine gG_ ?_
  have he : g.tys.headD yo=g.tys[0]:=by
   rw [List.headD_eq_head?_getD,List.head?_eq_getElem?,List.getElem?_eq_getElem hpos,Option.getD_some]
  rw [he] at hK2
  exact hK2
theorem ac6 {u : UnD} {i : Nat} {l : List GrD} (hi : i<l.length) : kQ u i (l.drop i)=if yh u i l[i] then kQ u (i+1) (l.drop (i+1)) else some i:=by
 rw [List.drop_eq_getElem_cons hi];rfl
theorem adT {u : UnD} {g : GrD} {q : Nat} {l : List PtD} (hq : q<l.length) : jN u g q (l.drop q)=if zu u g l[q] then jN u g (q+1) (l.drop (q+1)) else some q:=by
 rw [List.drop_eq_getElem_cons hq];rfl
theorem aeK {u : UnD} {i : Nat} {l : List GrD} (hi : i<l.length) : jD u i (l.drop i)=match jN u l[i] 0 l[i].pts with|some q=>some (i,q)|none=>jD u (i+1) (l.drop (i+1)):=by
 rw [List.drop_eq_getElem_cons hi];rfl
noncomputable def Jr (u : UnD) : Int × Int × Int:=match kQ u 0 u.fs with
  |some i=>(i,-1,100)
  |none=>match jD u 0 u.fs with
   |some (i,q)=>(i,q,100)
   |none=>(0,0,0)
set_option maxHeartbeats 4000000 in
theorem vk {u : UnD} {v : Value} {w : World} {r : Gh} {K : Value→World→Prop} (hr : Holds r w) (hu : UnG r v u)
  (h : ∀ w',Ext w w'→K (.tuple #[.int .i64 (kn u).1,.int .i64 (kn u).2.1,.int .i64 (kn u).2.2]) w') : zd Tryz.prog Tryz.ki #[v] w K:=by
 have hu0:=hu
 obtain ⟨p0,cap0,vf,rfl,_,_,hst,hsl,hfn⟩:=hu
 obtain ⟨qf,capf,rfl,_,_⟩:=hfn.sl.shape
 have hfl : u.fs.length≤9223372036854775807:=hfn.few
 refine Tryz.JL ?_
 unfold Tryz.YP
 have S:=St.start hr
 refine S.box fun b1 w1 S=>?_
 refine gG_ ?_
 refine ZN S.holds hst fun w2 e2=>?_
 have S:=S.go e2
 refine gS_ ?_
 refine zh (c:=decide (u.fs.length<1)) (fun _ K2 hK2=>?_) ?_
 ·refine gG_ ?_
  rw [show decide ((u.fs.length : Int)<1)=decide (u.fs.length<1) from decide_eq_decide.2 (by omega)]
  exact hK2
 refine zh (c:=decide (32<u.fs.length)) (fun _ K2 hK2=>?_) ?_
 ·refine gG_ ?_
  rw [show decide ((32 : Int)<(u.fs.length : Int))=decide (32<u.fs.length) from decide_eq_decide.2 (by omega)]
  exact hK2
 refine zh (c:=decide (u.mn<0)) (fun _ K2 hK2=>?_) ?_
 ·refine gG_ ?_
  exact hK2
 refine zh (c:=decide ((u.fs.length : Int)≤u.mn)) (fun _ K2 hK2=>?_) ?_
 ·refine gG_ ?_
  exact hK2
 have hC : kn u=if ((((decide ((zU u.ss).2≠0)||decide (u.fs.length<1))||decide (32<u.fs.length))||decide (u.mn<0))||decide ((u.fs.length : Int)≤u.mn))=true then (-1,-1,100) else Jr u:=by
  rw [kn,Jr]
  simp only [ne_eq,decide_not,Bool.or_assoc] <;>
  rfl
 rw [hC] at h
 refine c_b (fun hbad=>?_) (fun hgood=>?_)
 ·rw [if_pos hbad] at h
  exact h _ S.ext
 rw [if_neg (by rw [hgood];decide)] at h
 have hok : (zU u.ss).2=0:=by
  simp only [Bool.or_eq_false_iff,decide_eq_false_iff_not] at hgood;omega
 clear hC hgood
 refine gG_ ?_
 refine zk (ι:=Nat × Int) (fun i=>[.int .i64 i.2,.int .i64 0,.int .i64 (i.1 : Nat)]) (fun j w'=>j.1≤u.fs.length∧kQ u j.1 (u.fs.drop j.1)=kQ u 0 u.fs∧StX noX w r w' _) (fun i=>u.fs.length - i.1) (0,0) rfl ⟨Nat.zero_le _,rfl,S⟩ ?_
 clear S
 rintro ⟨j,a⟩ d w5 ⟨hj,hd,S⟩ K6 hK6
 simp only at hj hd S ⊢
 simp only [List.getD_cons_zero,List.getD_cons_succ]
 refine gP_ ?_
 refine zg (fun hlt=>?_) (fun hge=>?_)
 ·have hlt : j<u.fs.length:=by omega
  rw [ac6 hlt] at hd
  refine S.ldB (b:=b1) ?_ rfl
  refine aaR hlt S.holds hu0 fun w6 e6=>?_
  have S:=S.go e6
  refine gP_ ?_
  refine c_b (fun hx=>?_) (fun hx=>?_)
  ·rw [if_neg (by simpa using hx)] at hd
   rw [Jr,← hd] at h
   exact h _ S.ext
  ·rw [if_pos (by simpa using hx)] at hd
   refine gP_ ?_
   rw [show ((j : Int)+1)=((j+1 : Nat) : Int) by omega]
   exact hK6 (j+1,j) _ ⟨hlt,hd,S⟩ (by show u.fs.length - (j+1)<u.fs.length - j;omega)
 have hje : j=u.fs.length:=by omega
 rw [hje,List.drop_length] at hd
 have hnone : kQ u 0 u.fs=none:=hd.symm
 have hheads:=fun (i : Nat) (hi : i<u.fs.length)=>V4 (by have:=qy.1 hnone i hi;rwa [Nat.zero_add] at this : yh u i u.fs[i]=true)
 rw [Jr,hnone] at h
 dsimp only at h
 clear hd hK6 K6 hge hj hje
 refine zA (fun s w'=>Ext w w'∧((∃ x y : Nat,s = [.int .i64 (x : Int),.int .i64 (y : Int),.bool true]∧jD u 0 u.fs=some (x,y))∨∃ x y,s = [x,y,.bool false]∧jD u 0 u.fs=none)) (fun K3 hK3=>?_) ?_
 rotate_left
 ·rintro _ w9 ⟨e9,⟨x,y,rfl,hb⟩|⟨x,y,rfl,hb⟩⟩ d9
  ·rw [hb] at h
   refine c_t rfl ?_
   exact h _ e9
  ·rw [hb] at h
   refine c_f rfl ?_
   exact h _ e9
 refine gG_ ?_
 refine zk (ι:=Nat × Value × Value) (fun i=>[i.2.1,i.2.2,.bool false,.int .i64 (i.1 : Nat)]) (fun j w'=>j.1≤u.fs.length∧jD u j.1 (u.fs.drop j.1)=jD u 0 u.fs∧StX noX w r w' _) (fun i=>u.fs.length - i.1) (0,.int .i64 a,.int .i64 0) rfl ⟨Nat.zero_le _,rfl,S⟩ ?_
 clear S
 rintro ⟨j,x1,x2⟩ d w5 ⟨hj,hd,S⟩ K6 hK6
 simp only at hj hd S ⊢
 simp only [List.getD_cons_zero,List.getD_cons_succ]
 refine gP_ ?_
 refine zg (fun hlt=>?_) (fun hge=>?_)
 rotate_left
 ·have hje : j=u.fs.length:=by omega
  rw [hje,List.drop_length] at hd
  exact hK3 _ _ ⟨S.ext,.inr ⟨_,_,rfl,hd.symm⟩⟩
 have hlt : j<u.fs.length:=by omega
 obtain ⟨bf,of,cf,rfl,hcf,hgc,hfo⟩:=hfn.sl.get (by decide) hlt
 rw [aeK hlt] at hd
 have hH:=hheads j hlt
 have hfin:=hH.fine hok
 have hpn : ∀ f ∈ u.fs,0≤f.pn∧f.pn<f.tys.length:=fun f hf=>by
  obtain ⟨i,hi,rfl⟩:=List.getElem_of_mem hf
  exact ⟨(hheads i hi).pn0,(hheads i hi).pn1⟩
 generalize hgi : u.fs[j]=g at hd hgc hH hfin
 obtain ⟨vo,vt,vn,vp,rfl,h1,h2,h3,h4⟩:=id hgc
 obtain ⟨qo,capo,rfl,_,_⟩:=h1.sl.shape
 obtain ⟨qt,capt,rfl,_,hct⟩:=h2.sl.shape
 obtain ⟨qn,capn,rfl,_,_⟩:=h3.sl.shape
 obtain ⟨qp,capp,rfl,_,_⟩:=h4.sl.shape
 have hptl : g.pts.length≤9223372036854775807:=h4.few
 refine gP_ ?_
 refine zt (n:=7) hcf (fun j v hj=>by rw [Int.toNat_natCast];exact S.at (hfo j v hj)) ?_
 refine S.al fun b9 w6 S=>?_
 refine S.stB (b:=b9) fun w7 S=>?_
 refine S.ldB (b:=b1) ?_ rfl
 refine S.ldB (b:=b9) ?_ rfl
 refine zz (cs:=#[.slice p0 u.ss.length cap0,.slice (some ⟨bf,of,none⟩) u.fs.length capf,.int .i64 u.mn,.string g.name,.int .i64 g.lv,.slice qo g.outs.length capo,.int .i64 g.pn,.slice qt g.tys.length capt,.slice qn g.nms.length capn,.slice qp g.pts.length capp]) (by kernel_rfl) ?_
 refine S.al fun b10 w8 S=>?_
 refine S.stB (b:=b10) fun w9 S=>?_
 refine gG_ ?_
 have hask : AskG r (.agg #[.slice p0 u.ss.length cap0,.slice (some ⟨bf,of,none⟩) u.fs.length capf,.int .i64 u.mn,.string g.name,.int .i64 g.lv,.slice qo g.outs.length capo,.int .i64 g.pn,.slice qt g.tys.length capt,.slice qn g.nms.length capn,.slice qp g.pts.length capp]) u g:=⟨_,_,_,_,_,_,_,rfl,hu0,hgc⟩
 refine zk (ι:=Nat) (fun i=>[x1,x2,.bool false,.int .i64 (i : Nat)]) (fun k w'=>k≤g.pts.length∧jN u g k (g.pts.drop k)=jN u g 0 g.pts∧StX noX w r w' _) (fun i=>g.pts.length - i) 0 rfl ⟨Nat.zero_le _,rfl,S⟩ ?_
 clear S
 rintro k d w10 ⟨hk,hdk,S⟩ K7 hK7
 simp only [List.getD_cons_zero,List.getD_cons_succ]
 refine gP_ ?_
 refine zg (fun hlt2=>?_) (fun hge=>?_)
 ·have hlt2 : k<g.pts.length:=by omega
  obtain ⟨bp,op,cp,rfl,hcp,hpc,hcell⟩:=h4.sl.get (by decide) hlt2
  rw [adT hlt2] at hdk
  refine gP_ ?_
  refine zt (n:=21) hcp (fun j v hj=>by rw [Int.toNat_natCast];exact S.at (hcell j v hj)) ?_
  obtain ⟨vto,va,vb,vl,vfr,rfl,k1,k2,k3,k4,k5⟩:=id hpc
  obtain ⟨_,_,rfl,_⟩:=k1.sl.shape
  obtain ⟨_,_,rfl,_⟩:=k2.sl.shape
  obtain ⟨_,_,rfl,_⟩:=k3.sl.shape
  obtain ⟨_,_,rfl,_⟩:=k4.sl.shape
  obtain ⟨_,_,rfl,_⟩:=k5.sl.shape
  refine S.al fun b12 w11 S=>?_
  refine S.stB (b:=b12) fun w12 S=>?_
  refine S.ldB (b:=b10) ?_ rfl
  refine S.ldB (b:=b12) ?_ rfl
  refine Y6 S.holds hask hfin hpn hpc fun w13 e13=>?_
  have S:=S.go e13
  refine gP_ ?_
  refine c_b (fun hx=>?_) (fun hx=>?_)
  ·rw [if_neg (by simpa using hx)] at hdk
   rw [← hdk] at hd
   exact hK3 _ _ ⟨S.ext,.inl ⟨j,k,rfl,hd.symm⟩⟩
  ·rw [if_pos (by simpa using hx)] at hdk
   refine gP_ ?_
   rw [show ((k : Int)+1)=((k+1 : Nat) : Int) by omega]
   exact hK7 (k+1) _ ⟨hlt2,hdk,S.drop b12⟩ (by omega)
 have hke : k=g.pts.length:=by omega
 rw [hke,List.drop_length] at hdk
 rw [← hdk] at hd
 refine gP_ ?_
 rw [show ((j : Int)+1)=((j+1 : Nat) : Int) by omega]
 exact hK6 (j+1,x1,x2) _ ⟨hlt,hd,(S.drop b10).drop b9⟩ (by show u.fs.length - (j+1)<u.fs.length - j;omega)
theorem xD {u : UnD} {v : Value} {w : World} {r : Gh} {K : Value→World→Prop} (hr : Holds r w) (hu : UnG r v u)
  (h : ∀ w',Ext w w'→K (.bool (kx u)) w') : zd Tryz.prog Tryz.yM #[v] w K:=by
 refine Tryz.aat ?_
 unfold Tryz.Qh
 have hu0:=hu
 obtain ⟨p0,cap0,vf,rfl,_,_,hst,hsl,hfn⟩:=hu
 obtain ⟨qf,capf,rfl,_,_⟩:=hfn.sl.shape
 have S:=St.start hr
 refine S.box fun b1 w1 S=>?_
 refine S.ldB (b:=b1) ?_ rfl
 refine vk S.holds hu0 fun w2 e2=>?_
 have S:=S.go e2
 refine gS_ ?_
 exact h _ S.ext
end Go.Proofs
end
section
namespace Go.Proofs
open Go.Sh
set_option maxRecDepth 100000
set_option linter.unusedSimpArgs false
set_option linter.unusedVariables false
theorem aeL {s : Gh} {p : Option Addr} {n cap : Nat} {l : List Int} (h : SlG 1 s ab0 (.slice p n cap) l) : Ob s fun w=>Sl w p (ints l):=fun w hw i v hi=>by
 have hlt : i<l.length:=by
  have:=(List.getElem?_eq_some_iff.1 hi).1
  rwa [kM] at this
 have hv : v = .int .i64 l[i]:=by
  rw [ints,List.getElem?_map,List.getElem?_eq_getElem hlt] at hi
  exact (Option.some.inj hi).symm
 subst hv
 obtain ⟨b,off,c,rfl,hc,hcc,hcell⟩:=h.get (by decide) hlt
 obtain rfl : c=_:=hcc
 have:=hcell 0 _ rfl w hw
 exact ⟨b,off,rfl,by simpa using this⟩
end Go.Proofs
end
section
namespace Go.Sh
theorem StX.front {X : Nat→Prop} {w0 w : World} {r : Gh} {L M : List Asr} (S : StX X w0 r w L) (b : Nat) {c : List Value} {T : TypeId} [h : JT b L c T M] : StX X w0 r w (.cell b c T::M):=S.permO h.h.symm
end Go.Sh
namespace Go.Proofs
open Go.Sh
set_option maxRecDepth 100000
set_option linter.unusedSimpArgs false
set_option linter.unusedVariables false
end Go.Proofs
end
section
namespace Go.Proofs
open Go.Sh
set_option maxRecDepth 100000
set_option linter.unusedSimpArgs false
set_option linter.unusedVariables false
def xT : PlD:=⟨0,[]⟩
def XW : OpD:=⟨0,0,xT⟩
def ac7 : PtD:=⟨0,xT,XW,XW,[],ByteArray.empty,xT,false,0,0,0,0,0⟩
abbrev abA : List Value:=[.int .u8 0,.int .i64 0,.slice none 0 0,.int .u8 0,.int .i64 0,.int .i64 0,.slice none 0 0,.int .u8 0,.int .i64 0,.int .i64 0,.slice none 0 0,.slice none 0 0,.string ByteArray.empty,.int .i64 0,.slice none 0 0,.bool false,.int .i64 0,.int .i64 0,.int .i64 0,.int .i64 0,.int .i64 0]
theorem xU {α : Type} {sz : Nat} {r : Gh} {R : List Value→α→Prop} : SlB sz r R (.slice none 0 0) ([] : List α):=⟨SlG.nil,Nat.zero_le _⟩
theorem adU {r : Gh} : PtG r abA ac7:=⟨_,_,_,_,_,rfl,xU,xU,xU,xU,xU⟩
abbrev ptL (p : PtD) (q1 q2 q3 q4 q5 : Option Addr) (c1 c2 c3 c4 c5 : Nat) : List Value:=[.int .u8 p.op,.int .i64 p.to.l,.slice q1 p.to.ps.length c1,.int .u8 p.a.k,.int .i64 p.a.n,.int .i64 p.a.pl.l,.slice q2 p.a.pl.ps.length c2,.int .u8 p.b.k,.int .i64 p.b.n,.int .i64 p.b.pl.l,.slice q3 p.b.pl.ps.length c3,.slice q4 p.args.length c4,
 .string p.sign,.int .i64 p.fr.l,.slice q5 p.fr.ps.length c5,.bool p.mu,.int .i64 p.fn,.int .i64 p.st,.int .i64 p.nx,.int .i64 p.el,.int .i64 p.tx]
theorem yU {r : Gh} {c : List Value} {p : PtD} (h : PtG r c p) : ∃ q1 q2 q3 q4 q5 c1 c2 c3 c4 c5,c=ptL p q1 q2 q3 q4 q5 c1 c2 c3 c4 c5∧PtG r (ptL p q1 q2 q3 q4 q5 c1 c2 c3 c4 c5) p:=by
 obtain ⟨vto,va,vb,vl,vfr,rfl,k1,k2,k3,k4,k5⟩:=id h
 obtain ⟨q1,c1,rfl,_⟩:=k1.sl.shape
 obtain ⟨q2,c2,rfl,_⟩:=k2.sl.shape
 obtain ⟨q3,c3,rfl,_⟩:=k3.sl.shape
 obtain ⟨q4,c4,rfl,_⟩:=k4.sl.shape
 obtain ⟨q5,c5,rfl,_⟩:=k5.sl.shape
 exact ⟨q1,q2,q3,q4,q5,c1,c2,c3,c4,c5,rfl,h⟩
end Go.Proofs
end
section
namespace Go.Proofs
open Go.Sh
set_option maxRecDepth 100000
set_option linter.unusedSimpArgs false
set_option linter.unusedVariables false
theorem xr (x : ByteArray) : Value.string x = .string (bs x.data.toList):=rfl
theorem YH {r : Gh} {p : PtD} {q1 q2 q3 q4 q5 : Option Addr} {c1 c2 c3 c4 c5 : Nat} (h : PtG r (ptL p q1 q2 q3 q4 q5 c1 c2 c3 c4 c5) p) :
  PlG r [.int .i64 p.to.l,.slice q1 p.to.ps.length c1] p.to∧OpG r [.int .u8 p.a.k,.int .i64 p.a.n,.int .i64 p.a.pl.l,.slice q2 p.a.pl.ps.length c2] p.a∧
  OpG r [.int .u8 p.b.k,.int .i64 p.b.n,.int .i64 p.b.pl.l,.slice q3 p.b.pl.ps.length c3] p.b∧SlB 4 r (OpG r) (.slice q4 p.args.length c4) p.args∧PlG r [.int .i64 p.fr.l,.slice q5 p.fr.ps.length c5] p.fr:=by
 obtain ⟨_,_,_,_,_,hE,k1,k2,k3,k4,k5⟩:=h
 cases hE
 exact ⟨⟨_,rfl,k1⟩,⟨_,rfl,k2⟩,⟨_,rfl,k3⟩,k4,⟨_,rfl,k5⟩⟩
set_option maxHeartbeats 4000000 in
theorem aaS {p : PtD} {q : Int} {c : List Value} {w : World} {r : Gh} {K : Value→World→Prop} (hT : TabZ r) (hr : Holds r w) (hp : PtG r c p) (hf : p.fit) (hq : 0≤q∧q≤1000000)
  (h : ∀ w',Ext w w'→K (.string (bs (ptT p q))) w') : zd Tryz.prog Tryz.vY #[.agg c.toArray,.int .i64 q] w K:=by
 refine Tryz.VP ?_
 unfold Tryz.Xs
 obtain ⟨z1,z2,z3,z4,z5,t1,t2,t3,t4,t5,rfl,hp0⟩:=yU hp
 obtain ⟨kto,ka,kb,kl,kf⟩:=YH hp0
 have hal:=hf.args
 have la:=Yk hf.a;have lb:=Yk hf.b;have lf:=Yj hf.fr;have lt:=Yj hf.to;have lj:=Vn hf.args
 have lst:=ym hf.st;have lfn:=ym hf.fn;have lnx:=ym hf.nx;have lel:=ym hf.el
 have ldo:=aeF hf;have lgo:=aeG (q:=q) hf
 have lsg : p.sign.data.toList.length≤1000:=by have:=hf.sign;rwa [ByteArray.size,← Array.length_toList] at this
 have ho1:=hf.op1;have ho14:=hf.op14
 have S:=St.start hr
 refine S.box fun b2 w1 S=>?_
 have S : StX noX w r w1 [.cell b2 (ptL p z1 z2 z3 z4 z5 t1 t2 t3 t4 t5) 44]:=S
 refine gg_ ?_
 have S:=S.ownNil 9 1
 have S : StX noX w (r.or nothing) w1 [.row (.slice none 0 0) 9 1 0 [],.cell b2 (ptL p z1 z2 z3 z4 z5 t1 t2 t3 t4 t5) 44]:=S.to _
 refine zk (ι:=Nat × Value × List Value) (fun i=>[i.2.1,.int .i64 (i.1 : Nat)]) (fun i w'=>i.1≤p.args.length∧RowOf 1 Z0 i.2.2 (((p.args.take i.1).map opT).map bs)∧
  StX noX w (r.or nothing) w' [.row i.2.1 9 1 i.1 i.2.2,.cell b2 (ptL p z1 z2 z3 z4 z5 t1 t2 t3 t4 t5) 44]) (fun i=>p.args.length - i.1) (0,.slice none 0 0,[]) rfl ⟨Nat.zero_le _,by simpa using RowOf.nil,S⟩ ?_
 clear S
 rintro ⟨i,vp,xs⟩ dd w10 ⟨hi,hrow,S⟩ K2 hK2
 simp only at hi hrow S ⊢
 simp only [List.getD_cons_zero,List.getD_cons_succ]
 refine gg_ ?_
 refine zg (fun hlt=>?_) (fun hge=>?_)
 ·have hlt : i<p.args.length:=by omega
  obtain ⟨b',o',c',rfl,hc',hR,hcell⟩:=kl.sl.get (by decide) hlt
  have hof:=hal.2 _ (List.getElem_mem hlt)
  refine gg_ ?_
  refine zt (n:=4) hc' (fun j v hj=>by rw [Int.toNat_natCast];exact S.at (hcell j v hj)) ?_
  refine S.al fun b7 w6 S=>?_
  obtain ⟨va,rfl,hva⟩:=id hR
  obtain ⟨qa,ca,rfl,_,_⟩:=hva.sl.shape
  refine S.stB (b:=b7) fun w7 S=>?_
  refine S.ldB (b:=b7) ?_ rfl
  refine kv hT.up S.holds hR.up hof fun w8 e8=>?_
  have S:=(S.drop b7).go e8
  refine S.lit (e:=9) (cs:=[.string (bs (opT p.args[i]))]) (by kernel_rfl) fun b15 w14 S=>?_
  refine S.ap (m':=1) (Sl.blk (S.blk b15)) (fun v15 w15 S=>?_) (by omega)
  have S:=S.drop b15
  refine gg_ ?_
  refine hK2 (i+1,v15,xs ++ [.string (bs (opT p.args[i]))]) _ ⟨hlt,?_,S⟩ (by show p.args.length - (i+1)<p.args.length - i;omega)
  show RowOf 1 Z0 (xs ++ [.string (bs (opT p.args[i]))]) (((p.args.take (i+1)).map opT).map bs)
  rw [List.take_succ_eq_append_getElem hlt,List.map_append,List.map_append]
  exact hrow.snoc rfl rfl
 have hie : i=p.args.length:=by omega
 subst hie
 rw [List.take_length] at hrow
 obtain ⟨s2,S,hsl2,_,_⟩:=S.doneRow hrow (by decide) (by simp)
 refine afk S.holds (hsl2.up' inferInstance fun c x hx=>hx) (by rw [List.length_map];exact hal.1) (by omega) fun w11 e11=>?_
 have S:=S.go e11
 have S:=S.go (Ext.drew _)
 have lar : (jk p.args).length≤24002002:=aaF hal
 have harg : ∀ {Q : Value→Prop},Q (.string (bs (jk p.args)))→Q (.string (bs (([40]++yg (p.args.map opT)) ++ [41]))):=fun h=>h
 refine gA_ ?_
 refine gg_ ?_
 refine S.ldN (b:=b2) ?_
 refine gg_ ?_
 refine S.ldN (b:=b2) ?_
 refine kv hT.up S.holds ka.up hf.a fun w12 e12=>⟨e12,?_⟩
 have S:=S.go e12
 refine jn hT.up S.holds kf.up hf.fr fun w13 e13=>?_
 have S:=S.go e13
 refine zA (fun x w'=>x = [.string (bs (doT p))]∧p.op≠14∧StX noX w ((r.or nothing).or s2) w' [.cell b2 (ptL p z1 z2 z3 z4 z5 t1 t2 t3 t4 t5) 44]) (fun K14 hK14=>?_) ?_
 ·refine gg_ ?_
  refine zg (fun h1=>?_) (fun h1=>?_)
  ·have hd : doT p=opT p.a:=by rw [doT,h1];rfl
   rw [hd] at hK14
   exact hK14 _ _ ⟨rfl,by omega,S⟩
  refine gg_ ?_
  refine zg (fun h2=>?_) (fun h2=>?_)
  ·have hd : doT p=opT p.a ++ [32]++p.sign.data.toList ++ [32]++opT p.b:=by rw [doT,h2];rfl
   rw [hd] at hK14
   have S:=S.go (Ext.drew _)
   refine gA_ ?_
   rw [xr p.sign]
   refine gA_ ?_
   refine gg_ ?_
   refine S.ldN (b:=b2) ?_
   refine kv hT.up S.holds kb.up hf.b fun w18 e18=>⟨e18,?_⟩
   have S:=S.go e18
   refine gA_ ?_
   exact hK14 _ _ ⟨rfl,by omega,S⟩
  refine gg_ ?_
  refine zg (fun h3=>?_) (fun h3=>?_)
  ·have hd : doT p=p.sign.data.toList ++ [32]++opT p.a:=by rw [doT,h3];rfl
   rw [hd] at hK14
   refine gA_ ?_
   rw [xr p.sign]
   refine gA_ ?_
   exact hK14 _ _ ⟨rfl,by omega,S⟩
  refine gg_ ?_
  refine zg (fun h4=>?_) (fun h4=>?_)
  ·refine gA_ ?_
   refine c_b (fun hm=>?_) (fun hm=>?_)
   ·have hd : doT p = [38,109,117,116,32]++plT p.fr:=by rw [doT,h4,hm];rfl
    rw [hd] at hK14
    refine gA_ ?_
    exact hK14 _ _ ⟨rfl,by omega,S⟩
   ·have hd : doT p = [38,32]++plT p.fr:=by rw [doT,h4,hm];rfl
    rw [hd] at hK14
    exact hK14 _ _ ⟨rfl,by omega,S⟩
  refine gg_ ?_
  refine zg (fun h5=>?_) (fun h5=>?_)
  ·have hd : doT p = [98,111,120,32]++opT p.a:=by rw [doT,h5];rfl
   rw [hd] at hK14
   refine gA_ ?_
   exact hK14 _ _ ⟨rfl,by omega,S⟩
  refine gg_ ?_
  refine zg (fun h6=>?_) (fun h6=>?_)
  ·have hd : doT p = [35]++Lib.itoa p.st++jk p.args:=by rw [doT,h6];rfl
   rw [hd] at hK14
   refine gA_ ?_
   refine vP hT.up hf.st S.holds fun w18 e18=>?_
   have S:=S.go e18
   refine gA_ ?_
   exact hK14 _ _ ⟨rfl,by omega,S⟩
  refine gg_ ?_
  refine zg (fun h7=>?_) (fun h7=>?_)
  ·have hd : doT p = [102]++Lib.itoa p.fn++jk p.args:=by rw [doT,h7];rfl
   rw [hd] at hK14
   refine gA_ ?_
   refine vP hT.up hf.fn S.holds fun w18 e18=>?_
   have S:=S.go e18
   refine gA_ ?_
   exact hK14 _ _ ⟨rfl,by omega,S⟩
  refine gg_ ?_
  refine zg (fun h8=>?_) (fun h8=>?_)
  ·have hd : doT p = [114,101,97,100]:=by rw [doT,h8];rfl
   rw [hd] at hK14
   exact hK14 _ _ ⟨rfl,by omega,S⟩
  refine gg_ ?_
  refine zg (fun h9=>?_) (fun h9=>?_)
  ·have hd : doT p = [112,114,105,110,116,32]++opT p.a:=by rw [doT,h9];rfl
   rw [hd] at hK14
   refine gA_ ?_
   exact hK14 _ _ ⟨rfl,by omega,S⟩
  refine gg_ ?_
  refine zg (fun h10=>?_) (fun h10=>?_)
  ·have hd : doT p = [100,114,111,112,32]++plT p.fr:=by rw [doT,h10];rfl
   rw [hd] at hK14
   refine gA_ ?_
   exact hK14 _ _ ⟨rfl,by omega,S⟩
  refine gg_ ?_
  refine zg (fun h11=>?_) (fun h11=>?_)
  ·have hd : doT p = [100,101,97,100,32]++plT p.fr:=by rw [doT,h11];rfl
   rw [hd] at hK14
   refine gA_ ?_
   exact hK14 _ _ ⟨rfl,by omega,S⟩
  refine gg_ ?_
  refine zg (fun h12=>?_) (fun h12=>?_)
  ·have hd : doT p = [105,102,32]++opT p.a:=by rw [doT,h12];rfl
   rw [hd] at hK14
   refine gA_ ?_
   exact hK14 _ _ ⟨rfl,by omega,S⟩
  refine gg_ ?_
  refine zg (fun h13=>?_) (fun h13=>?_)
  ·have hd : doT p = [103,111,116,111]:=by rw [doT,h13];rfl
   rw [hd] at hK14
   exact hK14 _ _ ⟨rfl,by omega,S⟩
  refine gg_ ?_
  refine zg (fun h14=>?_) (fun h14=>?_)
  ·have hd : ptT p q = [114,101,116,117,114,110]:=by rw [ptT,if_pos h14]
   rw [hd] at h
   exact h _ S.ext
  exfalso;omega
 clear S
 rintro _ w17 ⟨rfl,hne,S⟩ d17
 rw [ptT,if_neg hne] at h
 refine zA (fun x w'=>x = [.string (bs ((if p.op≤8 then plT p.to ++ [32,61,32] else [])++doT p))]∧StX noX w ((r.or nothing).or s2) w' [.cell b2 (ptL p z1 z2 z3 z4 z5 t1 t2 t3 t4 t5) 44]) (fun K21 hK21=>?_) ?_
 ·refine gg_ ?_
  refine zg (fun h8=>?_) (fun h8=>?_)
  ·rw [if_pos h8] at hK21
   refine gg_ ?_
   refine S.ldN (b:=b2) ?_
   refine jn hT.up S.holds kto.up hf.to fun w18 e18=>?_
   have S:=S.go e18
   refine gA_ ?_
   exact hK21 _ _ ⟨rfl,S⟩
  ·rw [if_neg h8] at hK21
   exact hK21 _ _ ⟨rfl,S⟩
 clear S
 rintro _ w24 ⟨rfl,S⟩ d24
 have lX : ((if p.op≤8 then plT p.to ++ [32,61,32] else [])++doT p).length≤26000000:=by
  split<;>simp only [List.length_append,List.length_cons,List.length_nil]<;>omega
 generalize (if p.op≤8 then plT p.to ++ [32,61,32] else [])++doT p=X at h lX ⊢
 refine zA (fun x w'=>x = [.string (bs (X++goT p q))]∧StX noX w ((r.or nothing).or s2) w' [.cell b2 (ptL p z1 z2 z3 z4 z5 t1 t2 t3 t4 t5) 44]) (fun K26 hK26=>?_) ?_
 ·refine gg_ ?_
  refine zh (c:=decide (p.op=12)) (fun _ K2 hK2=>by refine gg_ ?_;exact hK2) ?_
  refine zh (c:=decide (p.op=13)) (fun _ K2 hK2=>by refine gg_ ?_;exact hK2) ?_
  refine c_b (fun hb=>?_) (fun hb=>?_)
  ·rw [goT,if_pos (by simpa [or_assoc] using hb)] at hK26
   refine gg_ ?_
   refine vP hT.up hf.nx S.holds fun w18 e18=>?_
   have S:=S.go e18
   refine gA_ ?_
   exact hK26 _ _ ⟨rfl,S⟩
  ·rw [goT,if_neg (by simpa [or_assoc,not_or,and_assoc] using hb),List.append_nil] at hK26
   exact hK26 _ _ ⟨rfl,S⟩
 clear S
 rintro _ w29 ⟨rfl,S⟩ d29
 refine zA (fun x w'=>x = [.string (bs ((X++goT p q)++elT p))]∧StX noX w ((r.or nothing).or s2) w' [.cell b2 (ptL p z1 z2 z3 z4 z5 t1 t2 t3 t4 t5) 44]) (fun K39 hK39=>?_) ?_
 ·refine gg_ ?_
  refine zg (fun h12=>?_) (fun h12=>?_)
  ·rw [elT,if_pos h12] at hK39
   refine gg_ ?_
   refine vP hT.up hf.el S.holds fun w18 e18=>?_
   have S:=S.go e18
   refine gA_ ?_
   exact hK39 _ _ ⟨rfl,S⟩
  ·rw [elT,if_neg h12,List.append_nil] at hK39
   exact hK39 _ _ ⟨rfl,S⟩
 clear S
 rintro _ w42 ⟨rfl,S⟩ d42
 rw [List.getD_cons_zero]
 exact h _ S.ext
end Go.Proofs
end
section
namespace Go.Proofs
open Go.Sh
set_option maxRecDepth 100000
set_option linter.unusedSimpArgs false
set_option linter.unusedVariables false
def kS (u : UnD) (fn q : Int) : Option PtD:=u.fs[fn.toNat]?.bind fun g=>g.pts[q.toNat]?
theorem aaT {u : UnD} {fn q : Int} {p : PtD} (hlt : fn.toNat<u.fs.length) (h : kS u fn q=some p) : ∃ hq : q.toNat<u.fs[fn.toNat].pts.length,u.fs[fn.toNat].pts[q.toNat]=p:=by
 rw [kS,List.getElem?_eq_getElem hlt,Option.bind_some] at h
 exact List.getElem?_eq_some_iff.1 h
end Go.Proofs
end
section
namespace Go.Proofs
open Go.Sh
set_option maxRecDepth 100000
set_option linter.unusedSimpArgs false
set_option linter.unusedVariables false
end Go.Proofs
end
section
namespace Go.Sh
theorem StX.litNew {w0 w : World} {r : Gh} {L M : List Asr} {α : Type} {sz : Nat} {R : List Value→α→Prop} {l : List α} {e : TypeId} {xs : List Value} (S : StX noX w0 r w L) (b : Nat) [h : JT b L xs e M] (hr : RowOf sz R xs l) (hz : 0<sz) :
  StX noX w0 (r.or (Go.Sh.one b xs e)) w M∧SlG sz (Go.Sh.one b xs e) R (.slice (some ⟨b,0,none⟩) l.length l.length) l∧Above w0 (Go.Sh.one b xs e):=by
 have S1:=S.front b
 have hm:=S1.mine (.cell b xs e) List.mem_cons_self b rfl
 obtain ⟨S2,h2⟩:=S1.litSl hr hz
 exact ⟨S2,h2,by rintro b' o ⟨rfl,_⟩;exact hm.1.resolve_right id⟩
end Go.Sh
namespace Go.Proofs
open Go.Sh
set_option maxRecDepth 100000
set_option linter.unusedSimpArgs false
set_option linter.unusedVariables false
theorem qW {α : Type} {sz : Nat} {R : List Value→α→Prop} {c : List Value} {x : α} (hc : c.length=sz) (hx : R c x) : RowOf sz R c [x]:=RowOf.nil.snoc (xs:=[]) hc hx
theorem vK {α : Type} {sz : Nat} {R : List Value→α→Prop} {c xs : List Value} {x : α} {l : List α} (hc : c.length=sz) (hx : R c x) (h : RowOf sz R xs l) : RowOf sz R (c++xs) (x::l):=by
 obtain ⟨h1,h2⟩:=h
 refine ⟨by rw [List.length_append,List.length_cons,h1,hc,Nat.succ_mul,Nat.add_comm],fun i hi=>?_⟩
 cases i with
 |zero=>rw [Nat.zero_mul,List.drop_zero,List.take_append_of_le_length (by omega),List.take_of_length_le (by omega)];exact hx
 |succ i=>
  have e : ((c++xs).drop ((i+1)*sz))=xs.drop (i*sz):=by
   rw [show (i+1)*sz=c.length+i*sz by rw [hc,Nat.succ_mul,Nat.add_comm],← List.drop_drop,List.drop_left'];rfl
  rw [e]
  exact h2 i (by simpa using hi)
theorem XX {α : Type} {sz : Nat} {r : Gh} {R : List Value→α→Prop} {v : Value} {l : List α} (h : SlG sz r R v l) (hl : l.length≤1000000:=by decide) : SlB sz r R v l:=⟨h,by simp only [maxLen];omega⟩
abbrev Z2 : List Value:=[.int .u8 1,.bool false,.int .i64 0,.int .i64 0,.slice none 0 0]
abbrev hl3 : List Value:=[.int .u8 14,.int .i64 0,.slice none 0 0,.int .u8 0,.int .i64 0,.int .i64 0,.slice none 0 0,.int .u8 0,.int .i64 0,.int .i64 0,.slice none 0 0,.slice none 0 0,.string ByteArray.empty,.int .i64 0,.slice none 0 0,.bool false,.int .i64 0,.int .i64 0,.int .i64 0,.int .i64 0,.int .i64 0]
end Go.Proofs
end
section
namespace Go.Proofs
open Go.Sh
set_option maxRecDepth 100000
set_option linter.unusedSimpArgs false
set_option linter.unusedVariables false
theorem hst : zU ([] : List StD)=(0,0):=by unfold zU;simp [xR]
theorem ab7 (t : TyD) : x7 [] t=zO 0 48 t:=by rw [x7,hst];simp
theorem Js : ByteArray.empty.toList = []:=by rw [ByteArray.toList_eq];rfl
end Go.Proofs
end
section
namespace Go.Sh
section
variable {P : Program} {t : TypeId} {c : Bool} {K : Value→Prop}
theorem afo {a b : Int} (k : ∀ x : Int,K (.int .i64 x)) : opP P (zV .add t c (.int .i64 a) (.int .i64 b)) K:=
 z6 (fun w=>by rw [xz];simp [binOp,Op.intArith]) (k (IntKind.i64.wrap (a+b)))
end
end Go.Sh
namespace Go.Proofs
open Go.Sh
set_option maxRecDepth 100000
set_option linter.unusedSimpArgs false
set_option linter.unusedVariables false
end Go.Proofs
end
section
namespace Go.Sh
open Go.RowKit
theorem J5 (z : Array Value) (n : Nat) : (Go.Builtin.zeroCells z n).toList.length=n*z.size∧∀ u ∈ (Go.Builtin.zeroCells z n).toList,u ∈ z.toList:=by
 refine ⟨by simp [Go.Builtin.zeroCells],fun u hu=>?_⟩
 simp only [Go.Builtin.zeroCells,Array.toList_map,Array.toList_range,List.mem_map,List.mem_range] at hu
 obtain ⟨i,hi,rfl⟩:=hu
 have hz : 0<z.size:=by
  rcases Nat.eq_zero_or_pos z.size with h|h
  ·rw [h,Nat.mul_zero] at hi;omega
  ·exact h
 have hm:=Nat.mod_lt i hz
 rw [getElem!_pos z (i % z.size) hm]
 simp
section
variable {P : Program} {X : Nat→Prop} {w0 w : World} {r : Gh} {L : List Asr} {t e T ty : TypeId} {b sz n off cap : Nat} {c z : List Value} {f : List Value→List Asr}
theorem StX.clr {K : Value→World→Prop} (S : StX X w0 r w L) [h : At b L c T f] [hs : SlT P t e sz] [hz : ZrT P e z] (hl : off+n*z.length≤c.length) (h1 : ∀ u ∈ z,u.oneCell'=true)
  (k : ∀ c' w',c'.length=c.length→c'.take off=c.take off→StX X w0 r w' (f c')→K (.tuple #[]) w') : opW P w (Builtin.clear_ #[t] ty #[.slice (some ⟨b,off,none⟩) n cap]) K:=by
 have hT:=hs.h
 unfold slT at hT
 cases hu : P.underlying t with
 |none=>rw [hu] at hT;cases hT
 |some d=>
  rw [hu] at hT
  cases d<;>first|(cases hT;done)|skip
  rename_i e'
  simp only [Option.map_eq_some_iff,Prod.mk.injEq] at hT
  obtain ⟨m,hm,rfl,rfl⟩:=hT
  have B:=S.blk b (h:=h)
  obtain ⟨zv,hzc,hzr⟩:=Ys hz.h
  cases n with
  |zero=>
   have S' : StX X w0 r w (f c):=by
    obtain ⟨p,q,h1,h2⟩:=h.h
    rw [h2,← h1];exact S
   refine ⟨_,w,?_,k c w rfl rfl S'⟩
   simp [Builtin.clear_,run_underlying hu,Sem.run_bind,Sem.run,pure,Result.andThen]
  |succ n=>
   obtain ⟨hzl,hzm⟩:=J5 zv.cells (n+1)
   have hzs : zv.cells.size=z.length:=by rw [← hzc,Array.length_toList]
   have hst:=run_storeCells_at P b off T (Go.Builtin.zeroCells zv.cells (n+1)).toList 0 c.toArray w B (by
    rw [hzl,hzs];simpa using hl) (fun u hu=>h1 u (by rw [← hzc];exact hzm u hu))
   simp only [Nat.add_zero] at hst
   obtain ⟨f1,f2,f3⟩:=vT B (c.take off++(Go.Builtin.zeroCells zv.cells (n+1)).toList++c.drop (off+(Go.Builtin.zeroCells zv.cells (n+1)).toList.length))
   refine ⟨_,_,?_,k _ _ ?_ ?_ (S.turnC (h:=h) f1 f3)⟩
   ·simp [Builtin.clear_,run_underlying hu,Sem.run_bind,Sem.run,pure,Result.andThen,hzr,hst]
    try rfl
   ·simp only [List.length_append,List.length_take,List.length_drop,hzl,hzs];omega
   ·rw [List.append_assoc,List.take_append_of_le_length (by rw [List.length_take];omega),List.take_take,Nat.min_self]
end
end Go.Sh
end
section
namespace Go.Proofs
open Go.Sh
set_option maxRecDepth 100000
set_option linter.unusedSimpArgs false
set_option linter.unusedVariables false
theorem jF {u : UnD} {g : GrD} {p : PtD} (h : zu u g p=true) : ptG u g p=true:=by
 rw [zu,Bool.and_eq_true] at h;exact h.2
theorem adV {u : UnD} {g : GrD} {p : PtD} (h : zu u g p=true) (ho : 1≤p.op∧p.op≤8) : (zC u.ss g.tys p.to).2.2=true:=by
 have h2:=jF h
 cases hf : (zC u.ss g.tys p.to).2.2 with
 |true=>rfl
 |false=>
  have hc : p.op=1∨p.op=2∨p.op=3∨p.op=4∨p.op=5∨p.op=6∨p.op=7∨p.op=8:=by omega
  rw [ptG] at h2
  rcases hc with hc|hc|hc|hc|hc|hc|hc|hc<;>simp [hc,hf] at h2
theorem YI {ss : List StD} {tys : List TyD} {p : PlD} (h : (zC ss tys p).2.2=true) : p.ps.length≤8:=by
 unfold zC at h
 split at h
 ·simpa using h
 ·cases h
theorem adW {u : UnD} {g : GrD} {p : PtD} (h : zu u g p=true) (ho : 1≤p.op∧p.op≤8) : p.to.ps.length≤8:=YI (adV h ho)
noncomputable def fnE (u : UnD) (n : Int) : Int:=if (decide (n<0)||decide ((u.fs.length : Int)≤n)) || !kx u then 2 else 0
theorem XA {u : UnD} {n : Int} (h : fnE u n=0) : MayU u∧0≤n∧n.toNat<u.fs.length:=by
 unfold fnE at h
 split at h
 ·cases h
 ·rename_i hc
  simp only [Bool.or_eq_true,decide_eq_true_eq,Bool.not_eq_true',not_or,Bool.not_eq_false] at hc
  exact ⟨yY.1 hc.2,by omega,by omega⟩
noncomputable def ptE (u : UnD) (n q : Int) : Int:=if fnE u n=0∧0≤q∧q<((u.fs[n.toNat]?.map fun g=>(g.pts.length : Int)).getD 0) then 0 else 2
theorem aaU {u : UnD} {n q : Int} (h : ptE u n q=0) : fnE u n=0∧0≤q∧∃ hn : n.toNat<u.fs.length,q.toNat<u.fs[n.toNat].pts.length:=by
 unfold ptE at h
 split at h
 ·rename_i hc
  obtain ⟨h1,h2,h3⟩:=hc
  have hn:=(XA h1).2.2
  rw [List.getElem?_eq_getElem hn] at h3
  have h3 : q<(u.fs[n.toNat].pts.length : Int):=h3
  exact ⟨h1,h2,hn,by omega⟩
 ·cases h
def aeo : GrD:=⟨ByteArray.empty,0,[],0,[],[],[]⟩
abbrev ac8 : List Value:=[.string ByteArray.empty,.int .i64 0,.slice none 0 0,.int .i64 0,.slice none 0 0,.slice none 0 0,.slice none 0 0]
theorem aeM {r : Gh} : GrG r ac8 aeo:=⟨_,_,_,_,rfl,xU,xU,xU,xU⟩
abbrev grL (g : GrD) (q1 q2 q3 q4 : Option Addr) (c1 c2 c3 c4 : Nat) : List Value:=[.string g.name,.int .i64 g.lv,.slice q1 g.outs.length c1,.int .i64 g.pn,.slice q2 g.tys.length c2,.slice q3 g.nms.length c3,.slice q4 g.pts.length c4]
theorem qX {r : Gh} {c : List Value} {g : GrD} (h : GrG r c g) : ∃ q1 q2 q3 q4 c1 c2 c3 c4,c=grL g q1 q2 q3 q4 c1 c2 c3 c4∧GrG r (grL g q1 q2 q3 q4 c1 c2 c3 c4) g:=by
 obtain ⟨vo,vt,vn,vp,rfl,k1,k2,k3,k4⟩:=id h
 obtain ⟨q1,c1,rfl,_⟩:=k1.sl.shape
 obtain ⟨q2,c2,rfl,_⟩:=k2.sl.shape
 obtain ⟨q3,c3,rfl,_⟩:=k3.sl.shape
 obtain ⟨q4,c4,rfl,_⟩:=k4.sl.shape
 exact ⟨q1,q2,q3,q4,c1,c2,c3,c4,rfl,h⟩
theorem ab8 {u : UnD} {n : Int} {v : Value} {w : World} {r : Gh} {K : Value→World→Prop} (hr : Holds r w) (hu : UnG r v u)
  (h : ∀ c g w',Ext w w'→GrG r c g→(fnE u n=0→u.fs[n.toNat]? = some g)→(fnE u n≠0→g.pts = [])→K (.tuple #[.agg c.toArray,.int .i64 (fnE u n)]) w') : zd Tryz.prog Tryz.Yv #[v,.int .i64 n] w K:=by
 refine Tryz.abf ?_
 unfold Tryz.Ja
 have hu0:=hu
 obtain ⟨p0,cap0,vf,rfl,_,_,hst,hsl,hfn⟩:=hu
 obtain ⟨qf,capf,rfl,_,_⟩:=hfn.sl.shape
 have hfl : u.fs.length≤9223372036854775807:=hfn.few
 have S:=St.start hr
 refine S.box fun b2 w1 S=>?_
 have S : StX noX w r w1 [.cell b2 [.slice p0 u.ss.length cap0,.slice qf u.fs.length capf,.int .i64 u.mn] 25]:=S
 refine S.al fun b4 w2 S=>?_
 refine gp_ ?_
 refine zh (c:=decide ((u.fs.length : Int)≤n)) (fun _ K2 hK2=>by refine gg_ ?_;exact hK2) ?_
 refine xM (c:=!kx u) (fun _ K2 hK2=>?_) fun w3 e3=>?_
 ·refine S.ldB (b:=b2) ?_ rfl
  refine xD S.holds hu0 fun w3 e3=>?_
  refine gp_ ?_
  exact hK2 _ e3
 have S:=S.go e3
 refine c_b (fun hb=>?_) (fun hb=>?_)
 ·have hE : fnE u n=2:=by rw [fnE,if_pos hb]
  rw [hE] at h
  refine zz (cs:=ac8.toArray) (by kernel_rfl) ?_
  refine S.stB (b:=b4) fun w4 S=>?_
  refine S.ceB (b:=b4) ?_ rfl
  exact h _ aeo _ S.ext aeM (fun h=>by cases h) fun _=>rfl
 ·have hE : fnE u n=0:=by rw [fnE,if_neg (by rw [hb];decide)]
  obtain ⟨_,hn0,hlt⟩:=XA hE
  rw [hE] at h
  obtain ⟨bf,of,cf,rfl,hcf,hgc,hfo⟩:=hfn.sl.get (by decide) hlt
  rw [List.getElem?_eq_getElem hlt] at h
  generalize u.fs[n.toNat]=g at h hgc
  obtain ⟨x1,x2,x3,x4,y1,y2,y3,y4,rfl,hg0⟩:=qX hgc
  refine gg_ ?_
  refine zt (n:=7) hcf (fun j v hj=>S.at (hfo j v hj)) ?_
  refine S.stB (b:=b4) fun w4 S=>?_
  refine S.ceB (b:=b4) ?_ rfl
  exact h _ g _ S.ext hg0 (fun _=>rfl) fun h=>absurd rfl h
theorem qE {u : UnD} {n q : Int} {v : Value} {w : World} {r : Gh} {K : Value→World→Prop} (hr : Holds r w) (hu : UnG r v u)
  (h : ∀ c p w',Ext w w'→PtG r c p→(ptE u n q=0→kS u n q=some p)→K (.tuple #[.agg c.toArray,.int .i64 (ptE u n q)]) w') : zd Tryz.prog Tryz.xk #[v,.int .i64 n,.int .i64 q] w K:=by
 refine Tryz.JM ?_
 unfold Tryz.YQ
 have hu0:=hu
 obtain ⟨p0,cap0,vf,rfl,_,_,hst,hsl,hfn⟩:=hu
 obtain ⟨qf,capf,rfl,_,_⟩:=hfn.sl.shape
 have S:=St.start hr
 refine S.box fun b3 w1 S=>?_
 have S : StX noX w r w1 [.cell b3 [.slice p0 u.ss.length cap0,.slice qf u.fs.length capf,.int .i64 u.mn] 25]:=S
 refine S.al fun b6 w2 S=>?_
 refine S.ldB (b:=b3) ?_ rfl
 refine ab8 S.holds hu0 fun c g w3 e3 hg hgi _=>?_
 have S:=S.go e3
 obtain ⟨x1,x2,x3,x4,y1,y2,y3,y4,rfl,hg0⟩:=qX hg
 refine gS_ ?_
 refine S.al fun b8 w4 S=>?_
 refine S.stB (b:=b8) fun w5 S=>?_
 refine gp_ ?_
 refine zh (c:=decide (q<0)) (fun _ K2 hK2=>by refine gg_ ?_;exact hK2) ?_
 refine zh (c:=decide ((g.pts.length : Int)≤q)) (fun _ K2 hK2=>by refine gg_ ?_;exact hK2) ?_
 have hP : ptE u n q=if ((decide (fnE u n≠0)||decide (q<0))||decide ((g.pts.length : Int)≤q))=true then 2 else 0:=by
  unfold ptE
  by_cases h0 : fnE u n=0
  ·have e : ((u.fs[n.toNat]?.map fun g=>(g.pts.length : Int)).getD 0)=g.pts.length:=by rw [hgi h0];rfl
   rw [e]
   by_cases h1 : q<0
   ·rw [if_neg (by omega),if_pos (by rw [decide_eq_true h1];simp)]
   by_cases h2 : (g.pts.length : Int)≤q
   ·rw [if_neg (by omega),if_pos (by rw [decide_eq_true h2];simp)]
   ·rw [if_pos ⟨h0,by omega,by omega⟩,if_neg (by rw [decide_eq_false (show ¬ fnE u n≠0 by omega),decide_eq_false h1,decide_eq_false h2];decide)]
  ·rw [if_neg (fun hh=>h0 hh.1),if_pos (by rw [decide_eq_true (show fnE u n≠0 from h0)];rfl)]
 refine c_b (fun hb=>?_) (fun hb=>?_)
 ·rw [if_pos hb] at hP
  rw [hP] at h
  refine zz (cs:=abA.toArray) (by kernel_rfl) ?_
  refine S.stB (b:=b6) fun w6 S=>?_
  refine S.ceB (b:=b6) ?_ rfl
  exact h _ ac7 _ S.ext adU fun h=>by cases h
 ·rw [if_neg (by rw [hb];decide)] at hP
  rw [hP] at h
  simp only [Bool.or_eq_false_iff,decide_eq_false_iff_not] at hb
  obtain ⟨⟨hf,hq0⟩,hql⟩:=hb
  have hgn:=hgi (by omega)
  obtain ⟨_,_,_,_,hE,_,_,_,hpts⟩:=hg0
  cases hE
  have hlq : q.toNat<g.pts.length:=by omega
  obtain ⟨bp,op,cp,rfl,hcp,hpc,hpo⟩:=hpts.sl.get (by decide) hlq
  have hpa : kS u n q=some g.pts[q.toNat]:=by rw [kS,hgn,Option.bind_some,List.getElem?_eq_getElem hlq]
  rw [hpa] at h
  generalize g.pts[q.toNat]=p at h hpc
  obtain ⟨z1,z2,z3,z4,z5,t1,t2,t3,t4,t5,rfl,hp0⟩:=yU hpc
  refine gg_ ?_
  refine zt (n:=21) hcp (fun j v hj=>S.at (hpo j v hj)) ?_
  refine S.stB (b:=b6) fun w6 S=>?_
  refine S.ceB (b:=b6) ?_ rfl
  exact h _ p _ S.ext hp0 fun _=>rfl
theorem aaV {r : Gh} {p : Option Addr} {n cap : Nat} {l : List Int} (h : SlB 1 r qk (.slice p n cap) l) : Ob r fun w=>Sl w p (ints l):=aeL (h.sl.mono fun c x hx=>hx.1)
theorem Vv {l : List Int} (h : ∀ x ∈ l,yC x) : RowOf 1 qk (ints l) l:=⟨by rw [kM,Nat.mul_one],fun j hj=>by
 refine ⟨?_,h _ (List.getElem_mem hj)⟩
 rw [Nat.mul_one,ints,← List.map_drop,← List.map_take,List.drop_eq_getElem_cons hj];rfl⟩
theorem abm {l : List Int} {p : Option Addr} {cap : Nat} {w : World} {r : Gh} {K : Value→World→Prop} (hr : Holds r w) (hl : SlB 1 r qk (.slice p l.length cap) l) (hb : l.length≤1000000)
  (h : ∀ v' s w',Ext w w'→New w s w'→SlB 1 s qk v' l→K v' w') : zd Tryz.prog Tryz.yj #[.slice p l.length cap] w K:=by
 refine Tryz.qx ?_
 unfold Tryz.xg
 have S:=St.start hr
 have hin : ∀ x ∈ l,yC x:=fun x hx=>by
  obtain ⟨i,hi,rfl⟩:=List.getElem_of_mem hx
  obtain ⟨_,_,_,_,_,hc,_⟩:=hl.sl.get (by decide) hi
  exact hc.2
 obtain ⟨_,_,hE,hp,_⟩:=hl.sl.shape
 cases hE
 refine ady (e:=138) (n:=1) (by kernel_rfl) ?_
 refine c_b (fun hn=>?_) (fun hn=>?_)
 ·have hws : l = []:=by
   cases l with
   |nil=>rfl
   |cons a l=>obtain ⟨b,off,hb,_⟩:=(aaV hl w hr) 0 (.int .i64 a) rfl;rw [hb] at hn;cases hn
  subst hws
  exact h _ nothing _ S.ext New.nothing xU
 refine S.lit (e:=138) (cs:=[]) (by kernel_rfl) fun b w1 S=>?_
 have S : StX noX w r w1 [.row (.slice (some ⟨b,0,none⟩) 0 0) 138 1 0 []]:=by
  refine ⟨S.x,S.holds,fun x hx=>?_,fun x hx k hk=>?_,List.pairwise_singleton _ _⟩
  ·rw [List.mem_singleton.1 hx]
   have:=Yt (w:=w1) (base:=0) (size:=1) (n:=0) (cap:=0) (Nat.zero_le _) (S.has (.cell b [] 138) (by simp)) (Nat.le_refl _) (by simp [maxLen]) rfl
   exact this
  ·rw [List.mem_singleton.1 hx] at hk
   exact S.mine (.cell b [] 138) (by simp) k (by cases hk;rfl)
 refine S.ap (v:=.slice (some ⟨b,0,none⟩) 0 0) (S.at (aaV hl)) (fun v2 w2 S=>?_) (by omega) (by rw [kM];omega) hp (Vh _)
 obtain ⟨s,S,hs,_,ha⟩:=S.doneRow (l:=l) (R:=qk) (sz:=1) (by rw [List.nil_append];exact Vv hin) (by decide) (by omega)
 exact h _ s _ S.ext (S.newOf fun b o ho=>(ha b o ho).resolve_right id) ⟨hs,by simp only [maxLen];omega⟩
theorem Zn {p : PlD} {c : List Value} {w : World} {r : Gh} {K : Value→World→Prop} (hr : Holds r w) (hp : PlG r c p) (hb : p.ps.length≤1000000)
  (h : ∀ c' s w',Ext w w'→New w s w'→PlG s c' p→K (.agg c'.toArray) w') : zd Tryz.prog Tryz.x5 #[.agg c.toArray] w K:=by
 refine Tryz.X2 ?_
 unfold Tryz.Ze
 obtain ⟨v,rfl,hl⟩:=hp
 obtain ⟨qs,caps,rfl,_,_⟩:=hl.sl.shape
 have S:=St.start hr
 refine S.box fun b1 w1 S=>?_
 have S : StX noX w r w1 [.cell b1 [.int .i64 p.l,.slice qs p.ps.length caps] 38]:=S
 refine S.al fun b2 w2 S=>?_
 have S:=S.go (Ext.drew _)
 refine gg_ ?_
 refine abm S.holds hl hb fun v3 s w3 e3 n3 h3=>⟨e3,?_⟩
 obtain ⟨S,d3,a3⟩:=S.tell e3 n3
 obtain ⟨q3,c3,rfl,_,_⟩:=h3.sl.shape
 refine zz (cs:=#[.int .i64 p.l,.slice q3 p.ps.length c3]) (by kernel_rfl) ?_
 refine S.stB (b:=b2) fun w4 S=>?_
 refine S.ceB (b:=b2) ?_ rfl
 exact h _ s _ S.ext (S.newOf a3) ⟨_,rfl,h3⟩
theorem XB {o : OpD} {c : List Value} {w : World} {r : Gh} {K : Value→World→Prop} (hr : Holds r w) (ho : OpG r c o) (hb : o.pl.ps.length≤1000000)
  (h : ∀ c' s w',Ext w w'→New w s w'→OpG s c' o→K (.agg c'.toArray) w') : zd Tryz.prog Tryz.kH #[.agg c.toArray] w K:=by
 refine Tryz.Y2 ?_
 unfold Tryz.jX
 obtain ⟨v,rfl,hl⟩:=ho
 obtain ⟨qs,caps,rfl,_,_⟩:=hl.sl.shape
 have S:=St.start hr
 refine S.box fun b1 w1 S=>?_
 have S : StX noX w r w1 [.cell b1 [.int .u8 o.k,.int .i64 o.n,.int .i64 o.pl.l,.slice qs o.pl.ps.length caps] 41]:=S
 refine S.al fun b2 w2 S=>?_
 refine gg_ ?_
 refine S.ldN (b:=b1) ?_
 refine Zn (p:=o.pl) S.holds ⟨_,rfl,hl⟩ hb fun c3 s w3 e3 n3 h3=>?_
 obtain ⟨S,d3,a3⟩:=S.tell e3 n3
 obtain ⟨v3,rfl,hl3⟩:=h3
 obtain ⟨q3,k3,rfl,_,_⟩:=hl3.sl.shape
 refine gg_ ?_
 refine S.stN (b:=b1) fun w4 S=>?_
 refine S.ldB (b:=b1) ?_ rfl
 refine S.stB (b:=b2) fun w5 S=>?_
 refine S.ceB (b:=b2) ?_ rfl
 exact h _ s _ S.ext (S.newOf a3) ⟨_,rfl,hl3⟩
noncomputable def XC (u : UnD) (n q : Int) : Option PlD:=if ptE u n q≠0 then none else match kS u n q with|some p=>if p.op<1∨8<p.op then none else some p.to|none=>none
theorem Jt {u : UnD} {n q : Int} {v : Value} {w : World} {r : Gh} {K : Value→World→Prop} (hr : Holds r w) (hu : UnG r v u)
  (hN : ∀ e w',XC u n q=none→Ext w w'→K (.tuple #[.agg #[.int .i64 0,.slice none 0 0],.bool false,.int .i64 e]) w')
  (hS : ∀ p c s w',XC u n q=some p→Ext w w'→New w s w'→PlG s c p→K (.tuple #[.agg c.toArray,.bool true,.int .i64 0]) w') : zd Tryz.prog Tryz.jg #[v,.int .i64 n,.int .i64 q] w K:=by
 refine Tryz.Qw ?_
 unfold Tryz.ZE
 have hu0:=hu
 obtain ⟨p0,cap0,vf,rfl,_,_,hst,hsl,hfn⟩:=hu
 obtain ⟨qf,capf,rfl,_,_⟩:=hfn.sl.shape
 have S:=St.start hr
 refine S.box fun b3 w1 S=>?_
 have S : StX noX w r w1 [.cell b3 [.slice p0 u.ss.length cap0,.slice qf u.fs.length capf,.int .i64 u.mn] 25]:=S
 refine S.al fun b6 w2 S=>?_
 refine S.ldB (b:=b3) ?_ rfl
 refine qE S.holds hu0 fun c p w3 e3 hp hpi=>?_
 have S:=S.go e3
 obtain ⟨z1,z2,z3,z4,z5,t1,t2,t3,t4,t5,rfl,hp0⟩:=yU hp
 refine gS_ ?_
 refine S.al fun b9 w4 S=>?_
 refine S.stB (b:=b9) fun w5 S=>?_
 refine gp_ ?_
 refine zh (c:=decide (p.op<1)) (fun _ K2 hK2=>by refine gg_ ?_;exact hK2) ?_
 refine zh (c:=decide (8<p.op)) (fun _ K2 hK2=>by refine gg_ ?_;exact hK2) ?_
 refine c_b (fun hb=>?_) (fun hb=>?_)
 ·have hA : XC u n q=none:=by
   unfold XC
   by_cases h0 : ptE u n q=0
   ·rw [if_neg (by omega),hpi h0]
    simp only [Bool.or_eq_true,decide_eq_true_eq] at hb
    dsimp only
    rw [if_pos (by omega)]
   ·rw [if_pos h0]
  refine S.ldB (b:=b6) ?_ rfl
  refine S.stB (b:=b6) fun w6 S=>?_
  refine S.ceB (b:=b6) ?_ rfl
  exact hN _ _ hA S.ext
 ·simp only [Bool.or_eq_false_iff,decide_eq_false_iff_not] at hb
  have h0 : ptE u n q=0:=by omega
  have hA : XC u n q=some p.to:=by
   unfold XC
   rw [if_neg (by omega),hpi h0]
   dsimp only
   rw [if_neg (by omega)]
  obtain ⟨_,_,_,_,_,hE,k1,_⟩:=id hp0
  cases hE
  have hpl : p.to.ps.length≤1000000:=by
   obtain ⟨hf,hq0,hn,hql⟩:=aaU h0
   obtain ⟨hM,_,_⟩:=XA hf
   obtain ⟨_,hpe⟩:=aaT hn (hpi h0)
   have hpg:=hM.pts _ (List.getElem_mem hn) p (by rw [← hpe];exact List.getElem_mem _)
   have:=adW hpg (by omega)
   omega
  refine gg_ ?_
  refine S.ldN (b:=b9) ?_
  refine Zn (p:=p.to) S.holds ⟨_,rfl,k1⟩ hpl fun c6 s w6 e6 n6 h6=>?_
  obtain ⟨S,d6,a6⟩:=S.tell e6 n6
  obtain ⟨v6,rfl,hl6⟩:=id h6
  obtain ⟨q6,k6,rfl,_,_⟩:=hl6.sl.shape
  refine S.stB (b:=b6) fun w7 S=>?_
  refine S.ceB (b:=b6) ?_ rfl
  exact hS _ _ s _ hA S.ext (S.newOf a6) h6
end Go.Proofs
end
section
namespace Go.Proofs
open Go.Sh
set_option maxRecDepth 100000
set_option linter.unusedSimpArgs false
set_option linter.unusedVariables false
def J6 (u : UnD) : Prop:=∀ g ∈ u.fs,g.pts.length≤1100∧∀ p ∈ g.pts,p.fit
theorem ac9 {u : UnD} {n q : Int} {p : PtD} (h : kS u n q=some p) : ∃ g ∈ u.fs,p ∈ g.pts:=by
 rw [kS] at h
 cases hg : u.fs[n.toNat]? with
 |none=>rw [hg] at h;cases h
 |some g=>
  rw [hg] at h
  exact ⟨g,List.mem_of_getElem? hg,List.mem_of_getElem? h⟩
noncomputable def vL (u : UnD) (n q : Int) : List UInt8:=if ptE u n q=0 then (match kS u n q with|some p=>ptT p q|none=>[]) else []
theorem Zo {u : UnD} {n q : Int} {v : Value} {w : World} {r : Gh} {K : Value→World→Prop} (hT : TabZ r) (hr : Holds r w) (hu : UnG r v u) (hf : MayU u→J6 u)
  (h : ∀ w',Ext w w'→K (.tuple #[.string (bs (vL u n q)),.int .i64 (ptE u n q)]) w') : zd Tryz.prog Tryz.kJ #[v,.int .i64 n,.int .i64 q] w K:=by
 refine Tryz.VM ?_
 unfold Tryz.Xp
 have hu0:=hu
 obtain ⟨p0,cap0,vf,rfl,_,_,hst,hsl,hfn⟩:=hu
 obtain ⟨qf,capf,rfl,_,_⟩:=hfn.sl.shape
 have S:=St.start hr
 refine S.box fun b3 w1 S=>?_
 have S : StX noX w r w1 [.cell b3 [.slice p0 u.ss.length cap0,.slice qf u.fs.length capf,.int .i64 u.mn] 25]:=S
 refine S.ldB (b:=b3) ?_ rfl
 refine qE S.holds hu0 fun c p w2 e2 hp hpt=>?_
 have S:=S.go e2
 obtain ⟨z1,z2,z3,z4,z5,t1,t2,t3,t4,t5,rfl,hp0⟩:=yU hp
 refine gS_ ?_
 refine S.al fun b8 w3 S=>?_
 refine S.stB (b:=b8) fun w4 S=>?_
 refine gp_ ?_
 refine zg (fun hne=>?_) (fun heq=>?_)
 ·rw [vL,if_neg hne] at h
  exact h _ S.ext
 have hz : ptE u n q=0:=by omega
 have hpe:=hpt hz
 obtain ⟨hf0,hq0,hn,hql⟩:=aaU hz
 have hM:=(XA hf0).1
 obtain ⟨g,hg,hpg⟩:=ac9 hpe
 have hfit:=hf hM g hg
 have hqq : q≤1000000:=by
  have:=(hf hM _ (List.getElem_mem hn)).1;omega
 rw [vL,if_pos hz,hpe] at h
 refine S.ldB (b:=b8) ?_ rfl
 refine aaS hT S.holds hp0 (hfit.2 p hpg) ⟨hq0,hqq⟩ fun w5 e5=>?_
 exact h _ (S.go e5).ext
end Go.Proofs
end
section
namespace Go.Proofs.Tryz
open Go.Sh
set_option maxRecDepth 100000
def yD (t0 t1 t2 : Value) (w : World) (K : VW) : Prop:=
 pp (Builtin.len_ #[82] 3 #[t0]) fun t11=>pp (Builtin.len_ #[82] 3 #[t1]) fun t13=>bf .neq 3 t11 t13 fun t14=>zb t14 (K fa_ w) (pp (Builtin.len_ #[82] 3 #[t0]) fun t16=>zp [(i6 0)] w (fun s2 _d3 w4 K1=>
 bf .lss 3 (s2.getD 0 undef) t16 fun t18=>zb t18 (xl w4 82 t0 (s2.getD 0 undef) 86 fun t21=>pw w4 (Instr.alloc 86 true (.tuple #[])) fun t8 w5=>
 so w5 86 t8 t21 fun w6=>xl w6 82 t1 (s2.getD 0 undef) 86 fun t25=>pw w6 (Instr.alloc 86 true (.tuple #[])) fun t9 w7=>
 so w7 86 t9 t25 fun w8=>lo w8 86 t8 fun t27=>lo w8 86 t9 fun t28=>cv t2 #[t27,t28] w8 fun t29 w9=>
 pp (Op.unary .not t29) fun t30=>zb t30 (K fa_ w9) (bt .add 3 (s2.getD 0 undef) (i6 1) fun t31=>K1 [t31] w9)) (K tr_ w4)))
theorem yy {t0 t1 t2 : Value} {w : World} {K : VW} (h : yD t0 t1 t2 w K) : zd prog zw #[t0,t1,t2] w K:=
 okC false (.s (.r (rz 1 0 0)) (.s (.s (.r (rz 5 0 0)) (.c (.s (.r (rz 1 0 0)) (.n)) (.n))) (.s (.s (.r (rz 3 0 0)) (.b (.lp [17] (.s (.r (rz 1 0 0)) (.s (.c (.n) (.n)) (.s (.b (.s (.r (rz 6 0 2192)) (.s (.r (rz 6 0 2624)) (.s (.r (rz 5 0 148)) (.c (.s (.r (rz 1 0 0)) (.n)) (.n)))))) (.r (rz 2 0 0)))))))) (.s (.r (rz 1 0 0)) (.n))))) func42 rfl (by kernel_rfl) (by kernel_rfl) h
def yv (t0 t1 : Value) (w : World) (K : VW) : Prop:=
 pp (Builtin.len_ #[28] 3 #[t0]) fun t7=>pp (Builtin.len_ #[28] 3 #[t1]) fun t9=>bf .neq 3 t7 t9 fun t10=>zb t10 (K fa_ w) (pp (Builtin.len_ #[28] 3 #[t0]) fun t12=>zp [(i6 0)] w (fun s2 _d3 w4 K1=>
 bf .lss 3 (s2.getD 0 undef) t12 fun t14=>zb t14 (xl w4.drew 28 t0 (s2.getD 0 undef) 101 fun t19=>xl w4.drew 28 t1 (s2.getD 0 undef) 101 fun t23=>pq w4.drew (zV .neq 101 false t19 t23) fun t24=>zb t24 (K fa_ w4.drew) (bt .add 3 (s2.getD 0 undef) (i6 1) fun t25=>K1 [t25] w4.drew)) (K tr_ w4)))
theorem xX {t0 t1 : Value} {w : World} {K : VW} (h : yv t0 t1 w K) : zd prog zT #[t0,t1] w K:=
 okC false (.s (.r (rz 1 0 0)) (.s (.s (.r (rz 5 0 0)) (.c (.s (.r (rz 1 0 0)) (.n)) (.n))) (.s (.s (.r (rz 3 0 0)) (.b (.lp [13] (.s (.r (rz 1 0 0)) (.s (.c (.n) (.n)) (.s (.b (.s (.r (rz 2 0 0)) (.s (.r (rz 9 0 81984)) (.c (.s (.r (rz 1 0 0)) (.n)) (.n))))) (.r (rz 2 0 0)))))))) (.s (.r (rz 1 0 0)) (.n))))) func46 rfl (by kernel_rfl) (by kernel_rfl) h
def xV (t0 t1 : Value) (w : World) (K : VW) : Prop:=
 pp (Builtin.len_ #[30] 3 #[t0]) fun t7=>pp (Builtin.len_ #[30] 3 #[t1]) fun t9=>bf .neq 3 t7 t9 fun t10=>zb t10 (K fa_ w) (pp (Builtin.len_ #[30] 3 #[t0]) fun t12=>zp [(i6 0)] w (fun s2 _d3 w4 K1=>
 bf .lss 3 (s2.getD 0 undef) t12 fun t14=>zb t14 (xl w4.drew 30 t0 (s2.getD 0 undef) 9 fun t19=>xl w4.drew 30 t1 (s2.getD 0 undef) 9 fun t23=>bf .neq 9 t19 t23 fun t24=>zb t24 (K fa_ w4.drew) (bt .add 3 (s2.getD 0 undef) (i6 1) fun t25=>K1 [t25] w4.drew)) (K tr_ w4)))
theorem js {t0 t1 : Value} {w : World} {K : VW} (h : xV t0 t1 w K) : zd prog yL #[t0,t1] w K:=
 okC false (.s (.r (rz 1 0 0)) (.s (.s (.r (rz 5 0 0)) (.c (.s (.r (rz 1 0 0)) (.n)) (.n))) (.s (.s (.r (rz 3 0 0)) (.b (.lp [13] (.s (.r (rz 1 0 0)) (.s (.c (.n) (.n)) (.s (.b (.s (.r (rz 2 0 0)) (.s (.r (rz 9 0 16448)) (.c (.s (.r (rz 1 0 0)) (.n)) (.n))))) (.r (rz 2 0 0)))))))) (.s (.r (rz 1 0 0)) (.n))))) func47 rfl (by kernel_rfl) (by kernel_rfl) h
def yR (t0 t1 t2 : Value) (w : World) (K : VW) : Prop:=
 pp (Builtin.len_ #[29] 3 #[t0]) fun t11=>pp (Builtin.len_ #[29] 3 #[t1]) fun t13=>bf .neq 3 t11 t13 fun t14=>zb t14 (K fa_ w) (pp (Builtin.len_ #[29] 3 #[t0]) fun t16=>zp [(i6 0)] w (fun s2 _d3 w4 K1=>
 bf .lss 3 (s2.getD 0 undef) t16 fun t18=>zb t18 (xl w4 29 t0 (s2.getD 0 undef) 57 fun t21=>pw w4 (Instr.alloc 57 true (.tuple #[])) fun t8 w5=>
 so w5 57 t8 t21 fun w6=>xl w6 29 t1 (s2.getD 0 undef) 57 fun t25=>pw w6 (Instr.alloc 57 true (.tuple #[])) fun t9 w7=>
 so w7 57 t9 t25 fun w8=>lo w8 57 t8 fun t27=>lo w8 57 t9 fun t28=>cv t2 #[t27,t28] w8 fun t29 w9=>
 pp (Op.unary .not t29) fun t30=>zb t30 (K fa_ w9) (bt .add 3 (s2.getD 0 undef) (i6 1) fun t31=>K1 [t31] w9)) (K tr_ w4)))
theorem yN {t0 t1 t2 : Value} {w : World} {K : VW} (h : yR t0 t1 t2 w K) : zd prog zD #[t0,t1,t2] w K:=
 okC false (.s (.r (rz 1 0 0)) (.s (.s (.r (rz 5 0 0)) (.c (.s (.r (rz 1 0 0)) (.n)) (.n))) (.s (.s (.r (rz 3 0 0)) (.b (.lp [17] (.s (.r (rz 1 0 0)) (.s (.c (.n) (.n)) (.s (.b (.s (.r (rz 6 0 2192)) (.s (.r (rz 6 0 2624)) (.s (.r (rz 5 0 148)) (.c (.s (.r (rz 1 0 0)) (.n)) (.n)))))) (.r (rz 2 0 0)))))))) (.s (.r (rz 1 0 0)) (.n))))) func48 rfl (by kernel_rfl) (by kernel_rfl) h
def yE (t0 t1 t2 : Value) (w : World) (K : VW) : Prop:=
 pp (Builtin.len_ #[31] 3 #[t0]) fun t11=>pp (Builtin.len_ #[31] 3 #[t1]) fun t13=>bf .neq 3 t11 t13 fun t14=>zb t14 (K fa_ w) (pp (Builtin.len_ #[31] 3 #[t0]) fun t16=>zp [(i6 0)] w (fun s2 _d3 w4 K1=>
 bf .lss 3 (s2.getD 0 undef) t16 fun t18=>zb t18 (xl w4 31 t0 (s2.getD 0 undef) 44 fun t21=>pw w4 (Instr.alloc 44 true (.tuple #[])) fun t8 w5=>
 so w5 44 t8 t21 fun w6=>xl w6 31 t1 (s2.getD 0 undef) 44 fun t25=>pw w6 (Instr.alloc 44 true (.tuple #[])) fun t9 w7=>
 so w7 44 t9 t25 fun w8=>lo w8 44 t8 fun t27=>lo w8 44 t9 fun t28=>cv t2 #[t27,t28] w8 fun t29 w9=>
 pp (Op.unary .not t29) fun t30=>zb t30 (K fa_ w9) (bt .add 3 (s2.getD 0 undef) (i6 1) fun t31=>K1 [t31] w9)) (K tr_ w4)))
theorem yz {t0 t1 t2 : Value} {w : World} {K : VW} (h : yE t0 t1 t2 w K) : zd prog zx #[t0,t1,t2] w K:=
 okC false (.s (.r (rz 1 0 0)) (.s (.s (.r (rz 5 0 0)) (.c (.s (.r (rz 1 0 0)) (.n)) (.n))) (.s (.s (.r (rz 3 0 0)) (.b (.lp [17] (.s (.r (rz 1 0 0)) (.s (.c (.n) (.n)) (.s (.b (.s (.r (rz 6 0 2192)) (.s (.r (rz 6 0 2624)) (.s (.r (rz 5 0 148)) (.c (.s (.r (rz 1 0 0)) (.n)) (.n)))))) (.r (rz 2 0 0)))))))) (.s (.r (rz 1 0 0)) (.n))))) func49 rfl (by kernel_rfl) (by kernel_rfl) h
def yr (t0 t1 t2 : Value) (w : World) (K : VW) : Prop:=
 pp (Builtin.len_ #[22] 3 #[t0]) fun t11=>pp (Builtin.len_ #[22] 3 #[t1]) fun t13=>bf .neq 3 t11 t13 fun t14=>zb t14 (K fa_ w) (pp (Builtin.len_ #[22] 3 #[t0]) fun t16=>zp [(i6 0)] w (fun s2 _d3 w4 K1=>
 bf .lss 3 (s2.getD 0 undef) t16 fun t18=>zb t18 (xl w4 22 t0 (s2.getD 0 undef) 84 fun t21=>pw w4 (Instr.alloc 84 true (.tuple #[])) fun t8 w5=>
 so w5 84 t8 t21 fun w6=>xl w6 22 t1 (s2.getD 0 undef) 84 fun t25=>pw w6 (Instr.alloc 84 true (.tuple #[])) fun t9 w7=>
 so w7 84 t9 t25 fun w8=>lo w8 84 t8 fun t27=>lo w8 84 t9 fun t28=>cv t2 #[t27,t28] w8 fun t29 w9=>
 pp (Op.unary .not t29) fun t30=>zb t30 (K fa_ w9) (bt .add 3 (s2.getD 0 undef) (i6 1) fun t31=>K1 [t31] w9)) (K tr_ w4)))
theorem yn {t0 t1 t2 : Value} {w : World} {K : VW} (h : yr t0 t1 t2 w K) : zd prog zs #[t0,t1,t2] w K:=
 okC false (.s (.r (rz 1 0 0)) (.s (.s (.r (rz 5 0 0)) (.c (.s (.r (rz 1 0 0)) (.n)) (.n))) (.s (.s (.r (rz 3 0 0)) (.b (.lp [17] (.s (.r (rz 1 0 0)) (.s (.c (.n) (.n)) (.s (.b (.s (.r (rz 6 0 2192)) (.s (.r (rz 6 0 2624)) (.s (.r (rz 5 0 148)) (.c (.s (.r (rz 1 0 0)) (.n)) (.n)))))) (.r (rz 2 0 0)))))))) (.s (.r (rz 1 0 0)) (.n))))) func51 rfl (by kernel_rfl) (by kernel_rfl) h
def yF (t0 t1 t2 : Value) (w : World) (K : VW) : Prop:=
 pp (Builtin.len_ #[23] 3 #[t0]) fun t11=>pp (Builtin.len_ #[23] 3 #[t1]) fun t13=>bf .neq 3 t11 t13 fun t14=>zb t14 (K fa_ w) (pp (Builtin.len_ #[23] 3 #[t0]) fun t16=>zp [(i6 0)] w (fun s2 _d3 w4 K1=>
 bf .lss 3 (s2.getD 0 undef) t16 fun t18=>zb t18 (xl w4 23 t0 (s2.getD 0 undef) 33 fun t21=>pw w4 (Instr.alloc 33 true (.tuple #[])) fun t8 w5=>
 so w5 33 t8 t21 fun w6=>xl w6 23 t1 (s2.getD 0 undef) 33 fun t25=>pw w6 (Instr.alloc 33 true (.tuple #[])) fun t9 w7=>
 so w7 33 t9 t25 fun w8=>lo w8 33 t8 fun t27=>lo w8 33 t9 fun t28=>cv t2 #[t27,t28] w8 fun t29 w9=>
 pp (Op.unary .not t29) fun t30=>zb t30 (K fa_ w9) (bt .add 3 (s2.getD 0 undef) (i6 1) fun t31=>K1 [t31] w9)) (K tr_ w4)))
theorem yA {t0 t1 t2 : Value} {w : World} {K : VW} (h : yF t0 t1 t2 w K) : zd prog zy #[t0,t1,t2] w K:=
 okC false (.s (.r (rz 1 0 0)) (.s (.s (.r (rz 5 0 0)) (.c (.s (.r (rz 1 0 0)) (.n)) (.n))) (.s (.s (.r (rz 3 0 0)) (.b (.lp [17] (.s (.r (rz 1 0 0)) (.s (.c (.n) (.n)) (.s (.b (.s (.r (rz 6 0 2192)) (.s (.r (rz 6 0 2624)) (.s (.r (rz 5 0 148)) (.c (.s (.r (rz 1 0 0)) (.n)) (.n)))))) (.r (rz 2 0 0)))))))) (.s (.r (rz 1 0 0)) (.n))))) func52 rfl (by kernel_rfl) (by kernel_rfl) h
def yf (t0 t1 t2 : Value) (w : World) (K : VW) : Prop:=
 pp (Builtin.len_ #[42] 3 #[t0]) fun t11=>pp (Builtin.len_ #[42] 3 #[t1]) fun t13=>bf .neq 3 t11 t13 fun t14=>zb t14 (K fa_ w) (pp (Builtin.len_ #[42] 3 #[t0]) fun t16=>zp [(i6 0)] w (fun s2 _d3 w4 K1=>
 bf .lss 3 (s2.getD 0 undef) t16 fun t18=>zb t18 (xl w4 42 t0 (s2.getD 0 undef) 41 fun t21=>pw w4 (Instr.alloc 41 true (.tuple #[])) fun t8 w5=>
 so w5 41 t8 t21 fun w6=>xl w6 42 t1 (s2.getD 0 undef) 41 fun t25=>pw w6 (Instr.alloc 41 true (.tuple #[])) fun t9 w7=>
 so w7 41 t9 t25 fun w8=>lo w8 41 t8 fun t27=>lo w8 41 t9 fun t28=>cv t2 #[t27,t28] w8 fun t29 w9=>
 pp (Op.unary .not t29) fun t30=>zb t30 (K fa_ w9) (bt .add 3 (s2.getD 0 undef) (i6 1) fun t31=>K1 [t31] w9)) (K tr_ w4)))
theorem yd {t0 t1 t2 : Value} {w : World} {K : VW} (h : yf t0 t1 t2 w K) : zd prog zq #[t0,t1,t2] w K:=
 okC false (.s (.r (rz 1 0 0)) (.s (.s (.r (rz 5 0 0)) (.c (.s (.r (rz 1 0 0)) (.n)) (.n))) (.s (.s (.r (rz 3 0 0)) (.b (.lp [17] (.s (.r (rz 1 0 0)) (.s (.c (.n) (.n)) (.s (.b (.s (.r (rz 6 0 2192)) (.s (.r (rz 6 0 2624)) (.s (.r (rz 5 0 148)) (.c (.s (.r (rz 1 0 0)) (.n)) (.n)))))) (.r (rz 2 0 0)))))))) (.s (.r (rz 1 0 0)) (.n))))) func83 rfl (by kernel_rfl) (by kernel_rfl) h
def XD (t0 : Value) (w : World) (K : VW) : Prop:=
 pp (Builtin.len_ #[67] 3 #[t0]) fun t7=>zp [(i6 0)] w (fun s2 _d3 w4 K1=>
 bf .lss 3 (s2.getD 0 undef) t7 fun t9=>zb t9 (xl w4 67 t0 (s2.getD 0 undef) 3 fun t11=>bf .neq 3 t11 (i6 0) fun t14=>zb t14 (K t11 w4) (bt .add 3 (s2.getD 0 undef) (i6 1) fun t16=>K1 [t16] w4)) (K (i6 0) w4))
theorem VS {t0 : Value} {w : World} {K : VW} (h : XD t0 w K) : zd prog Za #[t0] w K:=
 okC false (.s (.r (rz 1 0 0)) (.s (.r (rz 1 0 0)) (.s (.s (.r (rz 3 0 0)) (.b (.lp [8] (.s (.r (rz 1 0 0)) (.s (.c (.n) (.n)) (.s (.b (.s (.r (rz 3 0 4)) (.s (.r (rz 3 0 0)) (.c (.s (.r (rz 2 0 0)) (.n)) (.n))))) (.r (rz 2 0 0)))))))) (.s (.r (rz 2 0 0)) (.n))))) func152 rfl (by kernel_rfl) (by kernel_rfl) h
def vC (t0 t1 : Value) (w : World) (K : VW) : Prop:=
 ca kD #[t0] w fun t8 w1=>
 ca kD #[t1] w1 fun t10 w2=>
 zb t8 (zb t10 (K (i6 0) w2) (K (i6 (-1)) w2)) (zb t10 (K (i6 1) w2) (bf .lss 3 t0 t1 fun t16=>zb t16 (K (i6 (-1)) w2) (bf .gtr 3 t0 t1 fun t19=>zb t19 (K (i6 1) w2) (K (i6 0) w2))))
theorem XE {t0 t1 : Value} {w : World} {K : VW} (h : vC t0 t1 w K) : zd prog qh #[t0,t1] w K:=
 okC false (.s (.r (rz 1 0 0)) (.s (.r (rz 3 0 8)) (.s (.r (rz 3 0 8)) (.s (.s (.r (rz 1 0 0)) (.c (.s (.s (.r (rz 1 0 0)) (.c (.s (.r (rz 1 0 0)) (.n)) (.n))) (.s (.r (rz 1 0 0)) (.n))) (.n))) (.s (.s (.r (rz 1 0 0)) (.c (.s (.r (rz 1 0 0)) (.n)) (.n))) (.s (.s (.r (rz 3 0 0)) (.c (.s (.r (rz 1 0 0)) (.n)) (.n))) (.s (.s (.r (rz 3 0 0)) (.c (.s (.r (rz 1 0 0)) (.n)) (.n))) (.s (.r (rz 1 0 0)) (.n))))))))) func153 rfl (by kernel_rfl) (by kernel_rfl) h
def yZ (t0 t1 : Value) (w : World) (K : VW) : Prop:=
 pp (Builtin.len_ #[36] 3 #[t0]) fun t10=>zp [(i6 0)] w (fun s2 _d3 w4 K1=>
 bf .lss 3 (s2.getD 0 undef) t10 fun t12=>zb t12 (xl w4 36 t0 (s2.getD 0 undef) 138 fun t15=>pp (Builtin.len_ #[36] 3 #[t1]) fun t18=>bf .geq 3 (s2.getD 0 undef) t18 fun t19=>zb t19 (K (i6 1) w4) (xl w4 36 t1 (s2.getD 0 undef) 138 fun t23=>ca xB #[t15,t23] w4 fun t26 w5=>
 bt .neq 3 t26 (i6 0) fun t28=>zb t28 (K t26 w5) (bt .add 3 (s2.getD 0 undef) (i6 1) fun t30=>K1 [t30] w5))) (pp (Builtin.len_ #[36] 3 #[t0]) fun t32=>pp (Builtin.len_ #[36] 3 #[t1]) fun t34=>bf .lss 3 t32 t34 fun t35=>zb t35 (K (i6 (-1)) w4) (K (i6 0) w4)))
theorem k0 {t0 t1 : Value} {w : World} {K : VW} (h : yZ t0 t1 w K) : zd prog yb #[t0,t1] w K:=
 okC false (.s (.r (rz 1 0 0)) (.s (.s (.r (rz 3 0 0)) (.b (.lp [11] (.s (.r (rz 1 0 0)) (.s (.c (.n) (.n)) (.s (.b (.s (.r (rz 5 0 16)) (.s (.s (.r (rz 4 0 0)) (.c (.s (.r (rz 1 0 0)) (.n)) (.n))) (.s (.r (rz 5 0 64)) (.s (.r (rz 4 0 32)) (.s (.r (rz 2 0 0)) (.c (.s (.r (rz 2 0 0)) (.n)) (.n)))))))) (.r (rz 2 0 0)))))))) (.s (.s (.r (rz 5 0 0)) (.c (.s (.r (rz 1 0 0)) (.n)) (.n))) (.s (.r (rz 1 0 0)) (.n))))) func154 rfl (by kernel_rfl) (by kernel_rfl) h
def qz (t0 t1 : Value) (w : World) (K : VW) : Prop:=
 ca y6 #[t0] w fun t8 w1=>
 ca y6 #[t1] w1 fun t10 w2=>
 zb t8 (zb t10 (K (i6 0) w2) (K (i6 (-1)) w2)) (zb t10 (K (i6 1) w2) (bf .lss 138 t0 t1 fun t16=>zb t16 (K (i6 (-1)) w2) (bf .gtr 138 t0 t1 fun t19=>zb t19 (K (i6 1) w2) (K (i6 0) w2))))
theorem Zw {t0 t1 : Value} {w : World} {K : VW} (h : qz t0 t1 w K) : zd prog xB #[t0,t1] w K:=
 okC false (.s (.r (rz 1 0 0)) (.s (.r (rz 3 0 8)) (.s (.r (rz 3 0 8)) (.s (.s (.r (rz 1 0 0)) (.c (.s (.s (.r (rz 1 0 0)) (.c (.s (.r (rz 1 0 0)) (.n)) (.n))) (.s (.r (rz 1 0 0)) (.n))) (.n))) (.s (.s (.r (rz 1 0 0)) (.c (.s (.r (rz 1 0 0)) (.n)) (.n))) (.s (.s (.r (rz 3 0 0)) (.c (.s (.r (rz 1 0 0)) (.n)) (.n))) (.s (.s (.r (rz 3 0 0)) (.c (.s (.r (rz 1 0 0)) (.n)) (.n))) (.s (.r (rz 1 0 0)) (.n))))))))) func186 rfl (by kernel_rfl) (by kernel_rfl) h
def ZP (t0 : Value) (w : World) (K : VW) : Prop:=
 bf .neq 3 t0 t0 fun t5=>K t5 w
theorem QO {t0 : Value} {w : World} {K : VW} (h : ZP t0 w K) : zd prog kD #[t0] w K:=
 okC false (.s (.r (rz 1 0 0)) (.s (.r (rz 4 0 0)) (.n))) func180 rfl (by kernel_rfl) (by kernel_rfl) h
def jr (t0 : Value) (w : World) (K : VW) : Prop:=
 bf .neq 138 t0 t0 fun t5=>K t5 w
theorem Yp {t0 : Value} {w : World} {K : VW} (h : jr t0 w K) : zd prog y6 #[t0] w K:=
 okC false (.s (.r (rz 1 0 0)) (.s (.r (rz 4 0 0)) (.n))) func196 rfl (by kernel_rfl) (by kernel_rfl) h
end Go.Proofs.Tryz
end
section
namespace Go.Proofs
open Go.Sh
set_option maxRecDepth 100000
set_option linter.unusedSimpArgs false
set_option linter.unusedVariables false
noncomputable def eqb {α : Type} (x y : α) : Bool:=@decide (x=y) (Classical.propDecidable _)
theorem xu {α : Type} {x y : α} : eqb x y=true↔x=y:=by
 rw [eqb];exact @decide_eq_true_iff _ (Classical.propDecidable _)
theorem Zp {α : Type} {x y : α} {b : Bool} (h : b=true↔x=y) : b=eqb x y:=by
 rw [Bool.eq_iff_iff,h,xu]
theorem Yq {α : Type} {x y : α} (h : x≠y) : eqb x y=false:=by
 cases e : eqb x y
 ·rfl
 ·exact absurd (xu.1 e) h
theorem YJ {α : Type} (x : α) : eqb x x=true:=xu.2 rfl
def Cmp {α : Type} (r : Gh) (R : List Value→α→Prop) (l m : List α) (fv : Value) : Prop:=
 ∀ x ∈ l,∀ y ∈ m,∀ (c d : List Value) (w : World) (K : Value→World→Prop),R c x→R d y→Holds r w→(∀ w',Ext w w'→K (.bool (eqb x y)) w')→zQ Tryz.prog fv #[.agg c.toArray,.agg d.toArray] w K
theorem jG {T E : TypeId} {n : Nat} {z : List Value} {α : Type} {r : Gh} {R : List Value→α→Prop} {l m : List α} {va vb fv : Value} {w : World} {K : Value→World→Prop}
  [SlT Tryz.prog T E n] [ZrT Tryz.prog E z] [LdN Tryz.prog E n] [SzT Tryz.prog E n] (hn : 1<n) (hz : z.length=n) (hr : Holds r w) (ha : SlB n r R va l) (hb : SlB n r R vb m) (h1 : ∀ c x,R c x→∀ u ∈ c,u.oneCell'=true)
  (hf : Cmp r R l m fv) (h : ∀ w',Ext w w'→K (.bool (eqb l m)) w') :
  Tryz.pp (Builtin.len_ #[T] 3 #[va]) fun t11=>Tryz.pp (Builtin.len_ #[T] 3 #[vb]) fun t13=>Tryz.bf .neq 3 t11 t13 fun t14=>zb t14 (K Tryz.fa_ w) (Tryz.pp (Builtin.len_ #[T] 3 #[va]) fun t16=>zp [Tryz.i6 0] w (fun s2 _d3 w4 K1=>
   Tryz.bf .lss 3 (s2.getD 0 undef) t16 fun t18=>zb t18 (Tryz.xl w4 T va (s2.getD 0 undef) E fun t21=>Tryz.pw w4 (Instr.alloc E true (.tuple #[])) fun t8 w5=>
   Tryz.so w5 E t8 t21 fun w6=>Tryz.xl w6 T vb (s2.getD 0 undef) E fun t25=>Tryz.pw w6 (Instr.alloc E true (.tuple #[])) fun t9 w7=>
   Tryz.so w7 E t9 t25 fun w8=>Tryz.lo w8 E t8 fun t27=>Tryz.lo w8 E t9 fun t28=>Tryz.cv fv #[t27,t28] w8 fun t29 w9=>
   Tryz.pp (Op.unary .not t29) fun t30=>zb t30 (K Tryz.fa_ w9) (Tryz.bt .add 3 (s2.getD 0 undef) (Tryz.i6 1) fun t31=>K1 [t31] w9)) (K Tryz.tr_ w4))):=by
 obtain ⟨pa,ca,rfl,_,_⟩:=ha.sl.shape
 obtain ⟨pb,cb,rfl,_,_⟩:=hb.sl.shape
 have hla : l.length≤9223372036854775807:=ha.few
 have S:=St.start hr
 refine gg_ ?_
 refine zg (fun hne=>?_) (fun heq=>?_)
 ·have:=h _ S.ext
  rwa [Yq (fun e=>hne (by rw [e]))] at this
 have hlen : l.length=m.length:=by
  rcases Nat.lt_trichotomy l.length m.length with h|h|h
  ·exact absurd (fun e=>by omega : ((l.length : Int)≠m.length)) heq
  ·exact h
  ·exact absurd (fun e=>by omega : ((l.length : Int)≠m.length)) heq
 refine gg_ ?_
 refine zk (ι:=Nat) (fun i=>[.int .i64 (i : Nat)]) (fun i w'=>i≤l.length∧l.take i=m.take i∧StX noX w r w' []) (fun i=>l.length - i) 0 rfl ⟨Nat.zero_le _,rfl,S⟩ ?_
 clear S
 rintro i d w4 ⟨hi,htk,S⟩ K1 hK1
 rw [List.getD_cons_zero]
 refine gg_ ?_
 refine zg (fun hlt=>?_) (fun hge=>?_)
 ·have hlt : i<l.length:=by omega
  have hlt2 : i<m.length:=by omega
  obtain ⟨ba,oa,c,rfl,hcl,hR,hca⟩:=ha.sl.get (by omega) hlt
  obtain ⟨bb,ob,d,rfl,hdl,hQ,hcb⟩:=hb.sl.get (by omega) hlt2
  refine gg_ ?_
  rw [Int.toNat_natCast]
  refine zt (n:=n) hcl (fun j v hj=>S.at (hca j v hj)) ?_
  refine S.al fun b8 w5 S=>?_
  refine S.stB (b:=b8) (fun w6 S=>?_) hz (by simpa using hcl) (by simpa using h1 _ _ hR)
  refine gg_ ?_
  rw [Int.toNat_natCast]
  refine zt (n:=n) hdl (fun j v hj=>S.at (hcb j v hj)) ?_
  refine S.al fun b9 w7 S=>?_
  refine S.stB (b:=b9) (fun w8 S=>?_) hz (by simpa using hdl) (by simpa using h1 _ _ hQ)
  refine S.ldB (b:=b8) ?_ (by simpa using hcl)
  refine S.ldB (b:=b9) ?_ (by simpa using hdl)
  refine hf _ (List.getElem_mem hlt) _ (List.getElem_mem hlt2) _ _ _ _ hR hQ S.holds fun w9 e9=>?_
  have S:=((S.drop b9).drop b8).go e9
  refine gp_ ?_
  refine c_b (fun hb=>?_) (fun hb=>?_)
  ·have hne : l[i]≠m[i]:=fun e=>by rw [xu.2 e] at hb;cases hb
   have:=h _ S.ext
   rwa [Yq (fun e=>hne (by subst e;rfl))] at this
  ·have he : l[i]=m[i]:=xu.1 (by simpa using hb)
   refine gg_ ?_
   refine hK1 (i+1) _ ⟨hlt,?_,S⟩ (by omega)
   rw [List.take_succ_eq_append_getElem hlt,List.take_succ_eq_append_getElem hlt2,htk,he]
 have hie : i=l.length:=by omega
 subst hie
 have he : l=m:=by rwa [List.take_length,hlen,List.take_length] at htk
 have:=h _ S.ext
 rwa [he,YJ] at this
theorem Qq {x : Int} {w : World} {K : Value→World→Prop} (h : K (.bool false) w) : zd Tryz.prog Tryz.kD #[.int .i64 x] w K:=by
 refine Tryz.QO ?_
 unfold Tryz.ZP
 refine gg_ ?_
 simpa using h
theorem XF {x : Int} {w : World} {K : Value→World→Prop} (h : K (.bool false) w) : zd Tryz.prog Tryz.y6 #[.int .i64 x] w K:=by
 refine Tryz.Yp ?_
 unfold Tryz.jr
 refine gg_ ?_
 simpa using h
def YK (x y : Int) : Int:=if x<y then -1 else if y<x then 1 else 0
theorem XG {x y : Int} : YK x y=0↔x=y:=by
 unfold YK;split
 ·constructor<;>intro h<;>omega
 split<;>constructor<;>intro h<;>omega
theorem VT {x y : Int} {w : World} {K : Value→World→Prop} (h : K (.int .i64 (YK x y)) w) : zd Tryz.prog Tryz.qh #[.int .i64 x,.int .i64 y] w K:=by
 refine Tryz.XE ?_
 unfold Tryz.vC
 refine Qq (Qq (c_f rfl (c_f rfl ?_)))
 unfold YK at h
 refine gg_ ?_
 refine zg (fun h1=>?_) (fun h1=>?_)
 ·rwa [if_pos h1] at h
 refine gg_ ?_
 refine zg (fun h2=>?_) (fun h2=>?_)
 ·rwa [if_neg h1,if_pos h2] at h
 ·rwa [if_neg h1,if_neg h2] at h
theorem J7 {x y : Int} {w : World} {K : Value→World→Prop} (h : K (.int .i64 (YK x y)) w) : zd Tryz.prog Tryz.xB #[.int .i64 x,.int .i64 y] w K:=by
 refine Tryz.Zw ?_
 unfold Tryz.qz
 refine XF (XF (c_f rfl (c_f rfl ?_)))
 unfold YK at h
 refine gg_ ?_
 refine zg (fun h1=>?_) (fun h1=>?_)
 ·rwa [if_pos h1] at h
 refine gg_ ?_
 refine zg (fun h2=>?_) (fun h2=>?_)
 ·rwa [if_neg h1,if_pos h2] at h
 ·rwa [if_neg h1,if_neg h2] at h
theorem QP {l m : List Int} {va vb : Value} {w : World} {r : Gh} {K : Value→World→Prop} (hr : Holds r w) (ha : SlB 1 r qk va l) (hb : SlB 1 r qk vb m)
  (h : ∀ x w',Ext w w'→(x=0↔l=m)→K (.int .i64 x) w') : zd Tryz.prog Tryz.yb #[va,vb] w K:=by
 refine Tryz.k0 ?_
 unfold Tryz.yZ
 obtain ⟨pa,ca,rfl,_,_⟩:=ha.sl.shape
 obtain ⟨pb,cb,rfl,_,_⟩:=hb.sl.shape
 have hla : l.length≤9223372036854775807:=ha.few
 have S:=St.start hr
 refine gg_ ?_
 refine zk (ι:=Nat) (fun i=>[.int .i64 (i : Nat)]) (fun i w'=>i≤l.length∧i≤m.length∧l.take i=m.take i∧StX noX w r w' []) (fun i=>l.length - i) 0 rfl ⟨Nat.zero_le _,Nat.zero_le _,rfl,S⟩ ?_
 clear S
 rintro i d w4 ⟨hi,him,htk,S⟩ K1 hK1
 rw [List.getD_cons_zero]
 refine gg_ ?_
 refine zg (fun hlt=>?_) (fun hge=>?_)
 ·have hlt : i<l.length:=by omega
  obtain ⟨ba,oa,c,rfl,hcl,⟨rfl,_⟩,hca⟩:=ha.sl.get (by decide) hlt
  refine gg_ ?_
  refine zG (v:=.int .i64 l[i]) (by simpa using S.at (hca 0 _ rfl)) ?_
  refine gg_ ?_
  refine zg (fun hbig=>?_) (fun hsm=>?_)
  ·refine h 1 _ S.ext ⟨fun e=>absurd e (by decide),fun e=>?_⟩
   subst e;omega
  have hlt2 : i<m.length:=by omega
  obtain ⟨bb,ob,d,rfl,hdl,⟨rfl,_⟩,hcb⟩:=hb.sl.get (by decide) hlt2
  refine gg_ ?_
  refine zG (v:=.int .i64 m[i]) (by simpa using S.at (hcb 0 _ rfl)) ?_
  refine J7 ?_
  refine gg_ ?_
  refine zg (fun hne=>?_) (fun heq=>?_)
  ·refine h _ _ S.ext ⟨fun e=>absurd e hne,fun e=>?_⟩
   subst e;exact XG.2 rfl
  ·have he : l[i]=m[i]:=XG.1 (Decidable.not_not.1 heq)
   refine gg_ ?_
   refine hK1 (i+1) _ ⟨hlt,hlt2,?_,S⟩ (by omega)
   rw [List.take_succ_eq_append_getElem hlt,List.take_succ_eq_append_getElem hlt2,htk,he]
 have hie : i=l.length:=by omega
 subst hie
 rw [List.take_length] at htk
 refine gg_ ?_
 refine zg (fun h1=>?_) (fun h1=>?_)
 ·refine h _ _ S.ext ⟨fun e=>absurd e (by decide),fun e=>?_⟩
  subst e;omega
 ·refine h _ _ S.ext ⟨fun _=>?_,fun _=>rfl⟩
  rw [htk,List.take_of_length_le (by omega)]
theorem adX {x y : Int} {b : Nat} {w : World} {r : Gh} {K : Value→World→Prop} (hr : Holds r w) (h0 : Ob r fun w=>w.cell? ⟨b,0,none⟩=some (.int .i64 x)) (h1 : Ob r fun w=>w.cell? ⟨b,1,none⟩=some (.int .i64 y))
  (h : ∀ w',Ext w w'→K (.int .i64 (if x≠0 then x else y)) w') : zd Tryz.prog Tryz.Za #[.slice (some ⟨b,0,none⟩) 2 2] w K:=by
 refine Tryz.VS ?_
 unfold Tryz.XD
 have S:=St.start hr
 refine gg_ ?_
 refine zk (ι:=Nat) (fun i=>[.int .i64 (i : Nat)]) (fun i w'=>i≤2∧(0<i→x=0)∧(1<i→y=0)∧StX noX w r w' []) (fun i=>2 - i) 0 rfl ⟨by decide,fun h=>absurd h (by decide),fun h=>absurd h (by decide),S⟩ ?_
 clear S
 rintro i d w4 ⟨hi,hx,hy,S⟩ K1 hK1
 rw [List.getD_cons_zero]
 refine gg_ ?_
 refine zg (fun hlt=>?_) (fun hge=>?_)
 ·have hi2 : i=0∨i=1:=by omega
  rcases hi2 with rfl|rfl
  ·refine gg_ ?_
   refine zG (v:=.int .i64 x) (by simpa using S.at h0) ?_
   refine gg_ ?_
   refine zg (fun hne=>?_) (fun heq=>?_)
   ·have:=h _ S.ext;rwa [if_pos hne] at this
   refine gg_ ?_
   exact hK1 1 _ ⟨by decide,fun _=>by omega,fun h=>absurd h (by decide),S⟩ (by decide)
  ·refine gg_ ?_
   refine zG (v:=.int .i64 y) (by simpa using S.at h1) ?_
   refine gg_ ?_
   refine zg (fun hne=>?_) (fun heq=>?_)
   ·have:=h _ S.ext;rwa [if_neg (by have:=hx (by decide);omega)] at this
   refine gg_ ?_
   exact hK1 2 _ ⟨by decide,fun _=>hx (by decide),fun _=>by omega,S⟩ (by decide)
 have hie : i=2:=by omega
 subst hie
 have:=h _ S.ext
 rwa [if_neg (by have:=hx (by decide);omega),hy (by decide)] at this
theorem PlD.eq_iff {p q : PlD} : p=q↔p.l=q.l∧p.ps=q.ps:=by
 cases p;cases q;simp
theorem VU {p q : PlD} {c d : List Value} {w : World} {r : Gh} {K : Value→World→Prop} (hr : Holds r w) (hp : PlG r c p) (hq : PlG r d q)
  (h : ∀ x w',Ext w w'→(x=0↔p=q)→K (.int .i64 x) w') : zd Tryz.prog Tryz.vd #[.agg c.toArray,.agg d.toArray] w K:=by
 refine Tryz.J0 ?_
 unfold Tryz.YY
 obtain ⟨v,rfl,hv⟩:=hp
 obtain ⟨u,rfl,hu⟩:=hq
 obtain ⟨pa,ca,rfl,_,_⟩:=hv.sl.shape
 obtain ⟨pb,cb,rfl,_,_⟩:=hu.sl.shape
 have S:=St.start hr
 refine S.box fun b2 w1 S=>?_
 have S : StX noX w r w1 [.cell b2 [.int .i64 p.l,.slice pa p.ps.length ca] 38]:=S
 refine S.box fun b3 w2 S=>?_
 have S : StX noX w r w2 [.cell b3 [.int .i64 q.l,.slice pb q.ps.length cb] 38,.cell b2 [.int .i64 p.l,.slice pa p.ps.length ca] 38]:=S
 have S:=S.go (Ext.drew _)
 refine gg_ ?_
 refine VT ⟨Ext.refl _,?_⟩
 refine QP S.holds hv hu fun x w4 e4 hx=>?_
 have S:=S.go e4
 refine S.lit (e:=3) (cs:=[.int .i64 (YK p.l q.l),.int .i64 x]) (by kernel_rfl) fun b15 w5 S=>?_
 have hB:=S.blk b15
 refine adX (x:=YK p.l q.l) (y:=x) (r:=Go.Sh.one b15 [.int .i64 (YK p.l q.l),.int .i64 x] 3) (yc hB) (fun w h=>((yx w h).cell 0).trans rfl) (fun w h=>((yx w h).cell 1).trans rfl) fun w6 e6=>?_
 refine h _ _ (S.go e6).ext ?_
 rw [PlD.eq_iff,← hx,← XG (x:=p.l)]
 constructor
 ·intro e
  split at e
  ·exact absurd e (by assumption)
  ·exact ⟨by omega,e⟩
 ·rintro ⟨e1,e2⟩
  rw [if_neg (by omega),e2]
theorem Zq {p q : PlD} {c d : List Value} {w : World} {r : Gh} {K : Value→World→Prop} (hr : Holds r w) (hp : PlG r c p) (hq : PlG r d q)
  (h : ∀ w',Ext w w'→K (.bool (eqb p q)) w') : zd Tryz.prog Tryz.kK #[.agg c.toArray,.agg d.toArray] w K:=by
 refine Tryz.VR ?_
 unfold Tryz.Xv
 obtain ⟨v,rfl,hv⟩:=id hp
 obtain ⟨u,rfl,hu⟩:=id hq
 have S:=St.start hr
 refine S.box fun b2 w1 S=>?_
 refine S.box fun b3 w2 S=>?_
 refine S.ldB (b:=b2) ?_ rfl
 refine S.ldB (b:=b3) ?_ rfl
 refine VU S.holds hp hq fun x w4 e4 hx=>?_
 refine gg_ ?_
 have:=h _ (S.go e4).ext
 rwa [← Zp (b:=decide (x=0)) (by rw [decide_eq_true_iff,hx])] at this
theorem OpD.eq_iff {p q : OpD} : p=q↔(p.k=q.k∧p.n=q.n)∧p.pl=q.pl:=by
 cases p;cases q;simp [and_assoc]
theorem ky {p q : OpD} {c d : List Value} {w : World} {r : Gh} {K : Value→World→Prop} (hr : Holds r w) (hp : OpG r c p) (hq : OpG r d q)
  (h : ∀ w',Ext w w'→K (.bool (eqb p q)) w') : zd Tryz.prog Tryz.yI #[.agg c.toArray,.agg d.toArray] w K:=by
 refine Tryz.YC ?_
 unfold Tryz.jx
 obtain ⟨v,rfl,hv⟩:=hp.pl
 obtain ⟨u,rfl,hu⟩:=hq.pl
 have S:=St.start hr
 refine S.box fun b2 w1 S=>?_
 have S : StX noX w r w1 [.cell b2 [.int .u8 p.k,.int .i64 p.n,.int .i64 p.pl.l,v] 41]:=S
 refine S.box fun b3 w2 S=>?_
 have S : StX noX w r w2 [.cell b3 [.int .u8 q.k,.int .i64 q.n,.int .i64 q.pl.l,u] 41,.cell b2 [.int .u8 p.k,.int .i64 p.n,.int .i64 p.pl.l,v] 41]:=S
 refine gg_ ?_
 refine zj (c:=decide (p.n=q.n)) (fun _ K2 hK2=>by refine gg_ ?_;exact hK2) ?_
 refine zm (c:=eqb p.pl q.pl) (fun _ K2 hK2=>?_) fun w3 e3=>?_
 ·refine gg_ ?_
  refine S.ldN (b:=b2) ?_
  refine gg_ ?_
  refine S.ldN (b:=b3) ?_
  exact Zq S.holds hv hu fun w4 e4=>hK2 _ e4
 have:=h _ (S.go e3).ext
 rwa [← Zp (b:=(decide (p.k=q.k)&&decide (p.n=q.n))&&eqb p.pl q.pl) (by rw [OpD.eq_iff,Bool.and_eq_true,Bool.and_eq_true,decide_eq_true_iff,decide_eq_true_iff,xu])] at this
end Go.Proofs
end
section
namespace Go.Proofs
open Go.Sh
set_option maxRecDepth 100000
set_option linter.unusedSimpArgs false
set_option linter.unusedVariables false
theorem adY {r : Gh} {c : List Value} {o : OpD} (h : OpG r c o) : ∀ u ∈ c,u.oneCell'=true:=by
 obtain ⟨v,rfl,hv⟩:=h
 obtain ⟨q,cap,rfl,_,_⟩:=hv.sl.shape
 simp [Value.oneCell']
theorem adZ {r : Gh} {c : List Value} {o : PtD} (h : PtG r c o) : ∀ u ∈ c,u.oneCell'=true:=by
 obtain ⟨z1,z2,z3,z4,z5,t1,t2,t3,t4,t5,rfl,_⟩:=yU h
 simp [Value.oneCell']
theorem ad0 {r : Gh} {c : List Value} {o : GrD} (h : GrG r c o) : ∀ u ∈ c,u.oneCell'=true:=by
 obtain ⟨x1,x2,x3,x4,y1,y2,y3,y4,rfl,_⟩:=qX h
 simp [Value.oneCell']
theorem ad1 {r : Gh} {c : List Value} {t : TyD} (h : TyC r c t) : ∀ u ∈ c,u.oneCell'=true:=by
 obtain ⟨p,cap,hE,_⟩:=h
 have hE : c=tyL t p cap:=by
  have:=congrArg Value.cells hE
  simpa [Value.cells] using congrArg Array.toList this
 subst hE
 simp [Value.oneCell']
theorem VV {l m : List OpD} {va vb fv : Value} {w : World} {r : Gh} {K : Value→World→Prop} (hr : Holds r w) (ha : SlB 4 r (OpG r) va l) (hb : SlB 4 r (OpG r) vb m) (hf : Cmp r (OpG r) l m fv)
  (h : ∀ w',Ext w w'→K (.bool (eqb l m)) w') : zd Tryz.prog Tryz.zq #[va,vb,fv] w K:=
 Tryz.yd (jG (n:=4) (T:=42) (E:=41) (by decide) (by rfl) hr ha hb (fun _ _=>adY) hf h)
theorem abn {l m : List PtD} {va vb fv : Value} {w : World} {r : Gh} {K : Value→World→Prop} (hr : Holds r w) (ha : SlB 21 r (PtG r) va l) (hb : SlB 21 r (PtG r) vb m) (hf : Cmp r (PtG r) l m fv)
  (h : ∀ w',Ext w w'→K (.bool (eqb l m)) w') : zd Tryz.prog Tryz.zx #[va,vb,fv] w K:=
 Tryz.yz (jG (n:=21) (T:=31) (E:=44) (by decide) (by rfl) hr ha hb (fun _ _=>adZ) hf h)
theorem ab9 {l m : List TyD} {va vb fv : Value} {w : World} {r : Gh} {K : Value→World→Prop} (hr : Holds r w) (ha : SlB 5 r (TyC r) va l) (hb : SlB 5 r (TyC r) vb m) (hf : Cmp r (TyC r) l m fv)
  (h : ∀ w',Ext w w'→K (.bool (eqb l m)) w') : zd Tryz.prog Tryz.zD #[va,vb,fv] w K:=
 Tryz.yN (jG (n:=5) (T:=29) (E:=57) (by decide) (by rfl) hr ha hb (fun _ _=>ad1) hf h)
theorem abo {l m : List GrD} {va vb fv : Value} {w : World} {r : Gh} {K : Value→World→Prop} (hr : Holds r w) (ha : SlB 7 r (GrG r) va l) (hb : SlB 7 r (GrG r) vb m) (hf : Cmp r (GrG r) l m fv)
  (h : ∀ w',Ext w w'→K (.bool (eqb l m)) w') : zd Tryz.prog Tryz.zy #[va,vb,fv] w K:=
 Tryz.yA (jG (n:=7) (T:=23) (E:=33) (by decide) (by rfl) hr ha hb (fun _ _=>ad0) hf h)
def FdC (r : Gh) (c : List Value) (f : ByteArray × TyD) : Prop:=∃ p cap,c = .string f.1::tyL f.2 p cap∧TyG r (tyV f.2 p cap) f.2
def SdC (r : Gh) (c : List Value) (s : StD) : Prop:=∃ q cap,c = [.string s.name,.slice q s.fs.length cap]∧SlB 6 r (FdC r) (.slice q s.fs.length cap) s.fs
theorem abp {l m : List (ByteArray × TyD)} {va vb fv : Value} {w : World} {r : Gh} {K : Value→World→Prop} (hr : Holds r w) (ha : SlB 6 r (FdC r) va l) (hb : SlB 6 r (FdC r) vb m) (hf : Cmp r (FdC r) l m fv)
  (h : ∀ w',Ext w w'→K (.bool (eqb l m)) w') : zd Tryz.prog Tryz.zw #[va,vb,fv] w K:=
 Tryz.yy (jG (n:=6) (T:=82) (E:=86) (by decide) (by rfl) hr ha hb (by rintro _ _ ⟨p,cap,rfl,_⟩;simp [Value.oneCell']) hf h)
theorem aaW {l m : List StD} {va vb fv : Value} {w : World} {r : Gh} {K : Value→World→Prop} (hr : Holds r w) (ha : SlB 2 r (SdC r) va l) (hb : SlB 2 r (SdC r) vb m) (hf : Cmp r (SdC r) l m fv)
  (h : ∀ w',Ext w w'→K (.bool (eqb l m)) w') : zd Tryz.prog Tryz.zs #[va,vb,fv] w K:=
 Tryz.yn (jG (n:=2) (T:=22) (E:=84) (by decide) (by rfl) hr ha hb (by rintro _ _ ⟨p,cap,rfl,_⟩;simp [Value.oneCell']) hf h)
end Go.Proofs
end
section
namespace Go.Proofs
open Go.Sh
set_option maxRecDepth 100000
set_option linter.unusedSimpArgs false
set_option linter.unusedVariables false
theorem jH {a b : ByteArray} : (a.data.toList == b.data.toList)=true↔a=b:=by
 rw [beq_iff_eq]
 constructor
 ·intro h;exact ByteArray.ext (Array.toList_inj.1 h)
 ·rintro rfl;rfl
theorem afp {r : Gh} {l m : List OpD} : Cmp r (OpG r) l m (.func (.func Tryz.yI) #[] #[]):=fun x _ y _ c d w K hc hd hr h=>
 Yy (by kernel_rfl) (ky hr hc hd h)
theorem PtD.eq_iff {p q : PtD} : p=q↔((((((((((((p.op=q.op∧p.sign=q.sign)∧p.mu=q.mu)∧p.fn=q.fn)∧p.st=q.st)∧p.nx=q.nx)∧p.el=q.el)∧p.tx=q.tx)∧p.to=q.to)∧p.fr=q.fr)∧p.a=q.a)∧p.b=q.b)∧p.args=q.args):=by
 cases p;cases q
 simp only [PtD.mk.injEq]
 constructor
 ·rintro ⟨h1,h2,h3,h4,h5,h6,h7,h8,h9,h10,h11,h12,h13⟩
  exact ⟨⟨⟨⟨⟨⟨⟨⟨⟨⟨⟨⟨h1,h6⟩,h8⟩,h9⟩,h10⟩,h11⟩,h12⟩,h13⟩,h2⟩,h7⟩,h3⟩,h4⟩,h5⟩
 ·rintro ⟨⟨⟨⟨⟨⟨⟨⟨⟨⟨⟨⟨h1,h6⟩,h8⟩,h9⟩,h10⟩,h11⟩,h12⟩,h13⟩,h2⟩,h7⟩,h3⟩,h4⟩,h5⟩
  exact ⟨h1,h2,h3,h4,h5,h6,h7,h8,h9,h10,h11,h12,h13⟩
set_option maxHeartbeats 2000000 in
theorem Qb {p q : PtD} {c d : List Value} {w : World} {r : Gh} {K : Value→World→Prop} (hr : Holds r w) (hp : PtG r c p) (hq : PtG r d q)
  (h : ∀ w',Ext w w'→K (.bool (eqb p q)) w') : zd Tryz.prog Tryz.qg #[.agg c.toArray,.agg d.toArray] w K:=by
 refine Tryz.Xt ?_
 unfold Tryz.vB
 obtain ⟨z1,z2,z3,z4,z5,t1,t2,t3,t4,t5,rfl,hp0⟩:=yU hp
 obtain ⟨z1',z2',z3',z4',z5',t1',t2',t3',t4',t5',rfl,hq0⟩:=yU hq
 obtain ⟨kto,ka,kb,kl,kf⟩:=YH hp0
 obtain ⟨mto,ma,mb,ml,mf⟩:=YH hq0
 have S:=St.start hr
 refine S.box fun b2 w1 S=>?_
 have S : StX noX w r w1 [.cell b2 (ptL p z1 z2 z3 z4 z5 t1 t2 t3 t4 t5) 44]:=S
 refine S.box fun b3 w2 S=>?_
 have S : StX noX w r w2 [.cell b3 (ptL q z1' z2' z3' z4' z5' t1' t2' t3' t4' t5') 44,.cell b2 (ptL p z1 z2 z3 z4 z5 t1 t2 t3 t4 t5) 44]:=S
 refine gg_ ?_
 refine zj (c:=p.sign.data.toList == q.sign.data.toList) (fun _ K2 hK2=>?_) ?_
 ·refine gg_ ?_
  rw [xr p.sign,xr q.sign]
  refine gg_ ?_
  exact hK2
 refine zj (c:=p.mu == q.mu) (fun _ K2 hK2=>by refine gg_ ?_;exact hK2) ?_
 refine zj (c:=decide (p.fn=q.fn)) (fun _ K2 hK2=>by refine gg_ ?_;exact hK2) ?_
 refine zj (c:=decide (p.st=q.st)) (fun _ K2 hK2=>by refine gg_ ?_;exact hK2) ?_
 refine zj (c:=decide (p.nx=q.nx)) (fun _ K2 hK2=>by refine gg_ ?_;exact hK2) ?_
 refine zj (c:=decide (p.el=q.el)) (fun _ K2 hK2=>by refine gg_ ?_;exact hK2) ?_
 refine zj (c:=decide (p.tx=q.tx)) (fun _ K2 hK2=>by refine gg_ ?_;exact hK2) ?_
 refine zm (c:=eqb p.to q.to) (fun _ K2 hK2=>?_) fun w3 e3=>?_
 ·refine gg_ ?_
  refine S.ldN (b:=b2) ?_
  refine gg_ ?_
  refine S.ldN (b:=b3) ?_
  exact Zq S.holds kto mto fun w4 e4=>hK2 _ e4
 have S:=S.go e3
 refine zm (c:=eqb p.fr q.fr) (fun _ K2 hK2=>?_) fun w4 e4=>?_
 ·refine gg_ ?_
  refine S.ldN (b:=b2) ?_
  refine gg_ ?_
  refine S.ldN (b:=b3) ?_
  exact Zq S.holds kf mf fun w4 e4=>hK2 _ e4
 have S:=S.go e4
 refine zm (c:=eqb p.a q.a) (fun _ K2 hK2=>?_) fun w5 e5=>?_
 ·refine gg_ ?_
  refine S.ldN (b:=b2) ?_
  refine gg_ ?_
  refine S.ldN (b:=b3) ?_
  exact ky S.holds ka ma fun w4 e4=>hK2 _ e4
 have S:=S.go e5
 refine zm (c:=eqb p.b q.b) (fun _ K2 hK2=>?_) fun w6 e6=>?_
 ·refine gg_ ?_
  refine S.ldN (b:=b2) ?_
  refine gg_ ?_
  refine S.ldN (b:=b3) ?_
  exact ky S.holds kb mb fun w4 e4=>hK2 _ e4
 have S:=S.go e6
 refine zm (c:=eqb p.args q.args) (fun _ K2 hK2=>?_) fun w9 e9=>?_
 ·refine gg_ ?_
  exact VV S.holds kl ml afp fun w4 e4=>hK2 _ e4
 have:=h _ (S.go e9).ext
 rwa [← Zp (b:=((((((((((((decide (p.op=q.op)&&(p.sign.data.toList == q.sign.data.toList))&&(p.mu == q.mu))&&decide (p.fn=q.fn))&&decide (p.st=q.st))&&decide (p.nx=q.nx))&&decide (p.el=q.el))&&decide (p.tx=q.tx))&&eqb p.to q.to)&&eqb p.fr q.fr)&&eqb p.a q.a)&&eqb p.b q.b)&&eqb p.args q.args))
  (by have hs:=@jH p.sign q.sign;rw [beq_iff_eq] at hs;rw [PtD.eq_iff];simp only [Bool.and_eq_true,decide_eq_true_iff,xu,beq_iff_eq,hs])] at this
theorem afq {r : Gh} {l m : List PtD} : Cmp r (PtG r) l m (.func (.func Tryz.qg) #[] #[]):=fun x _ y _ c d w K hc hd hr h=>
 Yy (by kernel_rfl) (Qb hr hc hd h)
theorem afr {s : Int} : ∀ (n : Nat) {a b : TyD},zO s n a=true→zO s n b=true→(xx fEq n a b=true↔a=b):=by
 intro n
 induction n with
 |zero=>intro a b h;cases h
 |succ n ih=>
  intro a b ha hb
  have hE : a=b↔((a.k=b.k∧a.m=b.m)∧a.st=b.st)∧a.re=b.re∧a.of=b.of:=by
   cases a;cases b;simp only [TyD.mk.injEq]
   constructor
   ·rintro ⟨h1,h2,h3,h4,h5⟩;exact ⟨⟨⟨h1,h2⟩,h4⟩,h3,h5⟩
   ·rintro ⟨⟨⟨h1,h2⟩,h4⟩,h3,h5⟩;exact ⟨h1,h2,h3,h4,h5⟩
  have hC : (!(decide (a.k≠b.k) || !(a.m == b.m)||decide (a.st≠b.st) || !fEq a.re b.re))=true↔((a.k=b.k∧a.m=b.m)∧a.st=b.st)∧a.re=b.re:=by
   simp [fEq,and_assoc]
  rcases y7 ha with ⟨ho,hk⟩|⟨u,ho,hu,hk⟩
  ·rw [Jf ho,hC,hE]
   constructor
   ·rintro ⟨⟨⟨h1,h2⟩,h3⟩,h4⟩
    refine ⟨⟨⟨h1,h2⟩,h3⟩,h4,?_⟩
    rcases y7 hb with ⟨ho',hk'⟩|⟨u',ho',hu',hk'⟩
    ·rw [ho,ho']
    ·exfalso;omega
   ·rintro ⟨h1,h2,_⟩;exact ⟨h1,h2⟩
  ·rcases y7 hb with ⟨ho',hk'⟩|⟨u',ho',hu',hk'⟩
   ·have hne : a.k≠b.k:=by omega
    constructor
    ·intro h
     rw [xx,Bool.and_eq_true,hC] at h
     exact absurd h.1.1.1.1 hne
    ·rintro rfl;exact absurd rfl hne
   ·rw [Jg ho ho',Bool.and_eq_true,hC,ih hu hu',hE,ho,ho']
    simp [and_assoc]
theorem YZ {a b : TyD} {w : World} {r : Gh} {va vb : Value} {K : Value→World→Prop} (hr : Holds r w) (ha : TyG r va a) (hb : TyG r vb b) (hA : isB a=true) (hB : isB b=true)
  (h : ∀ w',Ext w w'→K (.bool (eqb a b)) w') : zd Tryz.prog Tryz.kG #[va,vb] w K:=by
 refine aaA hr ha hb fun w' e=>?_
 have:=h _ e
 rwa [← Zp (b:=zY fEq a b) (by rw [zY,hA,hB,Bool.true_and,Bool.true_and];exact afr 48 hA hB)] at this
theorem afs {r : Gh} {l m : List TyD} (hl : ∀ x ∈ l,isB x=true) (hm : ∀ x ∈ m,isB x=true) : Cmp r (TyC r) l m (.func (.func Tryz.kG) #[] #[]):=fun x hx y hy c d w K hc hd hr h=>
 Yy (by kernel_rfl) (YZ hr hc hd (hl x hx) (hm y hy) h)
theorem VX {l m : List (Int × Int)} {va vb : Value} {w : World} {r : Gh} {K : Value→World→Prop} (hr : Holds r w) (ha : SlB 2 r QG va l) (hb : SlB 2 r QG vb m)
  (h : ∀ w',Ext w w'→K (.bool (eqb l m)) w') : zd Tryz.prog Tryz.zT #[va,vb] w K:=by
 refine Tryz.xX ?_
 unfold Tryz.yv
 obtain ⟨pa,ca,rfl,_,_⟩:=ha.sl.shape
 obtain ⟨pb,cb,rfl,_,_⟩:=hb.sl.shape
 have hla : l.length≤9223372036854775807:=ha.few
 have S:=St.start hr
 refine gg_ ?_
 refine zg (fun hne=>?_) (fun heq=>?_)
 ·have:=h _ S.ext
  rwa [Yq (fun e=>hne (by rw [e]))] at this
 have hlen : l.length=m.length:=by
  rcases Nat.lt_trichotomy l.length m.length with h|h|h
  ·exact absurd (fun e=>by omega : ((l.length : Int)≠m.length)) heq
  ·exact h
  ·exact absurd (fun e=>by omega : ((l.length : Int)≠m.length)) heq
 refine gg_ ?_
 refine zk (ι:=Nat) (fun i=>[.int .i64 (i : Nat)]) (fun i w'=>i≤l.length∧l.take i=m.take i∧StX noX w r w' []) (fun i=>l.length - i) 0 rfl ⟨Nat.zero_le _,rfl,S⟩ ?_
 clear S
 rintro i d w4 ⟨hi,htk,S⟩ K1 hK1
 rw [List.getD_cons_zero]
 refine gg_ ?_
 refine zg (fun hlt=>?_) (fun hge=>?_)
 ·have hlt : i<l.length:=by omega
  have hlt2 : i<m.length:=by omega
  obtain ⟨ba,oa,c,rfl,hcl,hR,hca⟩:=ha.sl.get (by decide) hlt
  obtain ⟨bb,ob,d,rfl,hdl,hQ,hcb⟩:=hb.sl.get (by decide) hlt2
  have S:=S.go (Ext.drew _)
  obtain rfl : c = [.int .i64 l[i].1,.int .i64 l[i].2]:=hR
  obtain rfl : d = [.int .i64 m[i].1,.int .i64 m[i].2]:=hQ
  refine gg_ ?_
  refine zt (n:=2) rfl (fun j v hj=>by rw [Int.toNat_natCast];exact S.at (hca j v hj)) ?_
  refine gg_ ?_
  refine zt (n:=2) rfl (fun j v hj=>by rw [Int.toNat_natCast];exact S.at (hcb j v hj)) ?_
  refine gg_ ?_
  have hN : ∀ (x y : Int × Int),((!(decide (x.1=y.1)&&decide (x.2=y.2)))=true↔x≠y):=fun x y=>by
   rcases x with ⟨x1,x2⟩;rcases y with ⟨y1,y2⟩;by_cases h1 : x1=y1<;>by_cases h2 : x2=y2<;>simp [h1,h2]
  refine c_b (fun hb=>?_) (fun hb=>?_)
  ·have hne : l[i]≠m[i]:=(hN _ _).1 hb
   have:=h _ S.ext
   rwa [Yq (fun e=>hne (by subst e;rfl))] at this
  ·have he : l[i]=m[i]:=Decidable.not_not.1 fun hn=>by rw [(hN _ _).2 hn] at hb;cases hb
   refine gg_ ?_
   refine hK1 (i+1) _ ⟨hlt,?_,S⟩ (by omega)
   rw [List.take_succ_eq_append_getElem hlt,List.take_succ_eq_append_getElem hlt2,htk,he]
 have hie : i=l.length:=by omega
 subst hie
 have he : l=m:=by rwa [List.take_length,hlen,List.take_length] at htk
 have:=h _ S.ext
 rwa [he,YJ] at this
theorem abq {l m : List ByteArray} {va vb : Value} {w : World} {r : Gh} {K : Value→World→Prop} (hr : Holds r w) (ha : SlB 1 r Z0 va l) (hb : SlB 1 r Z0 vb m)
  (h : ∀ w',Ext w w'→K (.bool (eqb l m)) w') : zd Tryz.prog Tryz.yL #[va,vb] w K:=by
 refine Tryz.js ?_
 unfold Tryz.xV
 obtain ⟨pa,ca,rfl,_,_⟩:=ha.sl.shape
 obtain ⟨pb,cb,rfl,_,_⟩:=hb.sl.shape
 have hla : l.length≤9223372036854775807:=ha.few
 have S:=St.start hr
 refine gg_ ?_
 refine zg (fun hne=>?_) (fun heq=>?_)
 ·have:=h _ S.ext
  rwa [Yq (fun e=>hne (by rw [e]))] at this
 have hlen : l.length=m.length:=by
  rcases Nat.lt_trichotomy l.length m.length with h|h|h
  ·exact absurd (fun e=>by omega : ((l.length : Int)≠m.length)) heq
  ·exact h
  ·exact absurd (fun e=>by omega : ((l.length : Int)≠m.length)) heq
 refine gg_ ?_
 refine zk (ι:=Nat) (fun i=>[.int .i64 (i : Nat)]) (fun i w'=>i≤l.length∧l.take i=m.take i∧StX noX w r w' []) (fun i=>l.length - i) 0 rfl ⟨Nat.zero_le _,rfl,S⟩ ?_
 clear S
 rintro i d w4 ⟨hi,htk,S⟩ K1 hK1
 rw [List.getD_cons_zero]
 refine gg_ ?_
 refine zg (fun hlt=>?_) (fun hge=>?_)
 ·have hlt : i<l.length:=by omega
  have hlt2 : i<m.length:=by omega
  obtain ⟨ba,oa,c,rfl,hcl,hR,hca⟩:=ha.sl.get (by decide) hlt
  obtain ⟨bb,ob,d,rfl,hdl,hQ,hcb⟩:=hb.sl.get (by decide) hlt2
  have S:=S.go (Ext.drew _)
  obtain rfl : c = [.string l[i]]:=hR
  obtain rfl : d = [.string m[i]]:=hQ
  refine gg_ ?_
  refine zG (v:=.string l[i]) (by simpa using S.at (hca 0 _ rfl)) ?_
  refine gg_ ?_
  refine zG (v:=.string m[i]) (by simpa using S.at (hcb 0 _ rfl)) ?_
  rw [xr l[i],xr m[i]]
  refine gg_ ?_
  have hN : ∀ (x y : ByteArray),((!(x.data.toList == y.data.toList))=true↔x≠y):=fun x y=>by
   rw [Bool.not_eq_true',← Bool.not_eq_true,ne_eq,← jH]
  refine c_b (fun hb=>?_) (fun hb=>?_)
  ·have hne : l[i]≠m[i]:=(hN _ _).1 hb
   have:=h _ S.ext
   rwa [Yq (fun e=>hne (by subst e;rfl))] at this
  ·have he : l[i]=m[i]:=jH.1 (by simpa using hb)
   refine gg_ ?_
   refine hK1 (i+1) _ ⟨hlt,?_,S⟩ (by omega)
   rw [List.take_succ_eq_append_getElem hlt,List.take_succ_eq_append_getElem hlt2,htk,he]
 have hie : i=l.length:=by omega
 subst hie
 have he : l=m:=by rwa [List.take_length,hlen,List.take_length] at htk
 have:=h _ S.ext
 rwa [he,YJ] at this
end Go.Proofs
end
section
namespace Go.Proofs
open Go.Sh
set_option maxRecDepth 100000
set_option linter.unusedSimpArgs false
set_option linter.unusedVariables false
theorem af3 {a b : ByteArray × TyD} : a=b↔a.1=b.1∧a.2=b.2:=by
 rcases a with ⟨a1,a2⟩;rcases b with ⟨b1,b2⟩;simp
theorem aft {r : Gh} {l m : List (ByteArray × TyD)} (hl : ∀ x ∈ l,isB x.2=true) (hm : ∀ x ∈ m,isB x.2=true) : Cmp r (FdC r) l m (.func (.func Tryz.vZ) #[] #[]):=fun x hx y hy c d w K hc hd hr h=>by
 refine Yy (by kernel_rfl) ?_
 refine Tryz.Qa ?_
 unfold Tryz.Zl
 obtain ⟨p,cap,rfl,ht⟩:=hc
 obtain ⟨q,cap',rfl,hu⟩:=hd
 have S:=St.start hr
 refine S.box fun b2 w1 S=>?_
 have S : StX noX w r w1 [.cell b2 (.string x.1::tyL x.2 p cap) 86]:=S
 refine S.box fun b3 w2 S=>?_
 have S : StX noX w r w2 [.cell b3 (.string y.1::tyL y.2 q cap') 86,.cell b2 (.string x.1::tyL x.2 p cap) 86]:=S
 refine gg_ ?_
 rw [xr x.1,xr y.1]
 refine gg_ ?_
 refine zm (c:=eqb x.2 y.2) (fun _ K2 hK2=>?_) fun w3 e3=>?_
 ·refine gg_ ?_
  refine S.ldN (b:=b2) (vs:=tyL x.2 p cap) ?_
  refine gg_ ?_
  refine S.ldN (b:=b3) (vs:=tyL y.2 q cap') ?_
  exact YZ S.holds ht hu (hl x hx) (hm y hy) fun w4 e4=>hK2 _ e4
 have:=h _ (S.go e3).ext
 rwa [← Zp (b:=((x.1.data.toList == y.1.data.toList)&&eqb x.2 y.2)) (by rw [af3,Bool.and_eq_true,jH,xu])] at this
theorem StD.eq_iff {a b : StD} : a=b↔a.name=b.name∧a.fs=b.fs:=by
 cases a;cases b;simp
theorem afu {r : Gh} {l m : List StD} (hl : ∀ s ∈ l,∀ x ∈ s.fs,isB x.2=true) (hm : ∀ s ∈ m,∀ x ∈ s.fs,isB x.2=true) : Cmp r (SdC r) l m (.func (.func Tryz.Z6) #[] #[]):=fun x hx y hy c d w K hc hd hr h=>by
 refine Yy (by kernel_rfl) ?_
 refine Tryz.Jk ?_
 unfold Tryz.Ym
 obtain ⟨p,cap,rfl,ht⟩:=hc
 obtain ⟨q,cap',rfl,hu⟩:=hd
 have S:=St.start hr
 refine S.box fun b2 w1 S=>?_
 have S : StX noX w r w1 [.cell b2 [.string x.name,.slice p x.fs.length cap] 84]:=S
 refine S.box fun b3 w2 S=>?_
 have S : StX noX w r w2 [.cell b3 [.string y.name,.slice q y.fs.length cap'] 84,.cell b2 [.string x.name,.slice p x.fs.length cap] 84]:=S
 refine gg_ ?_
 rw [xr x.name,xr y.name]
 refine gg_ ?_
 refine zm (c:=eqb x.fs y.fs) (fun _ K2 hK2=>?_) fun w3 e3=>?_
 ·refine gg_ ?_
  exact abp S.holds ht hu (aft (hl x hx) (hm y hy)) fun w4 e4=>hK2 _ e4
 have:=h _ (S.go e3).ext
 rwa [← Zp (b:=((x.name.data.toList == y.name.data.toList)&&eqb x.fs y.fs)) (by rw [StD.eq_iff,Bool.and_eq_true,jH,xu])] at this
theorem GrD.eq_iff {a b : GrD} : a=b↔((((((a.name=b.name∧a.lv=b.lv)∧a.pn=b.pn)∧a.outs=b.outs)∧a.nms=b.nms)∧a.tys=b.tys)∧a.pts=b.pts):=by
 cases a;cases b
 simp only [GrD.mk.injEq]
 constructor
 ·rintro ⟨h1,h2,h3,h4,h5,h6,h7⟩;exact ⟨⟨⟨⟨⟨⟨h1,h2⟩,h4⟩,h3⟩,h6⟩,h5⟩,h7⟩
 ·rintro ⟨⟨⟨⟨⟨⟨h1,h2⟩,h4⟩,h3⟩,h6⟩,h5⟩,h7⟩;exact ⟨h1,h2,h3,h4,h5,h6,h7⟩
theorem afv {r : Gh} {l m : List GrD} (hl : ∀ s ∈ l,∀ x ∈ s.tys,isB x=true) (hm : ∀ s ∈ m,∀ x ∈ s.tys,isB x=true) : Cmp r (GrG r) l m (.func (.func Tryz.Z7) #[] #[]):=fun x hx y hy c d w K hc hd hr h=>by
 refine Yy (by kernel_rfl) ?_
 refine Tryz.Jl ?_
 unfold Tryz.Yn
 obtain ⟨x1,x2,x3,x4,y1,y2,y3,y4,rfl,hg⟩:=qX hc
 obtain ⟨x1',x2',x3',x4',y1',y2',y3',y4',rfl,hg'⟩:=qX hd
 obtain ⟨_,_,_,_,hE,m1,m2,m3,m4⟩:=hg
 cases hE
 obtain ⟨_,_,_,_,hE,n1,n2,n3,n4⟩:=hg'
 cases hE
 have S:=St.start hr
 refine S.box fun b2 w1 S=>?_
 have S : StX noX w r w1 [.cell b2 (grL x x1 x2 x3 x4 y1 y2 y3 y4) 33]:=S
 refine S.box fun b3 w2 S=>?_
 have S : StX noX w r w2 [.cell b3 (grL y x1' x2' x3' x4' y1' y2' y3' y4') 33,.cell b2 (grL x x1 x2 x3 x4 y1 y2 y3 y4) 33]:=S
 refine gg_ ?_
 rw [xr x.name,xr y.name]
 refine gg_ ?_
 refine zj (c:=decide (x.lv=y.lv)) (fun _ K2 hK2=>by refine gg_ ?_;exact hK2) ?_
 refine zj (c:=decide (x.pn=y.pn)) (fun _ K2 hK2=>by refine gg_ ?_;exact hK2) ?_
 refine zm (c:=eqb x.outs y.outs) (fun _ K2 hK2=>?_) fun w3 e3=>?_
 ·refine gg_ ?_
  exact VX S.holds m1 n1 fun w4 e4=>hK2 _ e4
 have S:=S.go e3
 refine zm (c:=eqb x.nms y.nms) (fun _ K2 hK2=>?_) fun w3 e3=>?_
 ·refine gg_ ?_
  exact abq S.holds m3 n3 fun w4 e4=>hK2 _ e4
 have S:=S.go e3
 refine zm (c:=eqb x.tys y.tys) (fun _ K2 hK2=>?_) fun w3 e3=>?_
 ·refine gg_ ?_
  exact ab9 S.holds m2 n2 (afs (hl x hx) (hm y hy)) fun w4 e4=>hK2 _ e4
 have S:=S.go e3
 refine zm (c:=eqb x.pts y.pts) (fun _ K2 hK2=>?_) fun w3 e3=>?_
 ·refine gg_ ?_
  exact abn S.holds m4 n4 afq fun w4 e4=>hK2 _ e4
 have:=h _ (S.go e3).ext
 rwa [← Zp (b:=((((((x.name.data.toList == y.name.data.toList)&&decide (x.lv=y.lv))&&decide (x.pn=y.pn))&&eqb x.outs y.outs)&&eqb x.nms y.nms)&&eqb x.tys y.tys)&&eqb x.pts y.pts)
  (by have hs:=@jH x.name y.name;rw [beq_iff_eq] at hs;rw [GrD.eq_iff];simp only [Bool.and_eq_true,decide_eq_true_iff,xu,beq_iff_eq,hs])] at this
theorem abB {u : UnD} (hM : MayU u) : ∀ g ∈ u.fs,∀ x ∈ g.tys,isB x=true:=fun g hg x hx=>by
 obtain ⟨i,hi,rfl⟩:=List.getElem_of_mem hg
 have hff:=(hM.hd hi).fine hM.ok
 exact (hff.all _ hx).is hff.few
theorem aaX {u : UnD} (hM : MayU u) : ∀ s ∈ u.ss,s.fs.length≤8∧∀ x ∈ s.fs,isB x.2=true:=fun s hs=>by
 obtain ⟨k,hk,rfl⟩:=List.getElem_of_mem hs
 obtain ⟨h1,h2,h3,_⟩:=kX hM.ok
 have hat : ze u.ss (k : Nat)=u.ss[k].fs.map (·.2):=by rw [ze,Int.toNat_natCast,List.getElem?_eq_getElem hk]
 have hb:=h2 k hk
 rw [qj] at hb
 simp only [Bool.or_eq_false_iff,decide_eq_false_iff_not] at hb
 have hl:=hb.1.2
 rw [hat,List.length_map] at hl
 refine ⟨by omega,fun x hx=>?_⟩
 exact Xw (h3 k x.2 (by rw [hat];exact List.mem_map_of_mem hx)) (Nat.le_refl _) (by omega)
theorem aep {r : Gh} {ss : List StD} {p : Option Addr} {cap : Nat} (h : StG r p ss) (hc : ss.length≤cap) (hp : p=none→cap=0) (hl : ss.length≤maxLen) (hf : ∀ s ∈ ss,s.fs.length≤8) : SlB 2 r (SdC r) (.slice p ss.length cap) ss:=by
 have hrep : Rep r (.sl 2 (ss.map StD.dat)) [.slice p ss.length cap]:=⟨p,cap,by rw [List.length_map],hp,by rw [List.length_map];exact hc,h⟩
 obtain ⟨v,hv,hs⟩:=y9 (R:=SdC r) (fun c s hs hr=>by
  obtain ⟨a1,b1,rfl,e1,a2,b2,rfl,e2,e3⟩:=hr
  obtain rfl : a1=_:=e1
  obtain rfl : b2 = []:=e3
  obtain ⟨v,rfl,hv⟩:=y9 (R:=FdC r) (fun c x hx hr=>by
   obtain ⟨a1,b1,rfl,e1,a2,b2,rfl,e2,e3⟩:=hr
   obtain rfl : a1=_:=e1
   obtain rfl : b2 = []:=e3
   have ht:=TyG.of_rep e2
   obtain ⟨q,cap',hE,hq⟩:=id ht
   have hE : a2=tyL x.2 q cap':=by
    have:=congrArg Value.cells hE
    simpa [Value.cells] using congrArg Array.toList this
   subst hE
   exact ⟨q,cap',by simp,ht⟩) e2 (by have:=hf s hs;simp only [maxLen];omega)
  obtain ⟨q,cap',rfl,_,_⟩:=hv.sl.shape
  exact ⟨q,cap',rfl,hv⟩) hrep hl
 cases hv
 exact hs
theorem UnD.eq_iff {a b : UnD} : a=b↔(a.mn=b.mn∧a.ss=b.ss)∧a.fs=b.fs:=by
 cases a;cases b
 simp only [UnD.mk.injEq]
 constructor
 ·rintro ⟨h1,h2,h3⟩;exact ⟨⟨h3,h1⟩,h2⟩
 ·rintro ⟨⟨h3,h1⟩,h2⟩;exact ⟨h1,h2,h3⟩
theorem XH {a b : UnD} {va vb : Value} {w : World} {r : Gh} {K : Value→World→Prop} (hr : Holds r w) (ha : UnG r va a) (hb : UnG r vb b)
  (h : ∀ w',Ext w w'→K (.bool ((kx a&&kx b)&&eqb a b)) w') : zd Tryz.prog Tryz.jh #[va,vb] w K:=by
 refine Tryz.VN ?_
 unfold Tryz.Xq
 have ha0:=ha
 have hb0:=hb
 obtain ⟨p0,cap0,vf,rfl,hp1,hp2,hst,hsl,hfn⟩:=ha
 obtain ⟨qf,capf,rfl,_,_⟩:=hfn.sl.shape
 obtain ⟨p0',cap0',vf',rfl,hp1',hp2',hst',hsl',hfn'⟩:=hb
 obtain ⟨qf',capf',rfl,_,_⟩:=hfn'.sl.shape
 have S:=St.start hr
 refine S.box fun b2 w1 S=>?_
 have S : StX noX w r w1 [.cell b2 [.slice p0 a.ss.length cap0,.slice qf a.fs.length capf,.int .i64 a.mn] 25]:=S
 refine S.box fun b3 w2 S=>?_
 have S : StX noX w r w2 [.cell b3 [.slice p0' b.ss.length cap0',.slice qf' b.fs.length capf',.int .i64 b.mn] 25,.cell b2 [.slice p0 a.ss.length cap0,.slice qf a.fs.length capf,.int .i64 a.mn] 25]:=S
 refine S.ldB (b:=b2) ?_ rfl
 refine xD S.holds ha0 fun w3 e3=>?_
 have S:=S.go e3
 refine zm (c:=kx b) (fun _ K2 hK2=>?_) fun w3 e3=>?_
 ·refine S.ldB (b:=b3) ?_ rfl
  exact xD S.holds hb0 fun w3 e3=>hK2 _ e3
 have S:=S.go e3
 refine zj (c:=decide (a.mn=b.mn)) (fun _ K2 hK2=>by refine gg_ ?_;exact hK2) ?_
 refine zm (c:=eqb a.ss b.ss) (fun hb1 K2 hK2=>?_) fun w3 e3=>?_
 ·simp only [Bool.and_eq_true,yY] at hb1
  have fa:=aaX hb1.1.1;have fb:=aaX hb1.1.2
  refine gg_ ?_
  exact aaW S.holds (aep hst hp2 hp1 hsl fun s hs=>(fa s hs).1) (aep hst' hp2' hp1' hsl' fun s hs=>(fb s hs).1) (afu (fun s hs=>(fa s hs).2) fun s hs=>(fb s hs).2) fun w4 e4=>hK2 _ e4
 have S:=S.go e3
 refine zm (c:=eqb a.fs b.fs) (fun hb1 K2 hK2=>?_) fun w3 e3=>?_
 ·simp only [Bool.and_eq_true,yY] at hb1
  refine gg_ ?_
  exact abo S.holds hfn hfn' (afv (abB hb1.1.1.1) (abB hb1.1.1.2)) fun w4 e4=>hK2 _ e4
 have:=h _ (S.go e3).ext
 have hB : ((((kx a&&kx b)&&decide (a.mn=b.mn))&&eqb a.ss b.ss)&&eqb a.fs b.fs)=((kx a&&kx b)&&eqb a b):=by
  rw [Bool.eq_iff_iff]
  simp only [Bool.and_eq_true,decide_eq_true_iff,xu,UnD.eq_iff (a:=a)]
  constructor
  ·rintro ⟨⟨⟨h1,h2⟩,h3⟩,h4⟩;exact ⟨h1,⟨h2,h3⟩,h4⟩
  ·rintro ⟨h1,⟨h2,h3⟩,h4⟩;exact ⟨⟨⟨h1,h2⟩,h3⟩,h4⟩
 rwa [← hB] at this
end Go.Proofs
end
section
namespace Go.Proofs
open Go.Sh
set_option maxRecDepth 100000
set_option linter.unusedSimpArgs false
set_option linter.unusedVariables false
theorem Zr : ∀ (n : Nat) {t : TyD} {w : World} {r : Gh} {v : Value} {deep : Int} {K : Value→World→Prop},0≤deep→deep≤n→n≤60→Holds r w→TyG r v t→
  (∀ b w',Ext w w'→K (.bool b) w')→zd Tryz.prog Tryz.xd #[v,.int .i64 deep] w K:=by
 intro n
 induction n with
 |zero=>
  intro t w r v deep K h0 h1 _ hr hv h
  obtain rfl : deep=0:=by omega
  refine Tryz.vA ?_
  unfold Tryz.qJ
  have S:=St.start hr
  refine S.box fun b2 w1 S=>?_
  refine gG_ ?_
  refine abW (fun _=>?_) (fun hn=>absurd rfl hn)
  exact c_T (h _ _ S.ext)
 |succ n ih=>
  intro t w r v deep K h0 h1 h2 hr hv h
  refine Tryz.vA ?_
  unfold Tryz.qJ
  obtain ⟨p,cap,rfl,_,_,hof⟩:=hv
  have S:=St.start hr
  refine S.box fun b2 w1 S=>?_
  refine gG_ ?_
  refine abW (fun _=>?_) (fun hz=>?_)
  ·exact c_T (h _ _ S.ext)
  intro K2 hK2;refine gG_ ?_;refine hK2 _ _ ?_;clear hK2 K2
  refine zg (fun _=>h _ _ S.ext) (fun hlen=>?_)
  refine zk (ι:=Nat) (fun i=>[.int .i64 i]) (fun i w'=>i≤t.of.length∧St w r w' _) (fun i=>t.of.length - i) 0 rfl ⟨Nat.zero_le _,S⟩ ?_
  clear S
  rintro i d w9 ⟨hi,S⟩ K6 hK6
  simp only [List.getD_cons_zero]
  refine gG_ ?_
  refine zg (fun hlt=>?_) (fun _=>h _ _ S.ext)
  have hlt : i<t.of.length:=by omega
  obtain ⟨b,off,c,rfl,hc,hcell,ht⟩:=XT S hof hlt
  refine gG_ ?_
  refine zt (n:=5) hc (by simpa using hcell) ?_
  refine gG_ ?_
  refine ih (by omega) (by omega) (by omega) S.holds ht fun bb w10 e10=>?_
  have S:=S.go e10
  refine gG_ ?_
  refine c_b (fun _=>h _ _ S.ext) (fun _=>?_)
  refine gG_ ?_
  exact hK6 (i+1) _ ⟨hlt,S⟩ (by omega)
theorem jI {o : OpD} {c : List Value} {w : World} {r : Gh} {K : Value→World→Prop} (hr : Holds r w) (ho : OpG r c o)
  (h : ∀ w',Ext w w'→K (.bool (decide (o.pl.ps.length≤40))) w') : zd Tryz.prog Tryz.xO #[.agg c.toArray] w K:=by
 refine Tryz.Je ?_
 unfold Tryz.Yf
 obtain ⟨v,rfl,hv⟩:=ho
 obtain ⟨q,cap,rfl,_,_⟩:=hv.sl.shape
 have S:=St.start hr
 refine S.box fun b1 w1 S=>?_
 have S : StX noX w r w1 [.cell b1 [.int .u8 o.k,.int .i64 o.n,.int .i64 o.pl.l,.slice q o.pl.ps.length cap] 41]:=S
 refine gg_ ?_
 have:=h _ S.ext
 rwa [show decide (o.pl.ps.length≤40)=decide ((o.pl.ps.length : Int)≤40) from decide_eq_decide.2 (by omega)] at this
structure ad2 (p : PtD) : Prop where
 to : p.to.ps.length≤40
 fr : p.fr.ps.length≤40
 a : p.a.pl.ps.length≤40
 b : p.b.pl.ps.length≤40
 args : p.args.length≤40
 sign : p.sign.size≤40
 ops : ∀ o ∈ p.args,o.pl.ps.length≤40
def J8 (g : GrD) : Prop:=g.pts.length≤1100∧∀ p ∈ g.pts,ad2 p
theorem QQ {α : Type} {P : α→Prop} {l : List α} {i : Nat} (hi : i<l.length) (h : ∀ x ∈ l.take i,P x) (hx : P l[i]) : ∀ x ∈ l.take (i+1),P x:=fun x hm=>by
 rw [List.take_succ_eq_append_getElem hi] at hm
 rcases List.mem_append.1 hm with hm|hm
 ·exact h x hm
 ·rw [List.mem_singleton.1 hm];exact hx
set_option maxHeartbeats 4000000 in
theorem aaY {u : UnD} {v : Value} {w : World} {r : Gh} {K : Value→World→Prop} (hr : Holds r w) (hu : UnG r v u) (h : ∀ (b : Bool) w',Ext w w'→(b=true→∀ g ∈ u.fs,J8 g)→K (.bool b) w') : zd Tryz.prog Tryz.vW #[v] w K:=by
 refine Tryz.VH ?_
 unfold Tryz.Xl
 obtain ⟨p0,cap0,vf,rfl,_,_,hst,hsl,hfn⟩:=hu
 obtain ⟨qf,capf,rfl,_,_⟩:=hfn.sl.shape
 have hfl : u.fs.length≤9223372036854775807:=hfn.few
 have hsl' : u.ss.length≤9223372036854775807:=hsl
 have no : ∀ {w'},Ext w w'→K (.bool false) w':=fun e=>h false _ e (fun e=>by cases e)
 have S:=St.start hr
 refine S.box fun b1 w1 S=>?_
 have S : StX noX w r w1 [.cell b1 [.slice p0 u.ss.length cap0,.slice qf u.fs.length capf,.int .i64 u.mn] 25]:=S
 refine gg_ ?_
 refine zh (c:=decide (40<(u.fs.length : Int))) (fun _ K2 hK2=>by refine gg_ ?_;exact hK2) ?_
 refine c_b (fun _=>no S.ext) (fun hsm=>?_)
 simp only [Bool.or_eq_false_iff,decide_eq_false_iff_not] at hsm
 refine zk (ι:=Nat) (fun i=>[.int .i64 (i : Nat)]) (fun i w'=>i≤u.ss.length∧StX noX w r w' _) (fun i=>u.ss.length - i) 0 rfl ⟨Nat.zero_le _,S⟩ ?_
 clear S
 rintro i d w2 ⟨hi,S⟩ K6 hK6
 rw [List.getD_cons_zero]
 refine gg_ ?_
 refine zg (fun hlt=>?_) (fun hge=>?_)
 ·have hlt : i<u.ss.length:=by omega
  obtain ⟨b,off,q,capq,rfl,hcell,_,hfc,hfl2⟩:=vG hst hlt
  refine gg_ ?_
  refine zG (by rw [Int.toNat_natCast];exact S.at hcell) ?_
  refine gg_ ?_
  refine zg (fun _=>no S.ext) (fun hfew=>?_)
  refine zk (ι:=Nat) (fun k=>[.int .i64 (k : Nat)]) (fun k w'=>k≤u.ss[i].fs.length∧StX noX w r w' _) (fun k=>u.ss[i].fs.length - k) 0 rfl ⟨Nat.zero_le _,S⟩ ?_
  clear S
  rintro k d w3 ⟨hk,S⟩ K10 hK10
  rw [List.getD_cons_zero]
  refine gg_ ?_
  refine zG (by rw [Int.toNat_natCast];exact S.at hcell) ?_
  refine gg_ ?_
  refine zg (fun hlt2=>?_) (fun hge2=>?_)
  ·have hlt2 : k<u.ss[i].fs.length:=by omega
   obtain ⟨b',off',c,rfl,hc5,hcl,hty⟩:=YA hfl2 hlt2
   refine gg_ ?_
   refine zG (by rw [Int.toNat_natCast];exact S.at hcell) ?_
   refine gg_ ?_
   refine zt (n:=5) hc5 (fun j v hj=>by rw [Int.toNat_natCast];have:=S.at (hcl (j+1) v (by simpa using hj));rwa [show off'+k*6+(j+1)=off'+k*6+1+j by omega] at this) ?_
   refine Zr 60 (by decide) (by decide) (by decide) S.holds hty fun x w4 e4=>?_
   have S:=S.go e4
   refine gp_ ?_
   refine c_b (fun _=>no S.ext) (fun _=>?_)
   refine gg_ ?_
   exact hK10 (k+1) _ ⟨hlt2,S⟩ (by omega)
  refine gg_ ?_
  exact hK6 (i+1) _ ⟨hlt,S⟩ (by omega)
 refine zk (ι:=Nat × Int) (fun i=>[.int .i64 i.2,.int .i64 (i.1 : Nat)]) (fun i w'=>i.1≤u.fs.length∧(∀ g ∈ u.fs.take i.1,J8 g)∧StX noX w r w' _) (fun i=>u.fs.length - i.1) (0,0) rfl ⟨Nat.zero_le _,by simp,S⟩ ?_
 clear S hK6 K6 hge hi
 rintro ⟨i,n⟩ d w3 ⟨hi,hfit,S⟩ K7 hK7
 simp only at hi hfit S ⊢
 simp only [List.getD_cons_zero,List.getD_cons_succ]
 refine gg_ ?_
 refine zg (fun hlt=>?_) (fun hge=>?_)
 rotate_left
 ·have hie : i=u.fs.length:=by omega
  subst hie
  rw [List.take_length] at hfit
  refine gg_ ?_
  exact h _ _ S.ext fun _=>hfit
 have hlt : i<u.fs.length:=by omega
 obtain ⟨bf,of,cf,rfl,hcf,hgc,hfo⟩:=hfn.sl.get (by decide) hlt
 have htk:=fun hx : J8 u.fs[i]=>QQ hlt hfit hx
 generalize u.fs[i]=g at hgc htk
 obtain ⟨x1,x2,x3,x4,y1,y2,y3,y4,rfl,hg0⟩:=qX hgc
 obtain ⟨_,_,_,_,hE,m1,m2,m3,m4⟩:=hg0
 cases hE
 have hml : g.tys.length≤9223372036854775807:=m2.few
 have hmp : g.pts.length≤9223372036854775807:=m4.few
 refine gg_ ?_
 refine zt (n:=7) hcf (fun j v hj=>by rw [Int.toNat_natCast];exact S.at (hfo j v hj)) ?_
 refine S.al fun b7 w4 S=>?_
 refine S.stB (b:=b7) fun w5 S=>?_
 have S : StX noX w r w5 [.cell b7 (grL g x1 x2 x3 x4 y1 y2 y3 y4) 33,.cell b1 [.slice p0 u.ss.length cap0,.slice (some ⟨bf,of,none⟩) u.fs.length capf,.int .i64 u.mn] 25]:=S
 refine gg_ ?_
 refine zh (c:=decide (1100<(g.nms.length : Int))) (fun _ K2 hK2=>by refine gg_ ?_;exact hK2) ?_
 refine zh (c:=decide (200<(g.outs.length : Int))) (fun _ K2 hK2=>by refine gg_ ?_;exact hK2) ?_
 refine zh (c:=decide (1100<(g.pts.length : Int))) (fun _ K2 hK2=>by refine gg_ ?_;exact hK2) ?_
 refine c_b (fun _=>no S.ext) (fun hgs=>?_)
 simp only [Bool.or_eq_false_iff,decide_eq_false_iff_not] at hgs
 refine gg_ ?_
 refine afo fun y=>?_
 refine zk (ι:=Nat) (fun k=>[.int .i64 (k : Nat)]) (fun k w'=>k≤g.tys.length∧StX noX w r w' _) (fun k=>g.tys.length - k) 0 rfl ⟨Nat.zero_le _,S⟩ ?_
 clear S
 rintro k d w6 ⟨hk,S⟩ K33 hK33
 rw [List.getD_cons_zero]
 refine gg_ ?_
 refine zg (fun hlt2=>?_) (fun hge2=>?_)
 ·have hlt2 : k<g.tys.length:=by omega
  obtain ⟨bt,ot,ct,hE,hct,hty,hto⟩:=m2.sl.get (by decide) hlt2
  cases hE
  refine gg_ ?_
  refine zt (n:=5) hct (fun j v hj=>by rw [Int.toNat_natCast];exact S.at (hto j v hj)) ?_
  refine Zr 60 (by decide) (by decide) (by decide) S.holds hty fun x w4 e4=>?_
  have S:=S.go e4
  refine gp_ ?_
  refine c_b (fun _=>no S.ext) (fun _=>?_)
  refine gg_ ?_
  exact hK33 (k+1) _ ⟨hlt2,S⟩ (by omega)
 refine zk (ι:=Nat) (fun k=>[.int .i64 (k : Nat)]) (fun k w'=>k≤g.pts.length∧(∀ p ∈ g.pts.take k,ad2 p)∧StX noX w r w' [.cell b7 (grL g x1 x2 x3 x4 y1 y2 y3 y4) 33,.cell b1 [.slice p0 u.ss.length cap0,.slice (some ⟨bf,of,none⟩) u.fs.length capf,.int .i64 u.mn] 25]) (fun k=>g.pts.length - k) 0 rfl ⟨Nat.zero_le _,by simp,S⟩ ?_
 clear S hK33 K33 hge2 hk k
 rintro k d w8 ⟨hk,hps,S⟩ K38 hK38
 rw [List.getD_cons_zero]
 refine gg_ ?_
 refine zg (fun hlt2=>?_) (fun hge2=>?_)
 ·have hlt2 : k<g.pts.length:=by omega
  obtain ⟨bp,op,cp,hE,hcp,hpc,hpo⟩:=m4.sl.get (by decide) hlt2
  cases hE
  have hpk:=fun hx : ad2 g.pts[k]=>QQ hlt2 hps hx
  generalize g.pts[k]=p at hpc hpk
  obtain ⟨z1,z2,z3,z4,z5,t1,t2,t3,t4,t5,rfl,hp0⟩:=yU hpc
  obtain ⟨kto,ka,kb,kl,kf⟩:=YH hp0
  have hkl : p.args.length≤9223372036854775807:=kl.few
  refine gg_ ?_
  refine zt (n:=21) hcp (fun j v hj=>by rw [Int.toNat_natCast];exact S.at (hpo j v hj)) ?_
  refine S.al fun b10 w9 S=>?_
  refine S.stB (b:=b10) fun w10 S=>?_
  have S : StX noX w r w10 [.cell b10 (ptL p z1 z2 z3 z4 z5 t1 t2 t3 t4 t5) 44,.cell b7 (grL g x1 x2 x3 (some ⟨bp,op,none⟩) y1 y2 y3 y4) 33,.cell b1 [.slice p0 u.ss.length cap0,.slice (some ⟨bf,of,none⟩) u.fs.length capf,.int .i64 u.mn] 25]:=S
  refine gg_ ?_
  refine zh (c:=decide (40<(p.fr.ps.length : Int))) (fun _ K2 hK2=>by refine gg_ ?_;exact hK2) ?_
  refine xM (c:=!decide (p.a.pl.ps.length≤40)) (fun _ K2 hK2=>?_) fun w11 e11=>?_
  ·refine gg_ ?_
   refine S.ldN (b:=b10) ?_
   refine jI S.holds ka fun w4 e4=>?_
   refine gp_ ?_
   exact hK2 _ e4
  have S:=S.go e11
  refine xM (c:=!decide (p.b.pl.ps.length≤40)) (fun _ K2 hK2=>?_) fun w12 e12=>?_
  ·refine gg_ ?_
   refine S.ldN (b:=b10) ?_
   refine jI S.holds kb fun w4 e4=>?_
   refine gp_ ?_
   exact hK2 _ e4
  have S:=S.go e12
  refine zh (c:=decide (40<(p.args.length : Int))) (fun _ K2 hK2=>by refine gg_ ?_;exact hK2) ?_
  refine zh (c:=decide (40<(p.sign.size : Int))) (fun _ K2 hK2=>by refine gg_ ?_;exact hK2) ?_
  refine c_b (fun _=>no S.ext) (fun hgood=>?_)
  simp only [Bool.or_eq_false_iff,decide_eq_false_iff_not,Bool.not_eq_false',decide_eq_true_eq] at hgood
  refine zk (ι:=Nat) (fun m=>[.int .i64 (m : Nat)]) (fun m w'=>m≤p.args.length∧(∀ o ∈ p.args.take m,o.pl.ps.length≤40)∧StX noX w r w' _) (fun m=>p.args.length - m) 0 rfl ⟨Nat.zero_le _,by simp,S⟩ ?_
  clear S
  rintro m d w13 ⟨hm,hops,S⟩ K66 hK66
  rw [List.getD_cons_zero]
  refine gg_ ?_
  refine zg (fun hlt3=>?_) (fun hge3=>?_)
  ·have hlt3 : m<p.args.length:=by omega
   obtain ⟨bo,oo,co,hE,hco,hoc,hoo⟩:=kl.sl.get (by decide) hlt3
   cases hE
   refine gg_ ?_
   refine zt (n:=4) hco (fun j v hj=>by rw [Int.toNat_natCast];exact S.at (hoo j v hj)) ?_
   refine jI S.holds hoc fun w4 e4=>?_
   have S:=S.go e4
   refine gp_ ?_
   refine c_b (fun _=>no S.ext) (fun hk=>?_)
   refine gg_ ?_
   exact hK66 (m+1) _ ⟨hlt3,QQ hlt3 hops (by simpa using hk),S⟩ (by omega)
  have hme : m=p.args.length:=by omega
  subst hme
  rw [List.take_length] at hops
  have S:=S.drop b10
  refine gg_ ?_
  exact hK38 (k+1) _ ⟨hlt2,hpk ⟨by omega,by omega,by omega,by omega,by omega,by omega,hops⟩,S⟩ (by omega)
 have hke : k=g.pts.length:=by omega
 subst hke
 rw [List.take_length] at hps
 have S:=S.drop b7
 refine gg_ ?_
 exact hK7 (i+1,y) _ ⟨hlt,htk ⟨by omega,hps⟩,S⟩ (by show u.fs.length - (i+1)<u.fs.length - i;omega)
end Go.Proofs
end
