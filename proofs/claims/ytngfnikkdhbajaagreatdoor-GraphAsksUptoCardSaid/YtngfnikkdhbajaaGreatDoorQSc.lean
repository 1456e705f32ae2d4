/-
  Contracts: Regions, of both sides; which regions one type asks of another (pure).
  Contracts: what one type asks of another.
  Contracts: Asks, of both sides.
  Contracts: Asks, the document's.
  Contracts: the text of a type, of both sides. Itoa of small numbers.
  Contracts: the text of a type, the document's; Itoa of small numbers; Copies.
  Contracts: Structs, May, Words where there are no structs (what awake asks).
  Arithmetic of unsigned numbers, told by whole numbers where nothing runs over.
  A slice of one's own that need not begin where its block does: a queue.
  Further steps: values that are arrays, shifts and joins of numbers, structs of numbers compared; conditions put together.
  Contracts: the reader of types' texts: comes, take.
  Contracts: the reader of types' texts: digits.
  What is read of bytes, byte by byte: readers as data; how far they go. No program in sight.
  Contracts: the reader of types' texts: kind, ref.
  Contracts: the reader of types' texts: ref.
  Contracts: the reader of types' texts: kind.
  Contracts: types.Read.
  Contracts: the document's reader of types' texts: next, word, number.
  Contracts: the document's reader of types' texts: number.
  Contracts: the document's reader of types' texts: reference, kind.
  Contracts: the document's reader of types' texts: Read.
  Contracts: equal (of what is alike), spoil.
  Contracts: a type's nodes as one's own cells; own, Own.
  Contracts: walk that turns regions; Number, Anew.
  Contracts: Anew of types.
  Contracts: laid, Number, Anew of the document's answer.
  Structs as data; what stands in what: the plain laws.
  Contracts: words, endless, first of package types.
  Contracts: Structs, May, Words, Drops of package types.
  Contracts: the document's answer: plain, endless, words, Structs, May, Words, Drops, Copies.
  Contracts: the document's answer: endless, Structs, May, Words, Drops.
  Contracts: fits; a struct's fields in new memory, of both sides.
  A law's end: the answer is true, the input reads as it did.
  Whatever an argument reads as, it is a datum: one theorem for all types of numbers, texts, structs and slices.
  Lists in memory, of whatever things: what a slice tells, read and grown.
  Data that are of a type, taken apart; what slices of data tell.
  Programs as graphs, as data; what a memory tells of them.
  A step of a kind, told by its kind alone.
  Texts of places, operands and points: as plain lists of bytes; how long they are.
  Contracts of the library, laid at this program (by the kit's own tools).
  Shallow readings of functions. Made by a program (wip/gen/gen.py) out of the translation; the kernel checks each equality.
  A strings.Builder that a call has made itself: what it holds, and what it tells.
-/
import Derived.Test.YtngfnikkdhbajaaGreatDoorQSb
import Derived.Test.YtngfnikkdhbajaaGreatDoorQSa
import Derived.ArgAppend
import Derived.ChangeSame
import Derived.ChangeStays
import Derived.ReadAgain
import Derived.ProofKit
import Derived.OpenShut
import Derived.Deep.DeepHandedRow
import Derived.Lib.LaidTab
import Derived.Lib.SmallJoins
import Derived.ChangeArms
import Derived.DataReads
import Derived.Lib.ItoaLen
import Derived.Shelf.Strings.Builder1
import Derived.Shelf.Strings.OnBuilder
import Derived.Shelf.Small.Wraps
import Derived.Shelf.Strconv.Itoa3
import Derived.Shelf.Strconv.Itoa4
import Derived.Shelf.Slices.CompactI
import Derived.Test.YtngfnikkdhbajaaGreatDoorProg
import Derived.KernelRfl
section
namespace Go.Proofs
open Go.Sh
set_option maxRecDepth 100000
theorem ag7 {b : Nat} {v : Value} {t : TyD} {r : Gh} {T : TypeId} (h : TyG r v t) : NdG (r.or (one b v.cells.toList T)) b 0 t:=by
 obtain ⟨c,rfl,hc,hr⟩:=h.rep
 refine ⟨c,hc,fun j x hj w hw=>?_,(TyG.of_rep hr).up⟩
 have B:=yF (b:=b) (c:=(Value.agg c.toArray).cells.toList) (T:=T) w (hw.le (h:=inferInstance))
 show w.cell? ⟨b,0+j,none⟩=some x
 rw [Nat.zero_add,B.cell]
 exact hj
theorem acm : ∀ (n : Nat) {t : TyD},t.ht≤n→t.chain.length≤n:=by
 intro n
 induction n with
 |zero=>intro t h;cases t with|mk k m re st of=>exact absurd h (Nat.not_succ_le_zero _)
 |succ n ih=>
  intro t h
  rw [TyD.chain_eq,List.length_cons]
  cases hof : t.of with
  |nil=>exact Nat.succ_le_succ (Nat.zero_le _)
  |cons u l=>
   have : u.ht<t.ht:=TyD.ht_of (by rw [hof];exact List.mem_cons_self ..)
   exact Nat.succ_le_succ (ih (t:=u) (by omega))
theorem ag8 (t : TyD) : t.regs.length≤t.ht:=by
 rw [TyD.regs,TyD.regsL,List.length_map]
 exact Nat.le_trans (List.length_filter_le _ _) (acm _ (Nat.le_refl _))
theorem Vi : ∀ {n : Nat} {s : Int} {t : TyD},zz s n t=true→t.ht≤n
 |0,_,_,h=>by cases h
 |n+1,s,t,h=>by
  cases t with
  |mk k m re st of=>
   rcases zS h with ⟨hof,_⟩|⟨u,hof,hu,_⟩
   ·cases hof;exact Nat.succ_le_succ (Nat.zero_le _)
   ·cases hof
    refine Nat.succ_le_succ ?_
    show max u.ht 0≤n
    rw [Nat.max_zero];exact Vi hu
theorem agh {t : TyD} (h : isB t=true) : t.ht≤48:=Vi h
theorem acn {s : Int} {n : Nat} {t : TyD} (h : zz s (n+1) t=true) : (t.k≠4∧t.k≠3∧t.of = []∧t.regs = [])∨∃ u,t.of = [u]∧zz s n u=true∧(t.k=3∨t.k=4)∧t.regs=(if t.k=4 then [t.re] else [])++u.regs:=by
 rcases zS h with ⟨hof,hk⟩|⟨u,hof,hu,hk⟩
 ·have h4 : t.k≠4:=by omega
  refine .inl ⟨h4,by omega,hof,?_⟩
  rw [TyD.regs_eq,hof,if_neg h4];rfl
 ·refine .inr ⟨u,hof,hu,hk,?_⟩
  rw [TyD.regs_eq,hof];rfl
theorem Xo {t : TyD} {w : World} {r : Gh} {v : Value} {K : Value→World→Prop} (hr : Holds r w) (hv : TyG r v t) (ht : t.ht≤1000000)
  (h : ∀ v' w',Ext w w'→w'.ownsRow w.heap.size 3 1 v' t.regs.length (ints t.regs)→K v' w') : zd Tryz.prog Tryz.qz #[v] w K:=by
 refine Tryz.V3 ?_
 unfold Tryz.Xg
 have S:=St.start hr
 refine S.box fun b1 w1 S=>?_
 have S:=S.frz
 refine S.al fun b3 w3 S=>?_
 refine gG_ ?_
 have S:=(S.ownNil 3 1).swap
 refine Vv t.ht (Nat.le_refl _) S (ag7 (T:=57) hv) (by omega) fun v' w' S=>?_
 refine S.ld ?_
 rw [Nat.zero_add,List.nil_append] at S
 exact h v' w' S.ext (S.give v')
def regsT (t : TyD) : List Int:=if isB t then t.regs else []
theorem Xp {t : TyD} {w : World} {r : Gh} {v : Value} {K : Value→World→Prop} (hr : Holds r w) (hv : TyG r v t)
  (h : ∀ v' w',Ext w w'→w'.ownsRow w.heap.size 3 1 v' (regsT t).length (ints (regsT t))→K v' w') : zd Tryz.prog Tryz.qy #[v] w K:=by
 refine Tryz.V2 ?_
 unfold Tryz.Xf
 have hv0:=hv
 obtain ⟨p,cap,rfl,_⟩:=hv
 have S:=St.start hr
 refine S.box fun b1 w1 S=>?_
 refine gG_ ?_
 refine ki S.holds hv0 fun w2 e2=>?_
 have S:=S.go e2
 refine gG_ ?_
 refine c_b (fun hn=>?_) (fun hb=>?_)
 ·have hb : isB t=false:=by simpa using hn
  refine h _ _ S.ext ?_
  rw [regsT,hb]
  exact World.ownsRow_nil _ _ _ _
 have hb : isB t=true:=by simpa using hb
 refine gG_ ?_
 have e02:=S.ext
 refine Xo S.holds hv0 (by have:=agh hb;omega) fun v3 w3 e3 ho=>?_
 have S:=S.take e3 ho
 refine h _ _ S.ext ?_
 rw [regsT,hb]
 exact S.give v3
theorem Xq {t : TyD} {w : World} {r : Gh} {v : Value} {K : Value→World→Prop} (hr : Holds r w) (hv : TyG r v t)
  (h : ∀ v' w',Ext w w'→w'.ownsRow w.heap.size 3 1 v' (regsT t).length (ints (regsT t))→K v' w') : zd Tryz.prog Tryz.qB #[v] w K:=by
 refine Tryz.V8 ?_
 unfold Tryz.Xl
 have hv0:=hv
 obtain ⟨p,cap,rfl,_⟩:=hv
 have S:=St.start hr
 refine S.box fun b1 w1 S=>?_
 refine gG_ ?_
 refine aaT S.holds hv0 fun w2 e2=>?_
 have S:=S.go e2
 refine gG_ ?_
 refine c_b (fun hn=>?_) (fun hb=>?_)
 ·have hb : isB t=false:=by simpa using hn
  refine h _ _ S.ext ?_
  rw [regsT,hb]
  exact World.ownsRow_nil _ _ _ _
 have hb : isB t=true:=by simpa using hb
 have hreg : regsT t=t.regs:=by rw [regsT,hb];rfl
 rw [hreg] at h
 have hlen:=Nat.le_trans (ag8 t) (agh hb)
 obtain ⟨c1,hc1,hc15,hrep⟩:=hv0.rep
 rw [show (Value.agg #[.int .u8 t.k,.bool t.m,.int .i64 t.re,.int .i64 t.st,.slice p t.of.length cap]).cells.toList=c1 by rw [hc1];rfl] at S
 refine zi (ι:=TyD × Value × List Int × List Value × Nat) (fun i=>[i.2.1])
  (fun i w'=>zz 32 i.2.2.2.2 i.1=true∧t.regs=i.2.2.1++i.1.regs∧i.2.2.2.1.length=5∧TyG r (.agg i.2.2.2.1.toArray) i.1∧St w r w' [.row i.2.1 3 1 i.2.2.1.length (ints i.2.2.1),.cell b1 i.2.2.2.1 57])
  (fun i=>i.2.2.2.2) (t,.slice none 0 0,[],c1,48) rfl ⟨hb,rfl,hc15,hc1 ▸ hv0,S.ownNil 3 1⟩ ?_
 clear S
 rintro ⟨u,v4,ds,c,n⟩ d w4 ⟨hu,hds,hc,hty,S⟩ K6 hK6
 simp only at hu hds hc hty S ⊢
 obtain ⟨n,rfl⟩ : ∃ m,n=m+1:=by cases n with|zero=>cases hu|succ n=>exact ⟨n,rfl⟩
 obtain ⟨p,cap,hcv,_,_,hof⟩:=hty
 have hcv : c = [.int .u8 u.k,.bool u.m,.int .i64 u.re,.int .i64 u.st,.slice p u.of.length cap]:=by
  have:=Value.agg.inj hcv;exact List.toArray_inj this
 subst hcv
 refine gG_ ?_
 refine adz (fun K2 hK2=>by refine gG_ ?_;exact hK2) ?_
 refine c_b (fun hk=>?_) (fun hk=>?_)
 ·rcases acn hu with ⟨h4,h3,_⟩|⟨x,hofx,hx,hk34,hrg⟩
  ·exfalso;simp [h4,h3] at hk
  rw [hrg,← List.append_assoc] at hds
  have hl : 0<u.of.length:=by rw [hofx];exact Nat.one_pos
  have hux : u.of[0]=x:=by simp [hofx]
  refine zu (fun s w'=>∃ v',s = [v']∧St w r w' [.row v' 3 1 (ds++(if u.k=4 then [u.re] else [])).length (ints (ds++(if u.k=4 then [u.re] else []))),.cell b1 [.int .u8 u.k,.bool u.m,.int .i64 u.re,.int .i64 u.st,.slice p u.of.length cap] 57]) (fun K2 hK2=>?_) ?_
  ·refine gG_ ?_
   refine zh (fun h4=>?_) (fun h4=>hK2 _ _ ⟨v4,rfl,by simpa [h4] using S⟩)
   have hlen2 : ds.length≤48:=by
    have:=congrArg List.length hds
    simp only [List.length_append] at this
    omega
   refine gG_ ?_
   refine S.lit (e:=3) (cs:=[.int .i64 u.re]) (by kernel_rfl) fun b3 w3 S=>?_
   refine S.ap (Sl.blk (S.blk b3)) (fun v5 w5 S=>?_) (by omega)
   refine hK2 _ _ ⟨v5,rfl,?_⟩
   simpa [h4,ints] using S.tl
  ·rintro s w7 ⟨v5,rfl,S⟩ d7
   refine gG_ ?_
   obtain ⟨ba,oa,ca,rfl,hca,hcella,hta⟩:=kC S hof hl
   rw [hux] at hta
   refine gG_ ?_
   refine zq (n:=5) hca (by simpa using hcella) ?_
   have h1 : ∀ y ∈ ca.toArray.toList,y.oneCell'=true:=by
    obtain ⟨p9,cap9,hv9,_⟩:=hta
    rw [Value.agg.inj hv9];simp [Value.oneCell']
   refine S.stB (hc:=by simpa using hca) (h1:=h1) fun w8 S=>?_
   exact hK6 (x,v5,ds++(if u.k=4 then [u.re] else []),ca,n) _ ⟨hx,hds,hca,hta,S⟩ (Nat.lt_succ_self _)
 ·rcases acn hu with ⟨h4,h3,hofx,hrg⟩|⟨x,hofx,hx,hk34,hrg⟩
  ·rw [hrg,List.append_nil] at hds
   refine h _ _ S.ext ?_
   rw [hds]
   exact S.give v4
  ·exfalso;rcases hk34 with h|h<;>simp [h] at hk
end Go.Proofs
end
section
namespace Go.Proofs
open Go.Sh
set_option maxRecDepth 100000
end Go.Proofs
end
section
namespace Go.Proofs
open Go.Sh
set_option maxRecDepth 100000
theorem VP (a b : List Int) : ints (a++b)=ints a++ints b:=List.map_append ..
theorem YT {r : Gh} {c : List Value} {t : TyD} (h : TyG r (.agg c.toArray) t) : ∃ p cap,c = [.int .u8 t.k,.bool t.m,.int .i64 t.re,.int .i64 t.st,.slice p t.of.length cap]∧RepS r 5 p 0 (TyD.dats t.of):=by
 obtain ⟨p,cap,hv,_,_,hof⟩:=h
 exact ⟨p,cap,List.toArray_inj (Value.agg.inj hv),hof⟩
theorem aff {r : Gh} {c : List Value} {t : TyD} (h : TyG r (.agg c.toArray) t) : ∀ y ∈ c.toArray.toList,y.oneCell'=true:=by
 obtain ⟨p,cap,rfl,_⟩:=YT h
 simp [Value.oneCell']
end Go.Proofs
end
section
namespace Go.Proofs
open Go.Sh
set_option maxRecDepth 100000
end Go.Proofs
end
section
namespace Go.Proofs
open Go.Sh
set_option maxRecDepth 100000
end Go.Proofs
end
section
namespace Go.Proofs
open Go.Sh
set_option maxRecDepth 100000
def xS (t : TyD) : Bool:=isB t&&((decide (t.k=1)||decide (t.k=2))||(decide (t.k=4) && !t.m))
theorem X5 {t : TyD} {w : World} {r : Gh} {v : Value} {K : Value→World→Prop} (hr : Holds r w) (hv : TyG r v t)
  (h : ∀ w',Ext w w'→K (.bool (xS t)) w') : zd Tryz.prog Tryz.qW #[v] w K:=by
 refine Tryz.aaN ?_
 unfold Tryz.XX
 have hv0:=hv
 obtain ⟨p,cap,rfl,_⟩:=hv
 have S:=St.start hr
 refine S.box fun b1 w1 S=>?_
 refine gG_ ?_
 refine ki S.holds hv0 fun w2 e2=>?_
 have S:=S.go e2
 refine gG_ ?_
 refine c_b (fun hn=>?_) (fun hb=>?_)
 ·have hb : isB t=false:=by simpa using hn
  rw [xS,hb] at h;exact h _ S.ext
 have hb : isB t=true:=by simpa using hb
 rw [xS,hb,Bool.true_and] at h
 refine gG_ ?_
 intro K11 hK11
 refine gG_ ?_
 refine kK (c:=decide (t.k=2)) (hK11 _ _ fun _=>?_) fun _ hk=>?_
 rotate_left
 ·refine gG_ ?_;exact hk
 simp only [List.getD_cons_zero]
 refine c_b (fun h12=>?_) (fun h12=>?_)
 ·rw [h12,Bool.true_or] at h;exact h _ S.ext
 rw [h12,Bool.false_or] at h
 refine gG_ ?_
 refine zh (fun h4=>?_) (fun h4=>?_)
 ·rw [show decide (t.k=4)=true from decide_eq_true h4,Bool.true_and] at h
  refine gG_ ?_
  exact h _ S.ext
 ·rw [show decide (t.k=4)=false from decide_eq_false h4,Bool.false_and] at h
  exact h _ S.ext
end Go.Proofs
end
section
namespace Go.Proofs
open Go.Sh
set_option maxRecDepth 100000
end Go.Proofs
end
section
namespace Go.Sh
open Go.RowKit
set_option linter.unusedSimpArgs false
set_option linter.unusedVariables false
section
variable {P : Program} {t s : TypeId} {c : Bool} {k : IntKind} {m a b : Int}
end
end Go.Sh
end
section
namespace Go.Sh
open Go.RowKit
theorem g_TT {A B : Prop} (a : A) : gIf (.bool true) true A B:=a
theorem g_FF {A B : Prop} (a : A) : gIf (.bool false) false A B:=a
theorem g_TF {A B : Prop} (b : B) : gIf (.bool true) false A B:=b
theorem g_FT {A B : Prop} (b : B) : gIf (.bool false) true A B:=b
section
variable {w : World} {A : (List Value→World→Prop)→Prop} {Z : Value→World→Prop} {b c : Bool}
theorem aiE (R : World→Prop) (h0 : b=true→R w) (hA : b=false→∀ K : List Value→World→Prop,(∀ w',R w'→K [.bool c] w')→A K) (hZ : ∀ w',R w'→Z (.bool (b||c)) w') :
  za (fun K=>gIf (.bool b) false (A K) (K [undef] w)) fun s _ w'=>zb (.bool b) (.bool true) (s.getD 0 undef) fun t=>Z t w':=by
 intro K hK
 cases b with
 |true=>exact hK _ _ fun _=>⟨true,rfl,by simpa using hZ w (h0 rfl)⟩
 |false=>exact hA rfl K fun w' e=>hK _ _ fun _=>⟨false,rfl,by simpa using hZ w' e⟩
end
theorem g_UU {want : Bool} {A B : Prop} (b : B) : gIf undef want A B:=b
section
variable {P : Program} {w : World} {t e : TypeId} {size n m : Nat} {v : Value} {xs news : List Value}
theorem Que.of_row {base : Nat} (h : w.ownsRow base e size v n xs) : Que w e size v n xs:=by
 refine ⟨h.1,?_⟩
 rcases jR h with ⟨rfl,rfl,rfl⟩|⟨g,cap,c,rfl,hb,B,h1,h2,h3,h4⟩
 ·exact .inl ⟨rfl,rfl⟩
 ·exact .inr ⟨g,0,cap,c,rfl,B,h1,h2,by omega,by rw [List.drop_zero];exact h4⟩
theorem Que.shape (h : Que w e size v n xs) : ∃ p cap,v = .slice p n cap∧(p=none→cap=0)∧n≤cap∧xs.length=n*size∧Sl w p xs:=by
 obtain ⟨hl,⟨rfl,rfl⟩|⟨g,off,cap,c,rfl,B,h1,h2,h3,h4⟩⟩:=h
 ·have hx : xs = []:=by simpa using hl
  subst hx
  exact ⟨none,0,rfl,fun _=>rfl,Nat.le_refl _,hl,Sl.nil _ _⟩
 ·refine ⟨_,cap,rfl,by simp,h1,hl,fun i v hv=>⟨g,off,rfl,?_⟩⟩
  rw [B.cell]
  rw [← h4,List.getElem?_take] at hv
  split at hv
  ·rwa [List.getElem?_drop] at hv
  ·cases hv
theorem agi {K : Value→World→Prop} {ty : TypeId} {bytes : Nat} {a : Addr} {c : Nat}
  (hT : apT P t=some (e,size,bytes)) (hown : Que w e size v n xs) (hs : Sl w (some a) news) (hl : news.length=m*size) (h1 : ∀ u ∈ news,u.oneCell'=true)
  (hb : (n+m)*bytes≤140737488355328)
  (h : ∀ v' w',Que w' e size v' (n+m) (xs++news)→ExtBut (fun k=>v.ownBlock=some k) w w'→(v'.ownBlock=v.ownBlock∨v'.ownBlock=some w.heap.size)→K v' w') :
  opW P w (Builtin.append_ #[t,t] ty #[v,.slice (some a) m c]) K:=by
 rcases hown with ⟨hxl,⟨rfl,rfl⟩|⟨g,off,cap,cur,rfl,B,h2,h3,h4,h5⟩⟩
 ·have hx : xs = []:=by simpa using hxl
  subst hx
  exact adQ hT (World.ownsRow_nil w 0 e size) hs hl (by simp) h1 hb (Nat.zero_le _) fun v' w' h6 h7 h8 _=>h v' w' (.of_row h6) h7 h8
 unfold apT at hT
 cases hu : P.underlying t with
 |none=>rw [hu] at hT;cases hT
 |some d=>
  rw [hu] at hT
  cases d<;>first|(cases hT;done)|skip
  rename_i e'
  simp only [Option.bind_eq_some_iff] at hT
  obtain ⟨i,hi,hT⟩:=hT
  cases hz : i.zero with
  |none=>rw [hz] at hT;cases hT
  |some z=>
   rw [hz] at hT
   simp only at hT
   split at hT
   ·rename_i hc
    obtain ⟨hzs,hsz,hbp⟩:=hc
    simp only [Option.some.injEq,Prod.mk.injEq] at hT
    obtain ⟨rfl,rfl,rfl⟩:=hT
    have hnews : ∀ j u,news[j]? = some u→w.cell? (a.add j)=some u:=fun j u hj=>by obtain ⟨b,off,hp,hc⟩:=hs j u hj;cases hp;rw [kc];exact hc
    have hlen : (xs++news).length=(n+m)*i.size:=by rw [List.length_append,hxl,hl,Nat.add_mul]
    by_cases hroom : n+m≤cap
    ·have hmul : (n+m)*i.size≤cap*i.size:=Nat.mul_le_mul_right _ hroom
     have hfit : off+n*i.size+news.length≤cur.length:=by rw [hl];rw [Nat.add_mul] at hmul;omega
     have hf:=run_firstCells_some (P:=P) w i.size m a m c news hl hnews
     have hst:=run_storeCells_at P g (off+n*i.size) e' news 0 cur.toArray w B (by simpa using hfit) h1
     simp only [Nat.add_zero] at hst
     obtain ⟨f1,f2,f3⟩:=Yt B (cur.take (off+n*i.size)++news++cur.drop (off+n*i.size+news.length))
     refine ⟨_,_,by simp [Builtin.append_,run_underlying hu,sizeOf,typeInfo,hi,Builtin.lenOf,hroom,hf,Addr.add_lit,hst],h _ _ ⟨hlen,.inr ⟨g,off,cap,_,rfl,f3,hroom,h3,?_,?_⟩⟩ (f1.mono fun k _ hk=>by cases hk;rfl) (.inl rfl)⟩
     ·simp only [List.length_append,List.length_take,List.length_drop];omega
     ·rw [← hlen,List.append_assoc,List.drop_append_of_le_length (by rw [List.length_take];omega),List.drop_take,show off+n*i.size - off=n*i.size by omega,h5,← List.append_assoc,List.take_left']
      rfl
    ·have h63 : n+m≤maxLen:=by
      have : (n+m)*1≤(n+m)*i.bytes:=Nat.mul_le_mul_left _ hbp
      simp only [maxLen];omega
     obtain ⟨v',w',hr,ho,hg⟩:=run_append_arg_grows (P:=P) w t ty e' i z i.size i.bytes hu hi hz rfl rfl hzs hsz ⟨g,off,none⟩ n cap xs hxl (fun j u hj=>by
      rw [kc,B.cell]
      rw [← h5,List.getElem?_take] at hj
      split at hj
      ·rwa [List.getElem?_drop] at hj
      ·cases hj) a m c news hl hnews (by omega) h63 hb
     refine ⟨v',w',hr,h v' w' (.of_row ho) ⟨hg.os,hg.tape,hg.output,hg.size,fun k hk _=>hg.block k hk (by simp)⟩ ?_⟩
     have hr2:=run_append_grow (P:=P) w t ty e' i z hu hi hz ⟨g,off,none⟩ n cap xs hxl (fun j u hj=>by
      rw [kc,B.cell]
      rw [← h5,List.getElem?_take] at hj
      split at hj
      ·rwa [List.getElem?_drop] at hj
      ·cases hj) a m c news hl hnews (by omega) (by simp only [maxLen] at h63;omega) (growslice_fits (by omega) hb)
     rw [hr] at hr2
     injection hr2 with e1 e2
     rw [e1];exact .inr rfl
   ·cases hT
theorem Que.drop {g off cap i : Nat} (h : Que w e size (.slice (some ⟨g,off,none⟩) n cap) n xs) (hi : i≤n) :
  Que w e size (.slice (if cap=i then some ⟨g,off,none⟩ else (some (⟨g,off,none⟩ : Addr)).map (·.add (i*size))) (n - i) (cap - i)) (n - i) (xs.drop (i*size)):=by
 obtain ⟨hl,⟨h0,_⟩|⟨g',off',cap',c,hv,B,h1,h2,h3,h4⟩⟩:=h
 ·cases h0
 cases hv
 refine ⟨by rw [List.length_drop,hl,Nat.sub_mul],.inr ?_⟩
 by_cases hc : cap=i
 ·rw [if_pos hc]
  have : n - i=0:=by omega
  refine ⟨g,off,cap - i,c,rfl,B,by omega,by omega,?_,?_⟩
  ·have : (cap - i)*size=0:=by rw [show cap - i=0 by omega,Nat.zero_mul]
   omega
  ·rw [this,Nat.zero_mul,List.take_zero,eq_comm,List.drop_eq_nil_iff,hl]
   exact Nat.mul_le_mul_right _ (by omega)
 ·rw [if_neg hc]
  refine ⟨g,off+i*size,cap - i,c,by simp only [Option.map_some,kc],B,by omega,by omega,?_,?_⟩
  ·have : i*size≤cap*size:=Nat.mul_le_mul_right _ (by omega)
   rw [Nat.sub_mul];omega
  ·rw [← h4,List.drop_take,List.drop_drop,Nat.sub_mul]
end
theorem ahS {P : Program} {w : World} {f : FuncId} {K : Value→World→Prop} {x0 : Value} (he : xX P f=true) (h : zd P f #[x0] w K) : z7 P (.func (.func f) #[] #[]) #[x0] w K:=qH he h
theorem afI {P : Program} {w : World} {f : FuncId} {K : Value→World→Prop} {x0 c0 : Value} (he : xX P f=true) (h : zd P f #[x0,c0] w K) : z7 P (.func (.func f) #[] #[c0]) #[x0] w K:=qH he h
theorem adA {P : Program} {w : World} {f : FuncId} {K : Value→World→Prop} {x0 c0 c1 : Value} (he : xX P f=true) (h : zd P f #[x0,c0,c1] w K) : z7 P (.func (.func f) #[] #[c0,c1]) #[x0] w K:=qH he h
theorem Qr {P : Program} {w : World} {f : FuncId} {K : Value→World→Prop} {x0 x1 : Value} (he : xX P f=true) (h : zd P f #[x0,x1] w K) : z7 P (.func (.func f) #[] #[]) #[x0,x1] w K:=qH he h
theorem ajw {P : Program} {w : World} {f : FuncId} {K : Value→World→Prop} {x0 x1 c0 : Value} (he : xX P f=true) (h : zd P f #[x0,x1,c0] w K) : z7 P (.func (.func f) #[] #[c0]) #[x0,x1] w K:=qH he h
class Qs (v : Value) (L : List Asr) (e : outParam TypeId) (sz n : outParam Nat) (xs : outParam (List Value)) (f : outParam (Asr→List Asr)) : Prop where
 h : ∃ p q,L=p ++ .que v e sz n xs::q∧∀ y,f y=p++y::q
instance {v : Value} {e : TypeId} {sz n : Nat} {xs : List Value} {L : List Asr} : Qs v (.que v e sz n xs::L) e sz n xs fun y=>y::L:=⟨[],L,rfl,fun _=>rfl⟩
instance (priority:=low) {v : Value} {e : TypeId} {sz n : Nat} {xs : List Value} {x : Asr} {L : List Asr} {f : Asr→List Asr} [h : Qs v L e sz n xs f] : Qs v (x::L) e sz n xs fun y=>x::f y:=⟨by
 obtain ⟨p,q,h1,h2⟩:=h.h
 exact ⟨x::p,q,by rw [h1];rfl,fun c'=>by rw [h2];rfl⟩⟩
section
variable {P : Program} {X : Nat→Prop} {w0 w : World} {r : Gh} {L : List Asr} {t e : TypeId} {sz n m : Nat} {v : Value} {xs news : List Value} {g : Asr→List Asr}
theorem StX.que (S : StX X w0 r w L) (v : Value) [h : Qs v L e sz n xs g] : Que w e sz v n xs:=by
 obtain ⟨pp,qq,h2,h3⟩:=h.h
 exact S.has (.que v e sz n xs) (by rw [h2];simp)
theorem StX.queS (S : StX X w0 r w L) (v : Value) [h : Qs v L e sz n xs g] : ∃ p cap,v = .slice p n cap∧(p=none→cap=0)∧n≤cap∧xs.length=n*sz∧Sl w p xs:=
 (S.que v (h:=h)).shape
theorem StX.toQue (S : StX X w0 r w L) (v : Value) [h : j9 v L e sz n xs g] : StX X w0 r w (g (.que v e sz n xs)):=by
 obtain ⟨pp,qq,h2,h3⟩:=h.h
 have hr:=S.has (.row v e sz n xs) (by rw [h2];simp)
 rw [h3]
 rw [h2] at S
 exact S.turn (x:=.row v e sz n xs) (y:=.que v e sz n xs) (ExtBut.refl _ _) (Que.of_row hr) fun k hk=>.inl hk
theorem StX.apQ (S : StX X w0 r w L) {ty : TypeId} {by' cap : Nat} {a : Addr} [h : Qs v L e sz n xs g] [z : ApT P t e sz by'] {K : Value→World→Prop}
  (hs : Sl w (some a) news) (k : ∀ v' w',StX X w0 r w' (g (.que v' e sz (n+m) (xs++news)))→K v' w')
  (hb : (n+m)*by'≤140737488355328) (hl : news.length=m*sz:=by simp) (h1 : ∀ u ∈ news,u.oneCell'=true:=by simp [Value.oneCell']) : opW P w (Builtin.append_ #[t,t] ty #[v,.slice (some a) m cap]) K:=by
 obtain ⟨pp,qq,h2,h3⟩:=h.h
 have hr:=S.has (.que v e sz n xs) (by rw [h2];simp)
 refine agi z.h hr hs hl h1 hb fun v' w' h4 h5 h6=>k v' w' ?_
 rw [h3]
 rw [h2] at S
 refine S.turn (x:=.que v e sz n xs) (y:=.que v' e sz (n+m) (xs++news)) h5 h4 fun j hj=>?_
 rw [Asr.dom] at hj
 rcases h6 with h6|h6
 ·rw [h6] at hj;exact .inl hj
 ·rw [h6] at hj;cases hj;exact .inr (Nat.le_refl _)
theorem StX.loQ (S : StX X w0 r w L) {e' : TypeId} {kd : IntKind} {i : Int} [h : Qs v L e sz n xs g] [z : SlT P t e' sz] {K : Value→Prop}
  (h0 : 0≤i) (hi : i≤n) (hn : 0<n) (k : ∀ v',StX X w0 r w (g (.que v' e sz (n - i.toNat) (xs.drop (i.toNat*sz))))→K v') : opP P (Instr.sliceAt t v (some (.int kd i)) none none) K:=by
 obtain ⟨pp,qq,h2,h3⟩:=h.h
 have hr:=S.has (.que v e sz n xs) (by rw [h2];simp)
 have hr0:=hr
 rcases hr.2 with ⟨rfl,h4⟩|⟨gb,off,cap,c,rfl,_⟩
 ·omega
 refine acl z.h h0 hi (k _ ?_)
 rw [h3]
 rw [h2] at S
 refine S.turn (x:=.que (.slice (some ⟨gb,off,none⟩) n cap) e sz n xs) (y:=.que _ e sz _ _) (ExtBut.refl _ _) (Que.drop hr0 (by omega)) fun j hj=>.inl ?_
 simp only [Asr.dom] at hj ⊢
 split at hj
 ·exact hj
 ·simp only [Option.map_some,kc] at hj;exact hj
end
theorem StX.mkS {P : Program} {X : Nat→Prop} {w0 w : World} {r : Gh} {L : List Asr} {t e : TypeId} {bytes : Nat} {kl : IntKind} {n : Int} {z : Value} (S : StX X w0 r w L) [hT : ApT P t e 1 bytes] [hz : ZrT P e [z]] {K : Value→World→Prop} (h0 : 0≤n) (hb : (bytes : Int)*n≤281474976710656)
  (h : ∀ b w',StX X w0 r w' (.cell b (List.replicate n.toNat z) e::L)→K (.slice (some ⟨b,0,none⟩) n.toNat n.toNat) w') : opW P w (Instr.makeSlice t (.int kl n) (.int kl n)) K:=
 aix hT.h hz.h h0 hb fun b w' hb e _ B=>h b w' (S.add e (by omega) B)
class aab (b : Nat) (L : List Asr) (c : outParam (List Value)) (T : outParam TypeId) (M : outParam (List Asr)) : Prop where
 h : L.Perm (.cell b c T::M)
instance {b : Nat} {c : List Value} {T : TypeId} {L : List Asr} : aab b (.cell b c T::L) c T L:=⟨.refl _⟩
instance (priority:=low) {b : Nat} {c : List Value} {T : TypeId} {x : Asr} {L M : List Asr} [h : aab b L c T M] : aab b (x::L) c T (x::M):=⟨(h.h.cons x).trans (.swap _ _ _)⟩
theorem StX.permO {X : Nat→Prop} {w0 w : World} {r : Gh} {L M : List Asr} (S : StX X w0 r w L) (h : M.Perm L) : StX X w0 r w M:=
 ⟨S.x,S.holds,fun x hx=>S.has x (h.subset hx),fun x hx=>S.mine x (h.subset hx),h.symm.pairwise S.apart fun hab k hb ha=>hab k ha hb⟩
theorem StX.frzAt {X : Nat→Prop} {w0 w : World} {r : Gh} {L M : List Asr} (S : StX X w0 r w L) (b : Nat) {c : List Value} {T : TypeId} [h : aab b L c T M] : StX X w0 (r.or (one b c T)) w M:=
 (S.permO h.h.symm).frz
theorem StX.drop {X : Nat→Prop} {w0 w : World} {r : Gh} {L M : List Asr} (S : StX X w0 r w L) (b : Nat) {c : List Value} {T : TypeId} [h : aab b L c T M] : StX X w0 r w M:=
 (S.permO h.h.symm).tl
end Go.Sh
end
section
namespace Go.Sh
open Go.RowKit
set_option linter.unusedSimpArgs false
set_option linter.unusedVariables false
theorem zg {w : World} {A : (List Value→World→Prop)→Prop} {Z : Value→World→Prop} {b c : Bool} (hA : b=true→∀ K : List Value→World→Prop,K [.bool c] w→A K) (hZ : Z (.bool (b&&c)) w) :
  za (fun K=>gIf (.bool b) true (A K) (K [undef] w)) fun s _ w'=>zb (.bool b) (s.getD 0 undef) (.bool false) fun t=>Z t w':=by
 intro K hK
 cases b with
 |true=>exact hA rfl K (hK _ _ fun _=>⟨true,rfl,by simpa using hZ⟩)
 |false=>exact hK _ _ fun _=>⟨false,rfl,by simpa using hZ⟩
theorem zf {w : World} {A : (List Value→World→Prop)→Prop} {Z : Value→World→Prop} {b c : Bool} (hA : b=false→∀ K : List Value→World→Prop,K [.bool c] w→A K) (hZ : Z (.bool (b||c)) w) :
  za (fun K=>gIf (.bool b) false (A K) (K [undef] w)) fun s _ w'=>zb (.bool b) (.bool true) (s.getD 0 undef) fun t=>Z t w':=by
 intro K hK
 cases b with
 |true=>exact hK _ _ fun _=>⟨true,rfl,by simpa using hZ⟩
 |false=>exact hA rfl K (hK _ _ fun _=>⟨false,rfl,by simpa using hZ⟩)
section
variable {P : Program} {w : World} {t : TypeId} {c : Bool} {K : Value→Prop}
end
end Go.Sh
namespace Go.Sh
section
variable {P : Program} {w : World} {f : FuncId} {K : Value→World→Prop} {Kp : List PanicEntry→World→Prop}
end
end Go.Sh
end
section
namespace Go.Proofs
open Go.Sh
set_option maxRecDepth 100000
section
variable {X : Nat→Prop} {w0 w : World} {r : Gh} {L : List Asr} {rb : Nat} {s p : List UInt8} {a : Nat} {K : Value→World→Prop} {Kp : List PanicEntry→World→Prop}
end
end Go.Proofs
end
section
namespace Go.Proofs
open Go.Sh
set_option maxRecDepth 100000
section
variable {X : Nat→Prop} {w0 w : World} {r : Gh} {L : List Asr} {rb : Nat} {s : List UInt8} {a : Nat} {K : Value→World→Prop} {Kp : List PanicEntry→World→Prop}
end
end Go.Proofs
end
section
namespace Go.Proofs
open Go.Sh
set_option linter.unusedVariables false
set_option linter.unusedSimpArgs false
namespace Gr
variable {α β : Type}
end Gr
end Go.Proofs
end
section
namespace Go.Proofs
open Go.Sh
set_option maxRecDepth 100000
inductive Jv : Gh→Value→TyD→Prop
 |nil {sn : Gh} {v : Value} {k re st : Int} {m : Bool} : Jv sn v (.mk k m re st [])
 |one {sn : Gh} {b : Nat} {c : List Value} {k re st : Int} {m : Bool} {u : TyD} (no : ∀ o,¬ sn b o) (hc : c.length=5) (ht : TyG sn (.agg c.toArray) u) (h : Jv sn (.agg c.toArray) u) :
  Jv (sn.or (one b c 57)) (.agg #[.int .u8 k,.bool m,.int .i64 re,.int .i64 st,.slice (some ⟨b,0,none⟩) 1 1]) (.mk k m re st [u])
theorem agj {r : Gh} {v : Value} {u : TyD} {b : Nat} {k re st : Int} {m : Bool} (h : TyG r v u) :
  TyG (r.or (one b v.cells.toList 57)) (.agg #[.int .u8 k,.bool m,.int .i64 re,.int .i64 st,.slice (some ⟨b,0,none⟩) 1 1]) (.mk k m re st [u]):=by
 obtain ⟨c,rfl,hc,hr⟩:=h.rep
 refine ⟨_,1,rfl,by simp,Nat.le_refl _,?_⟩
 refine ⟨⟨c,hc,fun j x hj=>⟨b,0,rfl,fun w hw=>?_⟩,hr.up⟩,trivial⟩
 have B:=yF (b:=b) (c:=(Value.agg c.toArray).cells.toList) (T:=57) w (hw.le (h:=inferInstance))
 show w.cell? ⟨b,0+0*5+j,none⟩=some x
 rw [show 0+0*5+j=j by omega,B.cell]
 exact hj
theorem yh {r : Gh} {k re st : Int} {m : Bool} : TyG r (.agg #[.int .u8 k,.bool m,.int .i64 re,.int .i64 st,.slice none 0 0]) (.mk k m re st []):=
 ⟨none,0,rfl,fun _=>rfl,Nat.le_refl _,trivial⟩
section
variable {X : Nat→Prop} {w0 w : World} {r : Gh} {L : List Asr} {rb : Nat} {s p : List UInt8} {a : Nat} {K : Value→World→Prop} {Kp : List PanicEntry→World→Prop}
end
end Go.Proofs
end
section
namespace Go.Proofs
open Go.Sh
set_option maxRecDepth 100000
set_option linter.unusedSimpArgs false
section
variable {X : Nat→Prop} {w0 w : World} {r : Gh} {L : List Asr} {rb : Nat} {s p : List UInt8} {a : Nat} {K : Value→World→Prop} {Kp : List PanicEntry→World→Prop}
end
end Go.Proofs
end
section
namespace Go.Proofs
open Go.Sh
set_option maxRecDepth 100000
set_option linter.unusedSimpArgs false
end Go.Proofs
end
section
namespace Go.Proofs
open Go.Sh
set_option maxRecDepth 100000
set_option linter.unusedSimpArgs false
def zD : TyD:=.mk 0 false 0 0 []
end Go.Proofs
end
section
namespace Go.Proofs
open Go.Sh
set_option maxRecDepth 100000
set_option linter.unusedSimpArgs false
section
variable {X : Nat→Prop} {w0 w : World} {r : Gh} {L : List Asr} {rb : Nat} {s p : List UInt8} {a : Nat} {st : Bool} {K : Value→World→Prop}
end
end Go.Proofs
end
section
namespace Go.Proofs
open Go.Sh
set_option maxRecDepth 100000
set_option linter.unusedSimpArgs false
section
variable {X : Nat→Prop} {w0 w : World} {r : Gh} {L : List Asr} {rb : Nat} {s p : List UInt8} {a : Nat} {st : Bool} {K : Value→World→Prop}
end
end Go.Proofs
end
section
namespace Go.Proofs
open Go.Sh
set_option maxRecDepth 100000
set_option linter.unusedSimpArgs false
theorem _root_.Go.Sh.StX.perm {X : Nat→Prop} {w0 w : World} {r : Gh} {L M : List Asr} (S : StX X w0 r w L) (hp : L.Perm M) : StX X w0 r w M:=
 ⟨S.x,S.holds,fun z hz=>S.has z (hp.mem_iff.2 hz),fun z hz=>S.mine z (hp.mem_iff.2 hz),(List.Perm.pairwise_iff (fun h k h1 h2=>h k h2 h1) hp).1 S.apart⟩
section
variable {X : Nat→Prop} {w0 w : World} {r : Gh} {L : List Asr} {rb : Nat} {s p : List UInt8} {a : Nat} {K : Value→World→Prop}
end
end Go.Proofs
end
section
namespace Go.Proofs
open Go.Sh
set_option maxRecDepth 100000
set_option linter.unusedSimpArgs false
set_option linter.unusedVariables false
end Go.Proofs
end
section
namespace Go.Proofs
open Go.Sh
set_option maxRecDepth 100000
set_option linter.unusedSimpArgs false
set_option linter.unusedVariables false
mutual
def TyD.few : TyD→Prop
 |.mk _ _ _ _ of=>of.length≤3∧TyD.fews of
def TyD.fews : List TyD→Prop
 |[]=>True
 |t::l=>TyD.few t∧TyD.fews l
end
theorem TyD.fews_mem : ∀ {l : List TyD},TyD.fews l→∀ t ∈ l,t.few
 |[],_,t,h=>by cases h
 |x::l,h,t,ht=>by
  rcases List.mem_cons.1 ht with rfl|ht
  ·exact h.1
  ·exact TyD.fews_mem h.2 t ht
theorem TyD.few_of {t : TyD} (h : t.few) : t.of.length≤3∧∀ u ∈ t.of,u.few:=by
 cases t with|mk k m re st of=>exact ⟨h.1,TyD.fews_mem h.2⟩
end Go.Proofs
end
section
namespace Go.Proofs
open Go.Sh
set_option maxRecDepth 100000
set_option linter.unusedSimpArgs false
set_option linter.unusedVariables false
inductive ChnL : List Value→TyD→List Asr→Prop
 |nil {k re st : Int} {m : Bool} : ChnL [.int .u8 k,.bool m,.int .i64 re,.int .i64 st,.slice none 0 0] (.mk k m re st []) []
 |one {b : Nat} {c : List Value} {k re st : Int} {m : Bool} {u : TyD} {L : List Asr} (h : ChnL c u L) :
  ChnL [.int .u8 k,.bool m,.int .i64 re,.int .i64 st,.slice (some ⟨b,0,none⟩) 1 1] (.mk k m re st [u]) (.cell b c 57::L)
theorem ChnL.len {c : List Value} {t : TyD} {L : List Asr} (h : ChnL c t L) : c.length=5:=by cases h<;>rfl
theorem ChnL.ones {c : List Value} {t : TyD} {L : List Asr} (h : ChnL c t L) : ∀ u ∈ c,u.oneCell'=true:=by
 cases h<;>simp [Value.oneCell']
theorem ChnL.frz {X : Nat→Prop} {w0 w : World} {c : List Value} {t : TyD} {N : List Asr} (h : ChnL c t N) : ∀ {r : Gh} {L : List Asr},StX X w0 r w (N++L)→
  ∃ sn,StX X w0 (r.or sn) w L∧TyG sn (.agg c.toArray) t∧Jv sn (.agg c.toArray) t∧(∀ b o,sn b o→w0.heap.size≤b∨X b):=by
 induction h with
 |nil=>
  intro r L S
  exact ⟨nothing,S.to _,yh,.nil,fun _ _ h=>h.elim⟩
 |@one b c k re st m u N hu ih=>
  intro r L S
  have S : StX X w0 r w (N++(.cell b c 57::L)):=S.perm List.perm_middle.symm
  obtain ⟨sn,S,ht,hg,hf⟩:=ih S
  have hm:=S.mine (.cell b c 57) (by simp) b rfl
  have S:=S.frz
  refine ⟨sn.or (Go.Sh.one b c 57),S.to _,agj ht,.one (fun o ho=>hm.2 o (.inr ho)) hu.len ht hg,fun b' o ho=>?_⟩
  rcases ho with ho|⟨rfl,_⟩
  ·exact hf b' o ho
  ·exact hm.1
section
variable {X : Nat→Prop} {w0 w : World} {r : Gh} {L : List Asr}
theorem VQ {s : Int} : ∀ (n : Nat) {t : TyD} {w : World} {r : Gh} {L : List Asr} {v : Value} {K : Value→World→Prop},n≤1000→zz s n t=true→StX X w0 r w L→TyG r v t→
  (∀ c N w',ChnL c t N→StX X w0 r w' (N++L)→K (.agg c.toArray) w')→zd Tryz.prog Tryz.jo #[v] w K:=by
 intro n
 induction n with
 |zero=>intro t w r L v K _ h;cases h
 |succ n ih=>
  intro t w r L v K hn hl S hv h
  refine Tryz.ad3 ?_
  unfold Tryz.VL
  obtain ⟨p,cap,rfl,_,_,hof⟩:=hv
  refine S.box fun b1 w1 S=>?_
  have S : StX X w0 r w1 (.cell b1 [.int .u8 t.k,.bool t.m,.int .i64 t.re,.int .i64 t.st,.slice p t.of.length cap] 57::L):=S
  refine S.al fun b2 w2 S=>?_
  refine zu (fun _ w'=>∃ q m N,ChnL [.int .u8 t.k,.bool t.m,.int .i64 t.re,.int .i64 t.st,.slice q m m] t N∧StX X w0 r w' (N++(.cell b2 [.int .u8 0,.bool false,.int .i64 0,.int .i64 0,.slice none 0 0] 57 :: .cell b1 [.int .u8 t.k,.bool t.m,.int .i64 t.re,.int .i64 t.st,.slice q m m] 57::L))) (fun K2 hK2=>?_) ?_
  ·have he : t = .mk t.k t.m t.re t.st t.of:=by cases t;rfl
   refine gG_ ?_
   rcases zS hl with ⟨ho,_⟩|⟨u,ho,hu,_⟩
   ·refine c_f (by rw [ho];rfl) ?_
    refine gG_ ?_
    refine S.st fun w3 S=>?_
    refine hK2 [] _ ⟨none,0,[],?_,S⟩
    have : ChnL [.int .u8 t.k,.bool t.m,.int .i64 t.re,.int .i64 t.st,.slice none 0 0] (.mk t.k t.m t.re t.st []) []:=.nil
    rw [ho] at he
    rw [← he] at this
    exact this
   ·have hlen : t.of.length=1:=by rw [ho];rfl
    obtain ⟨ba,oa,rfl,c,hc,hcell,ht⟩:=NdG.of hof (i:=0) (by omega)
    have ht : TyG r (.agg c.toArray) u:=by simpa [ho] using ht
    refine c_t (by rw [hlen];rfl) ?_
    refine gG_ ?_
    refine zq (n:=5) hc (fun j v hj=>by simpa using S.at (hcell j v hj)) ?_
    refine ih (by omega) hu S ht fun c' N w3 hch S=>?_
    refine S.lit (e:=57) (cs:=c') (by
     cases hch<;>kernel_rfl) fun b9 w4 S=>?_
    have S : StX X w0 r w4 (.cell b1 [.int .u8 t.k,.bool t.m,.int .i64 t.re,.int .i64 t.st,.slice (some ⟨ba,oa,none⟩) t.of.length cap] 57::(.cell b9 c' 57::N++(.cell b2 [.int .u8 0,.bool false,.int .i64 0,.int .i64 0,.slice none 0 0] 57::L))):=S.perm (by
     refine (List.Perm.cons _ ?_).trans (.swap _ _ _)
     refine (List.perm_append_comm_assoc N [_] _).trans ?_
     refine (List.Perm.append_left [_] ((List.perm_append_comm_assoc N [_] _))).trans ?_
     refine (List.Perm.swap _ _ _).trans ?_
     refine List.Perm.cons _ ?_
     exact (List.perm_append_comm_assoc [_] N L))
    refine gG_ ?_
    refine S.st fun w5 S=>?_
    have hch' : ChnL [.int .u8 t.k,.bool t.m,.int .i64 t.re,.int .i64 t.st,.slice (some ⟨b9,0,none⟩) 1 1] (.mk t.k t.m t.re t.st [u]) (.cell b9 c' 57::N):=.one hch
    rw [ho] at he
    rw [← he] at hch'
    refine hK2 [] _ ⟨_,_,_,hch',S.perm ?_⟩
    have:=List.perm_middle (a:=Asr.cell b1 [.int .u8 t.k,.bool t.m,.int .i64 t.re,.int .i64 t.st,.slice (some ⟨b9,0,none⟩) 1 1] 57) (l₁:=.cell b9 c' 57::N ++ [.cell b2 [.int .u8 0,.bool false,.int .i64 0,.int .i64 0,.slice none 0 0] 57]) (l₂:=L)
    simpa using this.symm
  rintro _ w6 ⟨q,m,N,hch,S⟩ d6
  have S : StX X w0 r w6 (.cell b2 [.int .u8 0,.bool false,.int .i64 0,.int .i64 0,.slice none 0 0] 57 :: .cell b1 [.int .u8 t.k,.bool t.m,.int .i64 t.re,.int .i64 t.st,.slice q m m] 57::(N++L)):=S.perm (by
   refine (List.perm_append_comm_assoc N [_] _).trans ?_
   exact List.Perm.cons _ (List.perm_append_comm_assoc N [_] _))
  refine gG_ ?_
  refine S.stB fun w7 S=>?_
  refine gG_ ?_
  exact h _ N _ hch S.tl.tl
theorem aeU {t : TyD} {w : World} {r : Gh} {v : Value} {K : Value→World→Prop} (hr : Holds r w) (hv : TyG r v t)
  (h : ∀ v' sn w',Ext w w'→New w sn w'→TyG sn v' (if isB t then t else zD)→Jv sn v' (if isB t then t else zD)→K (.tuple #[v',.int .i64 (if isB t then 0 else 2)]) w') : zd Tryz.prog Tryz.XA #[v] w K:=by
 refine Tryz.ad1 ?_
 unfold Tryz.VJ
 have hv0:=hv
 obtain ⟨p,cap,rfl,_⟩:=hv
 have S:=St.start hr
 refine S.box fun b1 w1 S=>?_
 refine S.al fun b2 w2 S=>?_
 refine gG_ ?_
 refine ki S.holds hv0 fun w3 e3=>?_
 have S:=S.go e3
 refine gG_ ?_
 refine c_b (fun hn=>?_) (fun hn=>?_)
 ·have hn : isB t=false:=by simpa using hn
  rw [hn] at h
  refine zx (cs:=#[.int .u8 0,.bool false,.int .i64 0,.int .i64 0,.slice none 0 0]) (by kernel_rfl) ?_
  refine S.stB fun w4 S=>?_
  refine gG_ ?_
  exact h _ nothing _ S.ext New.nothing yh .nil
 ·have hn : isB t=true:=by simpa using hn
  rw [hn] at h
  refine gG_ ?_
  refine VQ 48 (by decide) hn S hv0 fun c N w4 hch S=>?_
  obtain ⟨sn,S,ht,hg,hf⟩:=hch.frz S
  have hl:=hch.len
  have hone:=hch.ones
  refine S.stB (cs:=c.toArray) (fun w5 S=>?_) rfl (by simpa using hl) (by simpa using hone)
  refine S.ceB ?_ hl
  exact h _ sn _ S.ext ⟨S.holds.le (h:=inferInstance),fun b o hb=>(hf b o hb).elim id fun h=>h.elim⟩ ht hg
end
end Go.Proofs
end
section
namespace Go.Proofs
open Go.Sh
set_option maxRecDepth 100000
set_option linter.unusedSimpArgs false
set_option linter.unusedVariables false
mutual
def TyD.lay : List Int→TyD→TyD
 |l,.mk k m re st of=>.mk k m (if k=4 then l.headD 0 else re) st (TyD.lays (if k=4 then l.tail else l) of)
def TyD.lays : List Int→List TyD→List TyD
 |_,[]=>[]
 |l,t::r=>TyD.lay l t::TyD.lays l r
end
theorem aac {t : TyD} (h : t.of = []) : t.regs=if t.k=4 then [t.re] else []:=by
 rw [TyD.regs_eq,h];simp [TyD.chains,TyD.regsL]
theorem aad {t u : TyD} (h : t.of = [u]) : t.regs=(if t.k=4 then [t.re] else [])++u.regs:=by
 rw [TyD.regs_eq,h];rfl
theorem Xr {t : TyD} (h : isB t=true) : t.regs.length≤48:=by
 have h1:=acm 48 (Vi h)
 rw [TyD.regs,TyD.regsL,List.length_map]
 exact Nat.le_trans (List.length_filter_le _ _) h1
end Go.Proofs
end
section
namespace Go.Proofs
open Go.Sh
set_option maxRecDepth 100000
set_option linter.unusedSimpArgs false
set_option linter.unusedVariables false
theorem Yn {w : World} {p : Option Addr} {l : List Int} (h : Sl w p (ints l)) {i : Nat} (hi : i<l.length) : ∃ b off,p=some ⟨b,off,none⟩∧w.cell? ⟨b,off+i,none⟩=some (.int .i64 l[i]):=by
 obtain ⟨b,off,hp,hc⟩:=h.at (i:=i) (by rw [qQ];exact hi)
 refine ⟨b,off,hp,?_⟩
 rw [hc];simp [ints]
end Go.Proofs
end
section
namespace Go.Proofs
open Go.Sh
set_option maxRecDepth 100000
set_option linter.unusedSimpArgs false
set_option linter.unusedVariables false
end Go.Proofs
end
section
namespace Go.Proofs
open Go.Sh
set_option maxRecDepth 100000
set_option linter.unusedSimpArgs false
set_option linter.unusedVariables false
structure StD where
 name : ByteArray
 fs : List (ByteArray × TyD)
def ad9 (f : ByteArray × TyD) : Dat:=.agg [.str f.1,f.2.dat]
def StD.dat (s : StD) : Dat:=.agg [.str s.name,.sl 6 (s.fs.map ad9)]
def FlG (r : Gh) (p : Option Addr) (fs : List (ByteArray × TyD)) : Prop:=RepS r 6 p 0 (fs.map ad9)
def StG (r : Gh) (p : Option Addr) (ss : List StD) : Prop:=RepS r 2 p 0 (ss.map StD.dat)
theorem StG.up {r s : Gh} {p : Option Addr} {ss : List StD} (h : StG r p ss) [l : Le r s] : StG s p ss:=RepS.up' l h
theorem kP {r : Gh} {p : Option Addr} {fs : List (ByteArray × TyD)} (h : FlG r p fs) {k : Nat} (hk : k<fs.length) : ∃ b off c,p=some ⟨b,off,none⟩∧c.length=5∧
  (∀ j v,(Value.string fs[k].1::c)[j]? = some v→Ob r fun w=>w.cell? ⟨b,off+k*6+j,none⟩=some v)∧TyG r (.agg c.toArray) fs[k].2:=by
 obtain ⟨c,h1,h2,h3⟩:=RepS.get h (i:=k) (d:=ad9 fs[k]) (by rw [List.getElem?_map,List.getElem?_eq_getElem hk];rfl)
 obtain ⟨a1,b1,rfl,e1,a2,b2,rfl,e2,e3⟩:=h3
 obtain rfl : a1=_:=e1
 obtain rfl : b2 = []:=e3
 rw [List.append_nil] at h1 h2
 obtain ⟨b,off,rfl,_⟩:=h2 0 _ rfl
 refine ⟨b,off,a2,rfl,by simpa using h1,fun j v hj=>?_,TyG.of_rep e2⟩
 obtain ⟨b',off',hp,ho⟩:=h2 j v hj
 cases hp
 rwa [Nat.zero_add] at ho
theorem xP {r : Gh} {p : Option Addr} {ss : List StD} (h : StG r p ss) {i : Nat} (hi : i<ss.length) : ∃ b off q cap,p=some ⟨b,off,none⟩∧
  (Ob r fun w=>w.cell? ⟨b,off+i*2+1,none⟩=some (.slice q ss[i].fs.length cap))∧(q=none→cap=0)∧ss[i].fs.length≤cap∧FlG r q ss[i].fs:=by
 obtain ⟨c,h1,h2,h3⟩:=RepS.get h (i:=i) (d:=StD.dat ss[i]) (by rw [List.getElem?_map,List.getElem?_eq_getElem hi];rfl)
 obtain ⟨a1,b1,rfl,e1,a2,b2,rfl,e2,e3⟩:=h3
 obtain rfl : a1=_:=e1
 obtain rfl : b2 = []:=e3
 obtain ⟨q,cap,rfl,hq,hc,hf⟩:=e2
 rw [List.length_map] at hc h2
 obtain ⟨b,off,rfl,_⟩:=h2 0 _ rfl
 obtain ⟨b',off',hp,ho⟩:=h2 1 (.slice q ss[i].fs.length cap) (by rfl)
 cases hp
 rw [Nat.zero_add] at ho
 exact ⟨b,off,q,cap,rfl,ho,hq,hc,hf⟩
def ze (ss : List StD) (k : Int) : List TyD:=match ss[k.toNat]? with|some s=>s.fs.map (·.2)|none=>[]
def Kid (ss : List StD) (k j : Int) : Prop:=∃ t ∈ ze ss k,t.k=5∧t.st=j
inductive Rch (ss : List StD) : Int→Int→Prop
 |one {k j : Int} : Kid ss k j→Rch ss k j
 |more {k j i : Int} : Rch ss k j→Kid ss j i→Rch ss k i
theorem Rch.trans {ss : List StD} {a b c : Int} (h : Rch ss a b) (k : Rch ss b c) : Rch ss a c:=by
 induction k with
 |one e=>exact .more h e
 |more _ e ih=>exact .more ih e
def xQ (ss : List StD) : Prop:=∀ k,∀ t ∈ ze ss k,zz ss.length 48 t=true
theorem qY {n : Int} {m : Nat} {t : TyD} (h : zz n (m+1) t=true) (hk : t.k=5) : 0≤t.st∧t.st<n∧t.of = []:=by
 rw [xE] at h
 rw [if_neg (by omega),if_pos hk] at h
 simp only [Bool.and_eq_true,decide_eq_true_eq] at h
 exact ⟨h.1.2,h.2,List.eq_nil_of_length_eq_zero h.1.1.2⟩
theorem vA {ss : List StD} (hg : xQ ss) {k j : Int} (h : Kid ss k j) : 0≤j∧j<ss.length:=by
 obtain ⟨t,ht,h5,rfl⟩:=h
 have:=qY (hg k t ht) h5
 exact ⟨this.1,this.2.1⟩
theorem aaU {ss : List StD} (hg : xQ ss) {k j : Int} (h : Rch ss k j) : 0≤j∧j<ss.length:=by
 cases h with
 |one h=>exact vA hg h
 |more _ h=>exact vA hg h
open Classical in
noncomputable def rkS (ss : List StD) (k : Int) : Nat:=(List.range ss.length).countP fun j : Nat=>decide (Rch ss k (j : Int))
noncomputable def rkT (ss : List StD) (t : TyD) : Nat:=if t.k=5 then rkS ss t.st+1 else 0
open Classical in
theorem aaV (ss : List StD) (t : TyD) : rkT ss t≤ss.length+1:=by
 unfold rkT rkS
 split
 ·have:=List.countP_le_length (p:=fun j : Nat=>decide (Rch ss t.st (j : Int))) (l:=List.range ss.length)
  rw [List.length_range] at this
  omega
 ·omega
theorem aco {p q : Nat→Bool} : ∀ {l : List Nat},(∀ x ∈ l,p x=true→q x=true)→(∃ x ∈ l,p x=false∧q x=true)→l.countP p<l.countP q
 |[],_,h=>by obtain ⟨x,hx,_⟩:=h;cases hx
 |a::l,h1,h2=>by
  rw [List.countP_cons,List.countP_cons]
  have hle : l.countP p≤l.countP q:=List.countP_mono_left fun x hx=>h1 x (List.mem_cons_of_mem _ hx)
  have ha:=h1 a List.mem_cons_self
  by_cases hex : ∃ x ∈ l,p x=false∧q x=true
  ·have:=aco (fun x hx=>h1 x (List.mem_cons_of_mem _ hx)) hex
   cases hp : p a<;>cases hq : q a<;>simp_all<;>omega
  ·obtain ⟨x,hx,hx1,hx2⟩:=h2
   rcases List.mem_cons.1 hx with rfl|hx
   ·rw [hx1,hx2];simp;omega
   ·exact absurd ⟨x,hx,hx1,hx2⟩ hex
open Classical in
theorem aaW {ss : List StD} (hg : xQ ss) (hac : ∀ k,¬ Rch ss k k) {t u : TyD} (h5 : t.k=5) (hu : u ∈ ze ss t.st) : rkT ss u<rkT ss t:=by
 unfold rkT
 rw [if_pos h5]
 split
 ·rename_i hu5
  have hk : Kid ss t.st u.st:=⟨u,hu,hu5,rfl⟩
  have hin:=vA hg hk
  have:=aco (p:=fun j : Nat=>decide (Rch ss u.st (j : Int))) (q:=fun j : Nat=>decide (Rch ss t.st (j : Int))) (l:=List.range ss.length)
   (fun x _ hx=>decide_eq_true (Rch.trans (.one hk) (of_decide_eq_true hx)))
   ⟨u.st.toNat,List.mem_range.2 (by omega),decide_eq_false (by rw [Int.toNat_of_nonneg hin.1];exact hac _),decide_eq_true (by rw [Int.toNat_of_nonneg hin.1];exact .one hk)⟩
  unfold rkS
  omega
 ·omega
def ya : List Nat→Nat
 |[]=>0
 |x::l=>x+ya l
theorem XG : ∀ (a b : List Nat),ya (a++b)=ya a+ya b
 |[],b=>by simp [ya]
 |x::a,b=>by simp only [List.cons_append,ya,XG a b];omega
def wF (ss : List StD) : Nat→TyD→Nat
 |0,_=>1
 |m+1,t=>if t.k=5 then ya ((ze ss t.st).map (wF ss m)) else 1
def dF (ss : List StD) : Nat→TyD→Bool
 |0,t=>decide (t.k=3)
 |m+1,t=>if t.k=5 then (ze ss t.st).any (dF ss m) else decide (t.k=3)
def xu (n : Nat) (p : Nat→Bool) : Nat:=((List.range n).find? p).getD n
theorem qR {n : Nat} {p : Nat→Bool} (h : ∀ j,j<n→p j=false) : xu n p=n:=by
 rw [xu,List.find?_eq_none.2 (by intro x hx;rw [h x (List.mem_range.1 hx)];decide)];rfl
theorem qS {n i : Nat} {p : Nat→Bool} (hi : i<n) (hp : p i=true) (h : ∀ j,j<i→p j=false) : xu n p=i:=by
 have : (List.range n).find? p=some i:=by
  rw [List.find?_range_eq_some]
  exact ⟨hp,List.mem_range.2 hi,fun j hj=>by rw [h j hj];rfl⟩
 rw [xu,this];rfl
theorem qZ {n : Nat} {p : Nat→Bool} (h : ¬ xu n p<n) : ∀ j,j<n→p j=false:=by
 intro j hj
 by_cases hp : ∀ j,j<n→p j=false
 ·exact hp j hj
 ·exfalso
  apply h
  unfold xu
  cases hf : (List.range n).find? p with
  |none=>
   exfalso;apply hp
   intro j hj
   have:=List.find?_eq_none.1 hf j (List.mem_range.2 hj)
   simpa using this
  |some x=>exact List.mem_range.1 (List.mem_of_find?_eq_some hf)
def xb (ss : List StD) (k : Nat) : Bool:=
 (decide ((ze ss k).length<1)||decide (8<(ze ss k).length))||(ze ss k).any fun t=>!zz ss.length 48 t||decide (0<t.regs.length)
open Classical in
noncomputable def qj (ss : List StD) (k : Nat) : Bool:=decide (Rch ss k k)
def Zf (ss : List StD) (k : Nat) : Bool:=decide (16<wF ss 40 (.mk 5 false 0 k []))
noncomputable def zw (ss : List StD) : Int × Int:=
 if 32<ss.length then (32,2)
 else if xu ss.length (xb ss)<ss.length then (xu ss.length (xb ss),2)
 else if xu ss.length (qj ss)<ss.length then (xu ss.length (qj ss),2)
 else if xu ss.length (Zf ss)<ss.length then (xu ss.length (Zf ss),2)
 else (0,0)
theorem yA {ss : List StD} {i : Nat} (hi : i<ss.length) : ze ss i=ss[i].fs.map (·.2):=by
 rw [ze,Int.toNat_natCast,List.getElem?_eq_getElem hi]
theorem ZD {ss : List StD} {i : Nat} (hi : i<ss.length) : (ze ss i).length=ss[i].fs.length:=by
 rw [yA hi,List.length_map]
theorem acp {ss : List StD} {k : Int} (h : ¬ k.toNat<ss.length) : ze ss k = []:=by
 rw [ze,List.getElem?_eq_none (by omega)]
theorem X6 {ss : List StD} (h : ∀ k,k<ss.length→xb ss k=false) : xQ ss:=by
 intro k t ht
 by_cases hk : k.toNat<ss.length
 ·have:=h k.toNat hk
  have e : ze ss (k.toNat : Int)=ze ss k:=by rw [ze,ze,Int.toNat_natCast]
  rw [xb,e,Bool.or_eq_false_iff] at this
  have:=List.any_eq_false.1 this.2 t ht
  simp only [Bool.or_eq_true,Bool.not_eq_true',not_or] at this
  simpa using this.1
 ·rw [acp hk] at ht;cases ht
theorem Vj {ss : List StD} (hg : xQ ss) (h : ∀ k,k<ss.length→qj ss k=false) : ∀ k,¬ Rch ss k k:=by
 intro k hk
 have hin:=aaU hg hk
 have:=h k.toNat (by omega)
 rw [qj,decide_eq_false_iff_not,Int.toNat_of_nonneg hin.1] at this
 exact this hk
theorem xF {ss : List StD} (h : (zw ss).2=0) : ss.length≤32∧(∀ k,k<ss.length→xb ss k=false)∧xQ ss∧(∀ k,¬ Rch ss k k)∧(∀ k,k<ss.length→Zf ss k=false)∧zw ss=(0,0):=by
 unfold zw at h ⊢
 split at h
 ·cases h
 split at h
 ·cases h
 split at h
 ·cases h
 split at h
 ·cases h
 rename_i h1 h2 h3 h4
 have g:=X6 (qZ h2)
 refine ⟨by omega,qZ h2,g,Vj g (qZ h3),qZ h4,?_⟩
 rw [if_neg h1,if_neg h2,if_neg h3,if_neg h4]
end Go.Proofs
end
section
namespace Go.Proofs
open Go.Sh
set_option maxRecDepth 100000
set_option linter.unusedSimpArgs false
set_option linter.unusedVariables false
theorem Jw {α : Type} (f : α→Nat) {l : List α} {i : Nat} (hi : i<l.length) : ya ((l.take (i+1)).map f)=ya ((l.take i).map f)+f l[i]:=by
 rw [List.take_succ_eq_append_getElem hi,List.map_append,XG];simp [ya]
theorem abR {α : Type} (f : α→Nat) (l : List α) (i : Nat) : ya ((l.take i).map f)≤ya (l.map f):=by
 have:=congrArg (fun l=>ya (l.map f)) (List.take_append_drop i l)
 simp only [List.map_append,XG] at this
 rw [← this]
 exact Nat.le_add_right _ _
theorem aae {r : Gh} {c : List Value} {s : ByteArray} {t : TyD} (h : TyG r (.agg c.toArray) t) : ∀ u ∈ (Value.string s::c).toArray.toList,u.oneCell'=true:=by
 intro u hu
 rcases List.mem_cons.1 (by simpa using hu) with rfl|hu
 ·rfl
 ·exact aff h u (by simpa using hu)
theorem _root_.Go.Sh.StX.fty {X : Nat→Prop} {w0 w : World} {r : Gh} {L : List Asr} {f : List Value→List Asr} {T : TypeId} {b : Nat} {s : ByteArray} {c : List Value} (S : StX X w0 r w L) [h : At b L (.string s::c) T f] (hc : c.length=5) {K : Value→Prop} (k : K (.agg c.toArray)) :
  opQ Tryz.prog w (Instr.loadAt 57 (.pointer (some ⟨b,0+1,none⟩))) K:=
 S.ldN (h:=h) (n:=5) (vs:=c) k (by rw [List.drop_succ_cons,List.drop_zero,List.take_of_length_le (by omega)]) hc
theorem acQ {ss : List StD} {p : Option Addr} {cap : Nat} (hg : xQ ss) (hac : ∀ k,¬ Rch ss k k) : ∀ (m : Nat) {t : TyD} {w : World} {r : Gh} {v : Value} {K : Value→World→Prop},m≤100→rkT ss t≤m→zz ss.length 48 t=true→ss.length≤32→(∀ k,(ze ss k).length≤8)→
  Holds r w→StG r p ss→TyG r v t→(∀ w',Ext w w'→K (.int .i64 (min (wF ss m t) 17 : Nat)) w')→zd Tryz.prog Tryz.jw #[.slice p ss.length cap,v] w K:=by
 intro m
 induction m with
 |zero=>
  intro t w r v K _ hrk hl h32 h8 hr hs hv h
  have h5 : ¬ t.k=5:=fun h=>by unfold rkT at hrk;rw [if_pos h] at hrk;omega
  refine Tryz.XV ?_
  unfold Tryz.ZU
  obtain ⟨p1,cap1,rfl,_⟩:=hv
  have S:=St.start hr
  refine S.box fun b3 w1 S=>?_
  refine gG_ ?_
  refine zh (fun _=>h _ S.ext) (fun hn=>absurd (by omega) h5)
 |succ m ih=>
  intro t w r v K hm hrk hl h32 h8 hr hs hv h
  refine Tryz.XV ?_
  unfold Tryz.ZU
  obtain ⟨p1,cap1,rfl,_⟩:=hv
  have S:=St.start hr
  refine S.box fun b3 w1 S=>?_
  refine gG_ ?_
  refine zh (fun hn=>?_) (fun h5=>?_)
  ·rw [wF,if_neg (by omega)] at h
   exact h _ S.ext
  have h5 : t.k=5:=by omega
  obtain ⟨hst0,hst1,_⟩:=qY hl h5
  have hlt : t.st.toNat<ss.length:=by omega
  obtain ⟨b,off,q,capq,rfl,hcell,_,_,hf⟩:=xP hs hlt
  refine gG_ ?_
  refine zp (S.at hcell) ?_
  have htl : ze ss t.st=ss[t.st.toNat].fs.map (·.2):=by
   rw [← yA hlt];simp only [ze,Int.toNat_natCast]
  have hlen : (ze ss t.st).length=ss[t.st.toNat].fs.length:=by rw [htl,List.length_map]
  have h88:=h8 t.st
  refine gG_ ?_
  refine zi (ι:=Nat) (fun i=>[.int .i64 (ya (((ze ss t.st).take i).map (wF ss m)) : Nat),.int .i64 i]) (fun i w'=>i≤(ze ss t.st).length∧ya (((ze ss t.st).take i).map (wF ss m))≤16∧St w r w' _)
   (fun i=>(ze ss t.st).length - i) 0 rfl ⟨Nat.zero_le _,by simp [ya],S⟩ ?_
  clear S
  rintro i d w2 ⟨hi,hsum,S⟩ K6 hK6
  rw [List.getD_cons_zero,List.getD_cons_succ,List.getD_cons_zero]
  refine gG_ ?_
  refine c_b (fun hlt2=>?_) (fun hge=>?_)
  ·have hlt2 : i<ss[t.st.toNat].fs.length:=by simpa using hlt2
   have hlt3 : i<(ze ss t.st).length:=by omega
   obtain ⟨b2,off2,c,rfl,hcl,hcc,hty⟩:=kP hf hlt2
   refine gG_ ?_
   refine zq (n:=6) (c:=.string ss[t.st.toNat].fs[i].1::c) (by simp [hcl]) (fun j v hj=>by rw [Int.toNat_natCast];exact S.at (hcc j v hj)) ?_
   refine S.al fun b7 w3 S=>?_
   refine S.stB (cs:=(Value.string ss[t.st.toNat].fs[i].1::c).toArray) (fun w4 S=>?_) rfl (by simp [hcl]) (aae hty)
   refine gP_ ?_
   refine S.fty hcl ?_
   have hel : (ze ss t.st)[i]=ss[t.st.toNat].fs[i].2:=by simp only [htl,List.getElem_map]
   have hmem : ss[t.st.toNat].fs[i].2 ∈ ze ss t.st:=by rw [← hel];exact List.getElem_mem hlt3
   have hrk2:=aaW hg hac h5 hmem
   refine ih (by omega) (by omega) (hg _ _ hmem) h32 h8 S.holds hs hty fun w5 e5=>?_
   have S:=(S.go e5).tl
   have hst:=Jw (wF ss m) hlt3
   rw [hel] at hst
   refine gP_ ?_
   refine gP_ ?_
   have htot : ya (((ze ss t.st).take (i+1)).map (wF ss m))≤wF ss (m+1) t:=by
    rw [wF,if_pos h5];exact abR _ _ _
   refine c_b (fun hbig=>?_) (fun hsm=>?_)
   ·have hbig : 16<ya (((ze ss t.st).take i).map (wF ss m))+min (wF ss m ss[t.st.toNat].fs[i].2) 17:=by
     have:=of_decide_eq_true hbig;omega
    have e : min (wF ss (m+1) t) 17=17:=by omega
    rw [e] at h
    exact h _ S.ext
   ·have hsm : ¬ 16<ya (((ze ss t.st).take i).map (wF ss m))+min (wF ss m ss[t.st.toNat].fs[i].2) 17:=by
     have:=of_decide_eq_false hsm;omega
    refine gP_ ?_
    have e : (ya (((ze ss t.st).take i).map (wF ss m)) : Int)+((min (wF ss m ss[t.st.toNat].fs[i].2) 17 : Nat) : Int)=(ya (((ze ss t.st).take (i+1)).map (wF ss m)) : Nat):=by omega
    rw [e,show ((i : Int)+1)=((i+1 : Nat) : Int) by omega]
    exact hK6 (i+1) _ ⟨hlt3,by omega,S⟩ (by omega)
  ·have hie : i=(ze ss t.st).length:=by
    have : ¬ i<ss[t.st.toNat].fs.length:=by simpa using hge
    omega
   rw [hie,List.take_length] at hsum ⊢
   have e : min (wF ss (m+1) t) 17=ya ((ze ss t.st).map (wF ss m)):=by
    rw [wF,if_pos h5];omega
   rw [e] at h
   exact h _ S.ext
def mt (met : List Bool) (j : Int) : Bool:=met.getD j.toNat false
def cf : List Bool→Nat
 |[]=>0
 |b::l=>(if b then 0 else 1)+cf l
theorem Jy : ∀ {l : List Bool} {i : Nat},l[i]? = some false→cf (l.set i true)+1=cf l
 |[],i,h=>by simp at h
 |b::l,0,h=>by
  simp only [List.getElem?_cons_zero,Option.some.injEq] at h
  subst h
  simp [cf];omega
 |b::l,i+1,h=>by
  have:=Jy (l:=l) (i:=i) (by simpa using h)
  simp only [List.set_cons_succ,cf];omega
theorem aea {met : List Bool} {i j : Int} (hi : 0≤i) (hj : 0≤j) (hlt : i.toNat<met.length) : mt (met.set i.toNat true) j=(decide (j=i)||mt met j):=by
 unfold mt
 rw [List.getD_eq_getElem?_getD,List.getD_eq_getElem?_getD,List.getElem?_set]
 by_cases h : i.toNat=j.toNat
 ·have : j=i:=by omega
  subst this
  simp [hlt]
 ·have : ¬ j=i:=fun e=>h (by rw [e])
  rw [if_neg h];simp [this]
structure QI (ss : List StD) (k : Int) (N : Nat) (W : List Int) (met : List Bool) (x : Option (Int × Nat)) : Prop where
 len : met.length=N
 dom : ss.length≤N
 rng : ∀ y ∈ W,0≤y∧y<ss.length
 s1 : ∀ j,0≤j→mt met j=true→Rch ss k j
 s2 : ∀ y ∈ W,y=k∨mt met y=true
 s3 : ∀ y,0≤y→(y=k∨mt met y=true)→y ∉ W→(∀ q,x=some q→y≠q.1)→∀ j,Kid ss y j→mt met j=true
 s4 : ∀ q,x=some q→(q.1=k∨Rch ss k q.1)∧∀ t ∈ (ze ss q.1).take q.2,t.k=5→mt met t.st=true
theorem QI.start {ss : List StD} {k : Int} {N : Nat} (hd : ss.length≤N) (h0 : 0≤k) (h1 : k<ss.length) : QI ss k N [k] (List.replicate N false) none:=by
 have hm : ∀ j,mt (List.replicate N false) j=false:=fun j=>by
  unfold mt;rw [List.getD_eq_getElem?_getD,List.getElem?_replicate];split<;>rfl
 refine ⟨List.length_replicate,hd,by simp;omega,fun j _ h=>?_,by simp,fun y _ h hn=>?_,fun q h=>by cases h⟩
 ·rw [hm] at h;cases h
 ·rcases h with rfl|h
  ·simp at hn
  ·rw [hm] at h;cases h
theorem QI.pop {ss : List StD} {k x : Int} {N : Nat} {W : List Int} {met : List Bool} (h : QI ss k N (x::W) met none) : QI ss k N W met (some (x,0)):=by
 have hx:=h.rng x List.mem_cons_self
 refine ⟨h.len,h.dom,fun y hy=>h.rng y (List.mem_cons_of_mem _ hy),h.s1,fun y hy=>h.s2 y (List.mem_cons_of_mem _ hy),fun y hy hk hn hx j hj=>?_,fun q hq=>?_⟩
 ·refine h.s3 y hy hk ?_ (fun q hq=>by cases hq) j hj
  intro hm
  rcases List.mem_cons.1 hm with rfl|hm
  ·exact hx _ rfl rfl
  ·exact hn hm
 ·cases hq
  refine ⟨(h.s2 x List.mem_cons_self).imp id (h.s1 x hx.1),by simp⟩
theorem QI.skip {ss : List StD} {k x : Int} {N i : Nat} {W : List Int} {met : List Bool} (h : QI ss k N W met (some (x,i))) (hi : i<(ze ss x).length) (hs : (ze ss x)[i].k=5→mt met (ze ss x)[i].st=true) : QI ss k N W met (some (x,i+1)):=by
 refine ⟨h.len,h.dom,h.rng,h.s1,h.s2,fun y hy hk hn hx j hj=>h.s3 y hy hk hn (fun q hq=>by cases hq;exact hx (x,i+1) rfl) j hj,fun q hq=>?_⟩
 cases hq
 have:=h.s4 _ rfl
 refine ⟨this.1,fun t ht h5=>?_⟩
 simp only at ht
 rw [List.take_succ_eq_append_getElem hi,List.mem_append,List.mem_singleton] at ht
 rcases ht with ht|rfl
 ·exact this.2 t ht h5
 ·exact hs h5
theorem QI.push {ss : List StD} {k x : Int} {N i : Nat} {W : List Int} {met : List Bool} (hg : xQ ss) (h : QI ss k N W met (some (x,i))) (hi : i<(ze ss x).length) (h5 : (ze ss x)[i].k=5) :
  QI ss k N (W ++ [(ze ss x)[i].st]) (met.set (ze ss x)[i].st.toNat true) (some (x,i+1)):=by
 have hk : Kid ss x (ze ss x)[i].st:=⟨_,List.getElem_mem hi,h5,rfl⟩
 have hin:=vA hg hk
 have hd:=h.dom
 have hlen:=h.len
 have hms : ∀ j,0≤j→mt (met.set (ze ss x)[i].st.toNat true) j=(decide (j=(ze ss x)[i].st)||mt met j):=fun j hj=>aea hin.1 hj (by omega)
 refine ⟨by rw [List.length_set];exact h.len,h.dom,fun y hy=>?_,fun j hj hm=>?_,fun y hy=>?_,fun y hy hyk hn hx j hj=>?_,fun q hq=>?_⟩
 ·rcases List.mem_append.1 hy with hy|hy
  ·exact h.rng y hy
  ·rw [List.mem_singleton.1 hy];exact hin
 ·rw [hms j hj,Bool.or_eq_true,decide_eq_true_eq] at hm
  rcases hm with rfl|hm
  ·rcases (h.s4 _ rfl).1 with hx|hx
   ·have hx : x=k:=hx
    rw [← hx];exact .one hk
   ·exact .more hx hk
  ·exact h.s1 j hj hm
 ·rcases List.mem_append.1 hy with hy|hy
  ·refine (h.s2 y hy).imp id fun hm=>?_
   rw [hms y (h.rng y hy).1,hm,Bool.or_true]
  ·rw [List.mem_singleton.1 hy,hms _ hin.1];simp
 ·have hj0:=(vA hg hj).1
  rw [hms j hj0]
  rw [hms y hy,Bool.or_eq_true,decide_eq_true_eq] at hyk
  have hnw : y ∉ W:=fun hm=>hn (List.mem_append_left _ hm)
  have hne : y≠(ze ss x)[i].st:=fun e=>hn (by rw [e];exact List.mem_append_right _ List.mem_cons_self)
  rw [h.s3 y hy (hyk.imp id fun hh=>hh.resolve_left hne) hnw (fun q hq=>by cases hq;exact hx (x,i+1) rfl) j hj,Bool.or_true]
 ·cases hq
  have:=h.s4 _ rfl
  refine ⟨this.1,fun t ht h5'=>?_⟩
  simp only at ht
  rw [List.take_succ_eq_append_getElem hi,List.mem_append,List.mem_singleton] at ht
  rcases ht with ht|rfl
  ·have ht0:=(vA hg (k:=x) ⟨t,List.mem_of_mem_take ht,h5',rfl⟩).1
   rw [hms _ ht0,this.2 t ht h5',Bool.or_true]
  ·rw [hms _ hin.1];simp
theorem QI.done {ss : List StD} {k x : Int} {N i : Nat} {W : List Int} {met : List Bool} (h : QI ss k N W met (some (x,i))) (hi : (ze ss x).length≤i) : QI ss k N W met none:=by
 refine ⟨h.len,h.dom,h.rng,h.s1,h.s2,fun y hy hk hn _ j hj=>?_,fun q hq=>by cases hq⟩
 by_cases hyx : y=x
 ·subst hyx
  obtain ⟨t,ht,h5,rfl⟩:=hj
  have:=(h.s4 _ rfl).2 t (by simp only;rw [List.take_of_length_le hi];exact ht) h5
  exact this
 ·exact h.s3 y hy hk hn (fun q hq=>by cases hq;exact hyx) j hj
theorem QI.all {ss : List StD} {k : Int} {N : Nat} {met : List Bool} (hg : xQ ss) (h0 : 0≤k) (h : QI ss k N [] met none) {j : Int} (hr : Rch ss k j) : mt met j=true:=by
 induction hr with
 |one e=>exact h.s3 k h0 (.inl rfl) (by simp) (fun q hq=>by cases hq) _ e
 |more hr e ih=>exact h.s3 _ (aaU hg hr).1 (.inr ih) (by simp) (fun q hq=>by cases hq) _ e
open Classical in
theorem Vk {ss : List StD} {k : Nat} {b : Bool} (h1 : b=true→Rch ss k k) (h2 : Rch ss k k→b=true) : b=qj ss k:=by
 rw [qj]
 by_cases hr : Rch ss k k
 ·rw [decide_eq_true hr];exact h2 hr
 ·rw [decide_eq_false hr]
  cases b
  ·rfl
  ·exact absurd (h1 rfl) hr
def zZ (l : List Bool) : List Value:=l.map .bool
theorem Jz (l : List Bool) : (zZ l).length=l.length:=List.length_map ..
theorem YU {l : List Bool} {j : Int} (h : j.toNat<l.length) : (zZ l)[j.toNat]? = some (.bool (mt l j)):=by
 unfold zZ mt
 rw [List.getElem?_map,List.getD_eq_getElem?_getD,List.getElem?_eq_getElem h];rfl
theorem aaX {ss : List StD} {p : Option Addr} {cap k : Nat} (hg : xQ ss) (h32 : ss.length≤32) (hk : k<ss.length) (h8 : ∀ k,(ze ss k).length≤8) {w : World} {r : Gh} {K : Value→World→Prop} (hr : Holds r w) (hs : StG r p ss)
  (h : ∀ w',Ext w w'→K (.bool (qj ss k)) w') : zd Tryz.prog Tryz.ve #[.slice p ss.length cap,.int .i64 k] w K:=by
 refine Tryz.V5 ?_
 unfold Tryz.Xi
 have S:=St.start hr
 refine S.al fun b5 w1 S=>?_
 refine S.lit (e:=3) (cs:=[.int .i64 k]) (by kernel_rfl) fun b11 w2 S=>?_
 have S:=S.toRow 1 1 rfl (by decide)
 have S:=S.toQue (.slice (some ⟨b11,0,none⟩) 1 1)
 have S : StX noX w r w2 [.que (.slice (some ⟨b11,0,none⟩) 1 1) 3 1 [(k : Int)].length (ints [(k : Int)]),.cell b5 (zZ (List.replicate 32 false)) 192]:=S
 refine zi (ι:=List Int × List Bool × Value) (fun i=>[i.2.2]) (fun i w'=>QI ss k 32 i.1 i.2.1 none∧2*cf i.2.1+i.1.length≤65∧StX noX w r w' [.que i.2.2 3 1 i.1.length (ints i.1),.cell b5 (zZ i.2.1) 192])
  (fun i=>2*cf i.2.1+i.1.length) ([(k : Int)],List.replicate 32 false,_) rfl ⟨QI.start h32 (by omega) (by omega),(show 2*cf (List.replicate 32 false)+1≤65 by decide),S⟩ ?_
 clear S
 rintro ⟨W,met,vq⟩ d w3 ⟨hq,h65,S⟩ K3 hK3
 simp only at hq h65 S ⊢
 rw [List.getD_cons_zero]
 obtain ⟨pq,capq,rfl,hp0,hcq,_,hsl⟩:=S.queS vq
 refine gP_ ?_
 refine gP_ ?_
 refine c_b (fun hpos=>?_) (fun hz=>?_)
 ·have hpos : 0<W.length:=by simpa using hpos
  cases W with
  |nil=>simp at hpos
  |cons x W=>
   obtain ⟨bq,oq,rfl,hcell⟩:=Yn hsl hpos
   have hx:=hq.rng x List.mem_cons_self
   refine gP_ ?_
   refine zp (by simpa using hcell) ?_
   refine S.loQ (by omega) (by omega) hpos fun v' S=>?_
   have S : StX noX w r w3 [.que v' 3 1 W.length (ints W),.cell b5 (zZ met) 192]:=S
   have hxn : x.toNat<ss.length:=by omega
   obtain ⟨bs',os',q,capf,rfl,hcs,_,_,hf⟩:=xP hs hxn
   refine gP_ ?_
   refine gP_ ?_
   refine zp (S.at hcs) ?_
   refine gP_ ?_
   have htl : ze ss x=ss[x.toNat].fs.map (·.2):=by
    rw [← yA hxn];simp only [ze,Int.toNat_natCast]
   have hlen : (ze ss x).length=ss[x.toNat].fs.length:=by rw [htl,List.length_map]
   have h88:=h8 x
   refine zi (ι:=Nat × List Int × List Bool × Value) (fun i=>[i.2.2.2,.int .i64 i.1]) (fun i w'=>i.1≤(ze ss x).length∧QI ss k 32 i.2.1 i.2.2.1 (some (x,i.1))∧2*cf i.2.2.1+i.2.1.length≤2*cf met+W.length∧
    StX noX w r w' [.que i.2.2.2 3 1 i.2.1.length (ints i.2.1),.cell b5 (zZ i.2.2.1) 192]) (fun i=>(ze ss x).length - i.1) (0,W,met,v') rfl ⟨Nat.zero_le _,hq.pop,Nat.le_refl _,S⟩ ?_
   clear S
   rintro ⟨i,W',met',vq'⟩ d w4 ⟨hi,hq',hme,S⟩ K7 hK7
   simp only at hi hq' hme S ⊢
   rw [List.getD_cons_zero,List.getD_cons_succ,List.getD_cons_zero]
   refine gP_ ?_
   refine c_b (fun hlt2=>?_) (fun hge=>?_)
   ·have hlt2 : i<ss[x.toNat].fs.length:=by simpa using hlt2
    have hlt3 : i<(ze ss x).length:=by omega
    have hel : (ze ss x)[i]=ss[x.toNat].fs[i].2:=by simp only [htl,List.getElem_map]
    refine zu (fun s w'=>∃ W2 met2 v2,s = [v2]∧QI ss k 32 W2 met2 (some (x,i+1))∧2*cf met2+W2.length≤2*cf met'+W'.length∧StX noX w r w' [.que v2 3 1 W2.length (ints W2),.cell b5 (zZ met2) 192]) (fun K11 hK11=>?_) ?_
    ·obtain ⟨b2,off2,c,rfl,hcl,hcc,hty⟩:=kP hf hlt2
     refine gP_ ?_
     refine zq (n:=6) (c:=.string ss[x.toNat].fs[i].1::c) (by simp [hcl]) (fun j v hj=>by rw [Int.toNat_natCast];exact S.at (hcc j v hj)) ?_
     refine S.al fun b9 w5 S=>?_
     refine S.stB (cs:=(Value.string ss[x.toNat].fs[i].1::c).toArray) (fun w6 S=>?_) rfl (by simp [hcl]) (aae hty)
     obtain ⟨pt,capt,rfl,_⟩:=YT hty
     have S : StX noX w r w6 [.cell b9 [.string ss[x.toNat].fs[i].1,.int .u8 ss[x.toNat].fs[i].2.k,.bool ss[x.toNat].fs[i].2.m,.int .i64 ss[x.toNat].fs[i].2.re,.int .i64 ss[x.toNat].fs[i].2.st,.slice pt ss[x.toNat].fs[i].2.of.length capt] 86,.que vq' 3 1 W'.length (ints W'),.cell b5 (zZ met') 192]:=S
     refine gG_ ?_
     rw [← hel]
     by_cases h5 : (ze ss x)[i].k=5
     ·have hkid : Kid ss x (ze ss x)[i].st:=⟨_,List.getElem_mem hlt3,h5,rfl⟩
      have hin:=vA hg hkid
      have hml:=hq'.len
      refine zf (c:=mt met' (ze ss x)[i].st) (fun _ K2 hK2=>?_) ?_
      ·refine gG_ ?_
       rw [← hel]
       refine gP_ ?_
       refine S.ld (b:=b5) ?_ (by rw [Nat.zero_add,Nat.mul_one];exact YU (by omega))
       exact hK2
      rw [show decide ((ze ss x)[i].k≠5)=false by simp [h5],Bool.false_or]
      refine c_b (fun hm=>?_) (fun hm=>?_)
      ·exact hK11 _ _ ⟨W',met',vq',rfl,hq'.skip hlt3 fun _=>hm,Nat.le_refl _,S.tl⟩
      ·refine gG_ ?_
       rw [← hel]
       refine gP_ ?_
       refine S.st (b:=b5) (fun w7 S=>?_) (by rw [Jz];omega)
       refine gG_ ?_
       rw [← hel]
       refine S.lit (e:=3) (cs:=[.int .i64 (ze ss x)[i].st]) (by kernel_rfl) fun b49 w8 S=>?_
       simp only [List.length_cons] at h65
       refine S.apQ (m:=1) (Sl.blk (S.blk b49)) (fun v50 w9 S=>?_) (by omega)
       have hset : mt met' (ze ss x)[i].st=false:=hm
       have hcf:=Jy (l:=met') (i:=(ze ss x)[i].st.toNat) (by
        unfold mt at hset
        rw [List.getD_eq_getElem?_getD,List.getElem?_eq_getElem (by omega)] at hset
        rw [List.getElem?_eq_getElem (by omega)]
        simpa using hset)
       refine hK11 _ _ ⟨W' ++ [(ze ss x)[i].st],met'.set (ze ss x)[i].st.toNat true,v50,rfl,hq'.push hg hlt3 h5,by rw [List.length_append,List.length_singleton];omega,?_⟩
       have e1 : (zZ met').set (0+(ze ss x)[i].st.toNat*1) (.bool true)=zZ (met'.set (ze ss x)[i].st.toNat true):=by
        rw [Nat.zero_add,Nat.mul_one,zZ,zZ,List.map_set]
       rw [e1] at S
       rw [List.length_append,VP]
       exact S.tl.tl
     ·refine zf (c:=true) (fun hn=>absurd hn (by simp [h5])) ?_
      rw [Bool.or_true]
      refine c_t rfl ?_
      exact hK11 _ _ ⟨W',met',vq',rfl,hq'.skip hlt3 fun e=>absurd e h5,Nat.le_refl _,S.tl⟩
    ·rintro _ w5 ⟨W2,met2,v2,rfl,hq2,hme2,S⟩ d5
     rw [List.getD_cons_zero]
     refine gP_ ?_
     rw [show ((i : Int)+1)=((i+1 : Nat) : Int) by omega]
     exact hK7 (i+1,W2,met2,v2) _ ⟨hlt3,hq2,by simp only;omega,S⟩ (by simp only;omega)
   ·have hge : (ze ss x).length≤i:=by
     have : ¬ i<ss[x.toNat].fs.length:=by simpa using hge
     omega
    exact hK3 (W',met',vq') _ ⟨hq'.done hge,by simp only [List.length_cons] at h65 ⊢;omega,S⟩ (by simp only [List.length_cons];omega)
 ·have hz : W = []:=List.eq_nil_of_length_eq_zero (by
   have : ¬ 0<W.length:=by simpa using hz
   omega)
  subst hz
  have hml:=hq.len
  refine gP_ ?_
  refine S.ld (b:=b5) ?_ (by rw [Nat.zero_add,Nat.mul_one];exact YU (by omega))
  have e : mt met (k : Int)=qj ss k:=Vk (hq.s1 _ (by omega)) (hq.all hg (by omega))
  rw [e]
  exact h _ S.ext
end Go.Proofs
end
section
namespace Go.Proofs
open Go.Sh
set_option maxRecDepth 100000
set_option linter.unusedSimpArgs false
set_option linter.unusedVariables false
theorem ZY {X : Nat→Prop} {w0 : World} {r : Gh} {L : List Asr} {n : Nat} {q : Nat→Bool} {fv : Value} (hn : n≤1000)
  (hf : ∀ (i : Nat),i<n→∀ {w : World} {K : Value→World→Prop},StX X w0 r w L→(∀ w',StX X w0 r w' L→K (.bool (q i)) w')→z7 Tryz.prog fv #[.int .i64 i] w K) {w : World} {K : Value→World→Prop} (S : StX X w0 r w L)
  (h : ∀ w',StX X w0 r w' L→K (.int .i64 (xu n q)) w') : zd Tryz.prog Tryz.ZL #[.int .i64 n,fv] w K:=by
 refine Tryz.abK ?_
 unfold Tryz.QM
 refine zi (ι:=Nat) (fun i=>[.int .i64 i]) (fun i w'=>i≤n∧(∀ j,j<i→q j=false)∧StX X w0 r w' L) (fun i=>n - i) 0 rfl ⟨Nat.zero_le _,fun j hj=>by omega,S⟩ ?_
 clear S
 rintro i d w1 ⟨hi,hq,S⟩ K6 hK6
 rw [List.getD_cons_zero]
 refine gP_ ?_
 refine c_b (fun hlt=>?_) (fun hge=>?_)
 ·have hlt : i<n:=by simpa using hlt
  refine hf i hlt S fun w2 S=>?_
  refine c_b (fun hy=>?_) (fun hno=>?_)
  ·have:=h _ S
   rwa [qS hlt hy hq] at this
  ·refine gP_ ?_
   rw [show ((i : Int)+1)=((i+1 : Nat) : Int) by omega]
   refine hK6 (i+1) _ ⟨hlt,fun j hj=>?_,S⟩ (by omega)
   by_cases hji : j=i
   ·rw [hji];exact hno
   ·exact hq j (by omega)
 ·have hge : i=n:=by
   have : ¬ i<n:=by simpa using hge
   omega
  have:=h _ S
  rwa [qR (fun j hj=>hq j (by omega))] at this
theorem ZE {X : Nat→Prop} {w0 : World} {r s : Gh} {L : List Asr} {p : Option Addr} {cap : Nat} {fs : List (ByteArray × TyD)} {g : TyD→Bool} {fv : Value} (hfl : FlG s p fs) [Le s r] (hb : fs.length≤1000000000)
  (hf : ∀ f ∈ fs,∀ {c : List Value} {w : World} {K : Value→World→Prop},c.length=5→TyG s (.agg c.toArray) f.2→StX X w0 r w L→(∀ w',StX X w0 r w' L→K (.bool (g f.2)) w')→z7 Tryz.prog fv #[.agg (.string f.1::c).toArray] w K)
  {w : World} {K : Value→World→Prop} (S : StX X w0 r w L) (h : ∀ w',StX X w0 r w' L→K (.bool ((fs.map (·.2)).any g)) w') : zd Tryz.prog Tryz.zM #[.slice p fs.length cap,fv] w K:=by
 refine Tryz.kB ?_
 unfold Tryz.yW
 refine Tryz.kY ?_
 unfold Tryz.xi
 refine gP_ ?_
 refine zi (ι:=Nat) (fun i=>[.int .i64 i]) (fun i w'=>i≤fs.length∧((fs.take i).map (·.2)).any g=false∧StX X w0 r w' L) (fun i=>fs.length - i) 0 rfl ⟨Nat.zero_le _,by simp,S⟩ ?_
 clear S
 rintro i d w1 ⟨hi,hq,S⟩ K6 hK6
 rw [List.getD_cons_zero]
 refine gP_ ?_
 refine c_b (fun hlt=>?_) (fun hge=>?_)
 ·have hlt : i<fs.length:=by simpa using hlt
  obtain ⟨b2,off2,c,rfl,hcl,hcc,hty⟩:=kP hfl hlt
  refine gP_ ?_
  refine zq (n:=6) (c:=.string fs[i].1::c) (by simp [hcl]) (fun j v hj=>by rw [Int.toNat_natCast];exact S.at (hcc j v hj)) ?_
  refine hf fs[i] (List.getElem_mem hlt) hcl hty S fun w2 S=>?_
  refine c_b (fun hy=>?_) (fun hno=>?_)
  ·refine gP_ ?_
   have:=h _ S
   have e : (fs.map (·.2)).any g=true:=List.any_eq_true.2 ⟨fs[i].2,List.mem_map.2 ⟨_,List.getElem_mem hlt,rfl⟩,hy⟩
   rw [e] at this
   rw [show decide ((i : Int)≥0)=true by simp]
   exact this
  ·refine gP_ ?_
   rw [show ((i : Int)+1)=((i+1 : Nat) : Int) by omega]
   refine hK6 (i+1) _ ⟨hlt,?_,S⟩ (by omega)
   rw [List.take_succ_eq_append_getElem hlt,List.map_append,List.any_append,hq]
   simp [hno]
 ·have hge : i=fs.length:=by
   have : ¬ i<fs.length:=by simpa using hge
   omega
  rw [hge,List.take_length] at hq
  refine gP_ ?_
  have:=h _ S
  rw [hq] at this
  exact this
theorem xT {ss : List StD} (h : ∀ k,k<ss.length→xb ss k=false) (k : Int) : (ze ss k).length≤8:=by
 by_cases hk : k.toNat<ss.length
 ·have:=h k.toNat hk
  have e : ze ss (k.toNat : Int)=ze ss k:=by rw [ze,ze,Int.toNat_natCast]
  rw [xb,e,Bool.or_eq_false_iff,Bool.or_eq_false_iff] at this
  simp only [decide_eq_false_iff_not] at this
  omega
 ·rw [acp hk];simp
section
variable {X : Nat→Prop} {w0 w : World} {r : Gh} {L : List Asr} {ss : List StD} {p : Option Addr} {cap b1 b4 : Nat} {f1 f4 : List Value→List Asr} {K : Value→World→Prop}
theorem Vw {k : Nat} (hk : k<ss.length) (hs : StG r p ss) (S : StX X w0 r w L) [At b1 L [.slice p ss.length cap] 22 f1] [At b4 L [.int .i64 (ss.length : Nat)] 3 f4] (h : ∀ w',StX X w0 r w' L→K (.bool (xb ss k)) w') :
  z7 Tryz.prog (.func (.func Tryz.kp) #[] #[.pointer (some ⟨b1,0,none⟩),.pointer (some ⟨b4,0,none⟩)]) #[.int .i64 k] w K:=by
 refine qH (by kernel_rfl) ?_
 refine Tryz.Jo (t0:=.int .i64 k) (t1:=.pointer (some ⟨b1,0,none⟩)) (t2:=.pointer (some ⟨b4,0,none⟩)) ?_
 unfold Tryz.Z9
 refine gL_ ?_
 obtain ⟨b,off,q,capq,rfl,hcell,hq0,hqc,hf⟩:=xP hs hk
 refine gP_ ?_
 refine gP_ ?_
 refine zp (by rw [Int.toNat_natCast];exact S.at hcell) ?_
 refine gP_ ?_
 refine gP_ ?_
 have hlen:=ZD hk
 refine zf (c:=decide (8<(ze ss k).length)) (fun _ K2 hK2=>?_) ?_
 ·refine gP_ ?_
  refine gP_ ?_
  rw [show decide ((8 : Int)<(ss[k].fs.length : Int))=decide (8<(ze ss k).length) from decide_eq_decide.2 (by omega)]
  exact hK2
 refine aiE (fun w'=>StX X w0 r w' L) (c:=(ze ss k).any fun t=>!zz ss.length 48 t||decide (0<t.regs.length)) (fun _=>S) (fun hsm2 K2 hK2=>?_) fun w9 S=>?_
 ·have hsm2 : ss[k].fs.length≤8:=by
   simp only [Bool.or_eq_false_iff,decide_eq_false_iff_not] at hsm2;omega
  refine gP_ ?_
  refine ZE (g:=fun t=>!zz ss.length 48 t||decide (0<t.regs.length)) hf (by omega) (fun f hfm {c} {w7} {K} hcl hty S hK=>?_) S fun w8 S=>?_
  ·refine afI (by kernel_rfl) ?_
   refine Tryz.Qo ?_
   unfold Tryz.vS
   refine S.box fun b2 w8 S=>?_
   have S : StX X w0 r w8 (.cell b2 (.string f.1::c) 86::L):=S
   refine gP_ ?_
   refine S.fty hcl ?_
   refine S.ld (b:=b4) ?_ rfl
   refine YR 48 (by decide) S.holds hty fun w9 e9=>?_
   have S:=S.go e9
   refine gP_ ?_
   refine ym (c:=decide (0<f.2.regs.length)) (fun hl K2 hK2=>?_) fun w10 e10=>?_
   ·have hl : zz ss.length 48 f.2=true:=by simpa using hl
    refine gP_ ?_
    refine S.fty hcl ?_
    refine Xo S.holds hty (by have:=Vi hl;omega) fun v11 w11 e11 o11=>?_
    obtain ⟨p11,cap11,rfl,_⟩:=Jh o11
    refine gP_ ?_
    refine gP_ ?_
    rw [show decide ((f.2.regs.length : Int) > 0)=decide (0<f.2.regs.length) from decide_eq_decide.2 (by omega)]
    exact hK2 _ e11
   exact hK _ (S.go e10).tl
  ·rw [← yA hk]
   exact hK2 _ S
 ·have:=h _ S
  rw [xb] at this
  rw [show decide ((ss[k].fs.length : Int)<1)=decide ((ze ss k).length<1) from decide_eq_decide.2 (by omega)]
  exact this
theorem Vx {k : Nat} (hk : k<ss.length) (h32 : ss.length≤32) (h1 : ¬ xu ss.length (xb ss)<ss.length) (hs : StG r p ss) (S : StX X w0 r w L) [At b1 L [.slice p ss.length cap] 22 f1] (h : ∀ w',StX X w0 r w' L→K (.bool (qj ss k)) w') :
  z7 Tryz.prog (.func (.func Tryz.kq) #[] #[.pointer (some ⟨b1,0,none⟩)]) #[.int .i64 k] w K:=by
 refine qH (by kernel_rfl) ?_
 refine Tryz.Jp (t0:=.int .i64 k) (t1:=.pointer (some ⟨b1,0,none⟩)) ?_
 unfold Tryz.Ya
 refine gL_ ?_
 exact aaX (X6 (qZ h1)) h32 hk (fun k=>xT (qZ h1) k) S.holds hs fun w9 e9=>h _ (S.go e9)
theorem Vy {k : Nat} (hk : k<ss.length) (h32 : ss.length≤32) (h1 : ¬ xu ss.length (xb ss)<ss.length) (h2 : ¬ xu ss.length (qj ss)<ss.length) (hs : StG r p ss) (S : StX X w0 r w L) [At b1 L [.slice p ss.length cap] 22 f1] (h : ∀ w',StX X w0 r w' L→K (.bool (Zf ss k)) w') :
  z7 Tryz.prog (.func (.func Tryz.kr) #[] #[.pointer (some ⟨b1,0,none⟩)]) #[.int .i64 k] w K:=by
 refine qH (by kernel_rfl) ?_
 refine Tryz.Jq (t0:=.int .i64 k) (t1:=.pointer (some ⟨b1,0,none⟩)) ?_
 unfold Tryz.Yb
 refine gL_ ?_
 refine zx (cs:=#[.int .u8 5,.bool false,.int .i64 0,.int .i64 k,.slice none 0 0]) (by kernel_rfl) ?_
 have hg:=X6 (qZ h1)
 refine acQ hg (Vj hg (qZ h2)) 40 (t:=.mk 5 false 0 k []) (by decide) (by have:=aaV ss (.mk 5 false 0 k []);omega) ?_ (by omega) (fun k=>xT (qZ h1) k) S.holds hs (yh (r:=r)) fun w9 e9=>?_
 ·rw [xE]
  simp [TyD.k,TyD.m,TyD.re,TyD.of,TyD.st]
  omega
 ·refine gP_ ?_
  have:=h _ (S.go e9)
  rw [Zf] at this
  rw [show decide ((((min (wF ss 40 (.mk 5 false 0 k [])) 17 : Nat) : Int)) > 16)=decide (16<wF ss 40 (.mk 5 false 0 k [])) from decide_eq_decide.2 (by omega)]
  exact this
end
theorem Xs {ss : List StD} {p : Option Addr} {cap : Nat} {w : World} {r : Gh} {K : Value→World→Prop} (hr : Holds r w) (hs : StG r p ss)
  (h : ∀ w',Ext w w'→K (.tuple #[.int .i64 (zw ss).1,.int .i64 (zw ss).2]) w') : zd Tryz.prog Tryz.qA #[.slice p ss.length cap] w K:=by
 refine Tryz.V4 ?_
 unfold Tryz.Xh
 have S:=St.start hr
 refine S.box fun b1 w1 S=>?_
 refine gL_ ?_
 refine gP_ ?_
 refine S.al fun b4 w2 S=>?_
 refine S.st fun w3 S=>?_
 refine gL_ ?_
 refine gP_ ?_
 refine c_b (fun hbig=>?_) (fun hsm=>?_)
 ·have hbig : 32<ss.length:=by have:=of_decide_eq_true hbig;omega
  rw [zw,if_pos hbig] at h
  exact h _ S.ext
 have hsm : ¬ 32<ss.length:=by have:=of_decide_eq_false hsm;omega
 rw [zw,if_neg hsm] at h
 refine gP_ ?_
 refine gP_ ?_
 refine gP_ ?_
 refine S.lit (e:=147) (cs:=[.func (.func Tryz.kp) #[] #[.pointer (some ⟨b1,0,none⟩),.pointer (some ⟨b4,0,none⟩)],.func (.func Tryz.kq) #[] #[.pointer (some ⟨b1,0,none⟩)],.func (.func Tryz.kr) #[] #[.pointer (some ⟨b1,0,none⟩)]]) (by kernel_rfl) fun b16 w4 S=>?_
 refine gP_ ?_
 have S : StX noX w r w4 [.cell b16 [.func (.func Tryz.kp) #[] #[.pointer (some ⟨b1,0,none⟩),.pointer (some ⟨b4,0,none⟩)],.func (.func Tryz.kq) #[] #[.pointer (some ⟨b1,0,none⟩)],.func (.func Tryz.kr) #[] #[.pointer (some ⟨b1,0,none⟩)]] 147,
  .cell b4 [.int .i64 (ss.length : Nat)] 3,.cell b1 [.slice p ss.length cap] 22]:=S
 refine zi (ι:=Nat) (fun i=>[.int .i64 i]) (fun i w'=>i≤3∧(0<i→¬ xu ss.length (xb ss)<ss.length)∧(1<i→¬ xu ss.length (qj ss)<ss.length)∧(2<i→¬ xu ss.length (Zf ss)<ss.length)∧StX noX w r w' _) (fun i=>3 - i) 0 rfl
  ⟨by decide,fun h=>by omega,fun h=>by omega,fun h=>by omega,S⟩ ?_
 clear S
 rintro i d w5 ⟨hi,h1,h2,h3,S⟩ K6 hK6
 rw [List.getD_cons_zero]
 refine gP_ ?_
 match i,hi,h1,h2,h3 with
 |0,_,_,_,_=>
  refine c_t (by decide) ?_
  refine gP_ ?_
  refine S.ld (b:=b16) ?_ rfl
  refine S.ld (b:=b4) ?_ rfl
  refine ZY (q:=xb ss) (by omega) (fun i hi {w} {K} S k=>Vw hi hs S k) S fun w9 S=>?_
  refine S.ld (b:=b4) ?_ rfl
  refine gP_ ?_
  refine c_b (fun hl=>?_) (fun hl=>?_)
  ·rw [if_pos (by have:=of_decide_eq_true hl;omega)] at h
   exact h _ S.ext
  ·refine gP_ ?_
   exact hK6 1 _ ⟨by decide,fun _=>by have:=of_decide_eq_false hl;omega,fun h=>by omega,fun h=>by omega,S⟩ (by decide)
 |1,_,h1,_,_=>
  have h1:=h1 (by decide)
  rw [if_neg h1] at h
  refine c_t (by decide) ?_
  refine gP_ ?_
  refine S.ld (b:=b16) ?_ rfl
  refine S.ld (b:=b4) ?_ rfl
  refine ZY (q:=qj ss) (by omega) (fun i hi {w} {K} S k=>Vx hi (by omega) h1 hs S k) S fun w9 S=>?_
  refine S.ld (b:=b4) ?_ rfl
  refine gP_ ?_
  refine c_b (fun hl=>?_) (fun hl=>?_)
  ·rw [if_pos (by have:=of_decide_eq_true hl;omega)] at h
   exact h _ S.ext
  ·refine gP_ ?_
   exact hK6 2 _ ⟨by decide,fun _=>h1,fun _=>by have:=of_decide_eq_false hl;omega,fun h=>by omega,S⟩ (by decide)
 |2,_,h1,h2,_=>
  have h1:=h1 (by decide)
  have h2:=h2 (by decide)
  rw [if_neg h1,if_neg h2] at h
  refine c_t (by decide) ?_
  refine gP_ ?_
  refine S.ld (b:=b16) ?_ rfl
  refine S.ld (b:=b4) ?_ rfl
  refine ZY (q:=Zf ss) (by omega) (fun i hi {w} {K} S k=>Vy hi (by omega) h1 h2 hs S k) S fun w9 S=>?_
  refine S.ld (b:=b4) ?_ rfl
  refine gP_ ?_
  refine c_b (fun hl=>?_) (fun hl=>?_)
  ·rw [if_pos (by have:=of_decide_eq_true hl;omega)] at h
   exact h _ S.ext
  ·refine gP_ ?_
   exact hK6 3 _ ⟨by decide,fun _=>h1,fun _=>h2,fun _=>by have:=of_decide_eq_false hl;omega,S⟩ (by decide)
 |3,_,h1,h2,h3=>
  have h1:=h1 (by decide)
  have h2:=h2 (by decide)
  have h3:=h3 (by decide)
  rw [if_neg h1,if_neg h2,if_neg h3] at h
  refine c_f (by decide) ?_
  exact h _ S.ext
noncomputable def zY (ss : List StD) (t : TyD) : Bool:=decide ((zw ss).2=0)&&zz ss.length 48 t
theorem YV {ss : List StD} {t : TyD} (h : zY ss t=true) : (zw ss).2=0∧zz ss.length 48 t=true:=by
 simpa [zY] using h
theorem XH {ss : List StD} {t : TyD} {p : Option Addr} {cap : Nat} {w : World} {r : Gh} {v : Value} {K : Value→World→Prop} (hr : Holds r w) (hs : StG r p ss) (hv : TyG r v t)
  (h : ∀ w',Ext w w'→K (.bool (zY ss t)) w') : zd Tryz.prog Tryz.jp #[.slice p ss.length cap,v] w K:=by
 refine Tryz.ad4 ?_
 unfold Tryz.VM
 have hv0:=hv
 obtain ⟨p1,cap1,rfl,_⟩:=hv
 have S:=St.start hr
 refine S.box fun b3 w1 S=>?_
 refine Xs S.holds hs fun w2 e2=>?_
 have S:=S.go e2
 refine gP_ ?_
 refine gP_ ?_
 refine gP_ ?_
 refine zm (c:=zz ss.length 48 t) (fun _ K2 hK2=>?_) fun w3 e3=>h _ (S.go e3).ext
 refine gL_ ?_
 refine gP_ ?_
 exact YR 48 (by decide) S.holds hv0 fun w3 e3=>hK2 _ e3
theorem acR {ss : List StD} {p : Option Addr} {cap : Nat} (hg : xQ ss) (hac : ∀ k,¬ Rch ss k k) : ∀ (m : Nat) {t : TyD} {w : World} {r : Gh} {v : Value} {K : Value→World→Prop},m≤100→rkT ss t≤m→zz ss.length 48 t=true→ss.length≤32→(∀ k,(ze ss k).length≤8)→
  Holds r w→StG r p ss→TyG r v t→(∀ w',Ext w w'→K (.bool (dF ss m t)) w')→zd Tryz.prog Tryz.jx #[.slice p ss.length cap,v] w K:=by
 intro m
 induction m with
 |zero=>
  intro t w r v K _ hrk hl h32 h8 hr hs hv h
  have h5 : ¬ t.k=5:=fun h=>by unfold rkT at hrk;rw [if_pos h] at hrk;omega
  refine Tryz.XY ?_
  unfold Tryz.ZV
  obtain ⟨p1,cap1,rfl,_⟩:=hv
  have S:=St.start hr
  refine S.box fun b2 w1 S=>?_
  refine S.box fun b3 w2 S=>?_
  refine gG_ ?_
  refine c_b (fun h3=>?_) (fun h3=>?_)
  ·have:=h _ S.ext
   rwa [dF,h3] at this
  ·refine gG_ ?_
   refine c_b (fun h5'=>absurd (of_decide_eq_true h5') h5) (fun _=>?_)
   have:=h _ S.ext
   rwa [dF,h3] at this
 |succ m ih=>
  intro t w r v K hm hrk hl h32 h8 hr hs hv h
  refine Tryz.XY ?_
  unfold Tryz.ZV
  obtain ⟨p1,cap1,rfl,_⟩:=hv
  have S:=St.start hr
  refine S.box fun b2 w1 S=>?_
  refine S.box fun b3 w2 S=>?_
  refine gG_ ?_
  refine c_b (fun h3=>?_) (fun h3=>?_)
  ·have:=h _ S.ext
   have h3':=of_decide_eq_true h3
   rwa [dF,if_neg (by omega),h3] at this
  refine gG_ ?_
  refine c_b (fun h5=>?_) (fun h5=>?_)
  ·have h5 : t.k=5:=of_decide_eq_true h5
   obtain ⟨hst0,hst1,_⟩:=qY hl h5
   have hlt : t.st.toNat<ss.length:=by omega
   obtain ⟨b,off,q,capq,rfl,hcell,_,_,hf⟩:=xP hs hlt
   refine gG_ ?_
   refine zp (S.at hcell) ?_
   have htl : ze ss t.st=ss[t.st.toNat].fs.map (·.2):=by
    rw [← yA hlt];simp only [ze,Int.toNat_natCast]
   have hlen : (ze ss t.st).length=ss[t.st.toNat].fs.length:=by rw [htl,List.length_map]
   have h88:=h8 t.st
   refine gP_ ?_
   refine ZE (g:=dF ss m) hf (by omega) (fun f hfm {c} {w7} {K} hcl hty S hK=>?_) S fun w8 S=>?_
   ·refine afI (by kernel_rfl) ?_
    refine Tryz.V7 ?_
    unfold Tryz.Xk
    refine S.box fun b4 w8 S=>?_
    have S : StX noX w r w8 (.cell b4 (.string f.1::c) 86::_):=S
    refine S.ld (b:=b2) ?_ rfl
    refine gP_ ?_
    refine S.fty hcl ?_
    have hmem : f.2 ∈ ze ss t.st:=by rw [htl];exact List.mem_map.2 ⟨f,hfm,rfl⟩
    have hrk2:=aaW hg hac h5 hmem
    exact ih (by omega) (by omega) (hg _ _ hmem) h32 h8 S.holds hs hty fun w5 e5=>hK _ (S.go e5).tl
   ·rw [dF,if_pos h5,htl] at h
    exact h _ S.ext
  ·have:=h _ S.ext
   rwa [dF,if_neg (of_decide_eq_false h5),h3] at this
noncomputable def k0 (ss : List StD) (t : TyD) : Bool × Int:=if zY ss t then (dF ss 40 t,0) else (false,2)
theorem acS {ss : List StD} {t : TyD} {p : Option Addr} {cap : Nat} {w : World} {r : Gh} {v : Value} {K : Value→World→Prop} (hr : Holds r w) (hs : StG r p ss) (hv : TyG r v t)
  (h : ∀ w',Ext w w'→K (.tuple #[.bool (k0 ss t).1,.int .i64 (k0 ss t).2]) w') : zd Tryz.prog Tryz.ZM #[.slice p ss.length cap,v] w K:=by
 refine Tryz.abM ?_
 unfold Tryz.QO
 have hv0:=hv
 obtain ⟨p1,cap1,rfl,_⟩:=hv
 have S:=St.start hr
 refine S.box fun b3 w1 S=>?_
 refine gL_ ?_
 refine XH S.holds hs hv0 fun w2 e2=>?_
 have S:=S.go e2
 refine gP_ ?_
 refine c_b (fun hn=>?_) (fun hn=>?_)
 ·have hn : zY ss t=false:=by simpa using hn
  rw [k0,hn] at h
  exact h _ S.ext
 have hn : zY ss t=true:=by simpa using hn
 rw [k0,if_pos hn] at h
 obtain ⟨hok,hl⟩:=YV hn
 obtain ⟨h32,hb1,hg,hac,_,_⟩:=xF hok
 refine gL_ ?_
 refine acR hg hac 40 (by decide) (by have:=aaV ss t;omega) hl h32 (xT hb1) S.holds hs hv0 fun w3 e3=>h _ (S.go e3).ext
end Go.Proofs
end
section
namespace Go.Proofs
open Go.Sh
set_option maxRecDepth 100000
set_option linter.unusedSimpArgs false
set_option linter.unusedVariables false
theorem ag9 {s : Int} {n : Nat} {t : TyD} (h : zz s (n+1) t=true) : (decide (t.regs.length=0))=(decide (t.k≠4)&&(decide (t.k≠3)||(match t.of with|u::_=>decide (u.regs.length=0)|[]=>false))):=by
 rcases zS h with ⟨ho,hk⟩|⟨u,ho,_,hk⟩
 ·rw [aac ho,if_neg (by omega)]
  have h3 : t.k≠3:=by omega
  have h4 : t.k≠4:=by omega
  simp [h3,h4]
 ·rw [aad ho,ho]
  by_cases h4 : t.k=4
  ·simp [h4]
  ·have h3 : t.k=3:=by omega
   simp [h3]
theorem acT {s : Int} : ∀ (n : Nat) {t : TyD} {w : World} {r : Gh} {v : Value} {K : Value→World→Prop},n≤1000→zz s n t=true→Holds r w→TyG r v t→
  (∀ w',Ext w w'→K (.bool (decide (t.regs.length=0))) w')→zd Tryz.prog Tryz.jz #[v] w K:=by
 intro n
 induction n with
 |zero=>intro t w r v K _ h;cases h
 |succ n ih=>
  intro t w r v K hn hl hr hv h
  refine Tryz.abP ?_
  unfold Tryz.QS
  obtain ⟨p1,cap1,rfl,_,_,hof⟩:=hv
  have S:=St.start hr
  refine S.box fun b1 w1 S=>?_
  refine gG_ ?_
  have hpl:=ag9 hl
  refine zu (fun s w'=>s=(if t.k≠4 then [.bool (decide (t.k≠3))] else [undef])∧w'=w1) (fun K2 hK2=>?_) ?_
  ·by_cases h4 : t.k=4
   ·rw [decide_eq_false (by simpa using h4)]
    refine gD_ ?_
    exact hK2 _ _ ⟨by rw [if_neg (by simpa using h4)],rfl⟩
   ·rw [decide_eq_true (by simpa using h4)]
    refine g_TT ?_
    refine gG_ ?_
    exact hK2 _ _ ⟨by rw [if_pos h4],rfl⟩
  rintro _ w1 ⟨rfl,rfl⟩ d
  by_cases h4 : t.k=4
  ·rw [if_neg (by simpa using h4)]
   rw [show decide (t.k≠4)=false by simp [h4]]
   refine zu (fun s w'=>s = [undef]∧w'=w1) (fun K2 hK2=>?_) ?_
   ·refine gD_ ?_
    exact hK2 _ _ ⟨rfl,rfl⟩
   rintro _ w1 ⟨rfl,rfl⟩ d
   refine zu (fun s w'=>s = [undef]∧w'=w1) (fun K2 hK2=>?_) ?_
   ·refine gD_ ?_
    exact hK2 _ _ ⟨rfl,rfl⟩
   rintro _ w1 ⟨rfl,rfl⟩ d
   refine k_pickF ?_
   have:=h _ S.ext
   rw [hpl] at this
   simpa [h4] using this
  ·rw [if_pos h4,show decide (t.k≠4)=true by simp [h4],List.getD_cons_zero]
   refine zu (fun s w'=>s = [if t.k≠3 then undef else .bool (decide (t.regs.length=0))]∧Ext w1 w') (fun K2 hK2=>?_) ?_
   ·by_cases h3 : t.k=3
    ·rw [decide_eq_false (by simpa using h3)]
     refine g_FF ?_
     refine gG_ ?_
     rcases zS hl with ⟨_,hk⟩|⟨u,ho,hu,_⟩
     ·omega
     have hlen : t.of.length=1:=by rw [ho];rfl
     obtain ⟨ba,oa,rfl,c,hc,hcell,ht⟩:=NdG.of hof (i:=0) (by omega)
     have ht : TyG r (.agg c.toArray) u:=by simpa [ho] using ht
     refine gG_ ?_
     refine zq (n:=5) hc (fun j v hj=>by simpa using S.at (hcell j v hj)) ?_
     refine ih (by omega) hu S.holds ht fun w2 e2=>hK2 _ _ ⟨?_,e2⟩
     rw [if_neg (by simpa using h3),hpl,ho]
     simp [h3]
    ·rw [decide_eq_true (by simpa using h3)]
     refine g_TF ?_
     exact hK2 _ _ ⟨by rw [if_pos h3],.refl _⟩
   rintro _ w2 ⟨rfl,e2⟩ d
   have S:=S.go e2
   refine zu (fun s w'=>s = [.bool (decide (t.regs.length=0))]∧w'=w2) (fun K2 hK2=>?_) ?_
   ·refine g_TT ?_
    refine ⟨_,rfl,?_⟩
    refine hK2 _ _ ⟨?_,rfl⟩
    by_cases h3 : t.k=3
    ·simp [h3]
    ·rw [show decide (t.k≠3)=true by simp [h3],hpl];simp [h3,h4]
   rintro _ w3 ⟨rfl,rfl⟩ d
   refine k_pickT ?_
   exact h _ S.ext
theorem acU {ss : List StD} {p : Option Addr} {cap : Nat} (hg : xQ ss) (hac : ∀ k,¬ Rch ss k k) : ∀ (m : Nat) {t : TyD} {most : Nat} {w : World} {r : Gh} {v : Value} {K : Value→World→Prop},m≤100→most≤100→rkT ss t≤m→zz ss.length 48 t=true→ss.length≤32→(∀ k,(ze ss k).length≤8)→
  Holds r w→StG r p ss→TyG r v t→(∀ w',Ext w w'→K (.int .i64 (min (wF ss m t) (most+1) : Nat)) w')→zd Tryz.prog Tryz.jA #[.slice p ss.length cap,v,.int .i64 (most : Nat)] w K:=by
 intro m
 induction m with
 |zero=>
  intro t most w r v K _ hmost hrk hl h32 h8 hr hs hv h
  have h5 : ¬ t.k=5:=fun h=>by unfold rkT at hrk;rw [if_pos h] at hrk;omega
  refine Tryz.X3 ?_
  unfold Tryz.ZX
  obtain ⟨p1,cap1,rfl,_⟩:=hv
  have S:=St.start hr
  refine S.box fun b3 w1 S=>?_
  refine gG_ ?_
  refine zh (fun _=>?_) (fun hn=>absurd (by omega) h5)
  have:=h _ S.ext
  rw [wF,show min 1 (most+1)=1 by omega] at this
  exact this
 |succ m ih=>
  intro t most w r v K hm hmost hrk hl h32 h8 hr hs hv h
  refine Tryz.X3 ?_
  unfold Tryz.ZX
  obtain ⟨p1,cap1,rfl,_⟩:=hv
  have S:=St.start hr
  refine S.box fun b3 w1 S=>?_
  refine gG_ ?_
  refine zh (fun hn=>?_) (fun h5=>?_)
  ·have:=h _ S.ext
   rw [wF,if_neg (by omega),show min 1 (most+1)=1 by omega] at this
   exact this
  have h5 : t.k=5:=by omega
  obtain ⟨hst0,hst1,_⟩:=qY hl h5
  have hlt : t.st.toNat<ss.length:=by omega
  obtain ⟨b,off,q,capq,rfl,hcell,_,_,hf⟩:=xP hs hlt
  refine gG_ ?_
  refine zp (S.at hcell) ?_
  have htl : ze ss t.st=ss[t.st.toNat].fs.map (·.2):=by
   rw [← yA hlt];simp only [ze,Int.toNat_natCast]
  have hlen : (ze ss t.st).length=ss[t.st.toNat].fs.length:=by rw [htl,List.length_map]
  have h88:=h8 t.st
  refine zi (ι:=Nat) (fun i=>[.int .i64 (min (ya (((ze ss t.st).take i).map (wF ss m))) (most+1) : Nat),.int .i64 i]) (fun i w'=>i≤(ze ss t.st).length∧St w r w' _)
   (fun i=>(ze ss t.st).length - i) 0 (by simp [ya]) ⟨Nat.zero_le _,S⟩ ?_
  clear S
  rintro i d w2 ⟨hi,S⟩ K6 hK6
  rw [List.getD_cons_zero,List.getD_cons_succ,List.getD_cons_zero]
  refine gP_ ?_
  refine gP_ ?_
  have hle : ya (((ze ss t.st).take i).map (wF ss m))≤wF ss (m+1) t:=by
   rw [wF,if_pos h5];exact abR _ _ _
  refine zg (c:=decide (ya (((ze ss t.st).take i).map (wF ss m))≤most)) (fun _ K2 hK2=>?_) ?_
  ·refine gP_ ?_
   rw [show decide (((min (ya (((ze ss t.st).take i).map (wF ss m))) (most+1) : Nat) : Int)≤(most : Int))=decide (ya (((ze ss t.st).take i).map (wF ss m))≤most) from decide_eq_decide.2 (by omega)]
   exact hK2
  refine c_b (fun hlt2=>?_) (fun hge=>?_)
  ·obtain ⟨hlt2,hsm⟩ : i<ss[t.st.toNat].fs.length∧ya (((ze ss t.st).take i).map (wF ss m))≤most:=by
    simp only [Bool.and_eq_true,decide_eq_true_eq] at hlt2;omega
   have hlt3 : i<(ze ss t.st).length:=by omega
   obtain ⟨b2,off2,c,rfl,hcl,hcc,hty⟩:=kP hf hlt2
   refine gP_ ?_
   refine gP_ ?_
   refine zq (n:=5) (c:=c) hcl (fun j v hj=>by
    have:=S.at (hcc (j+1) v (by simpa using hj))
    rw [Int.toNat_natCast,Nat.add_assoc _ 1 j,Nat.add_comm 1 j];exact this) ?_
   have hel : (ze ss t.st)[i]=ss[t.st.toNat].fs[i].2:=by simp only [htl,List.getElem_map]
   have hmem : ss[t.st.toNat].fs[i].2 ∈ ze ss t.st:=by rw [← hel];exact List.getElem_mem hlt3
   have hrk2:=aaW hg hac h5 hmem
   refine gP_ ?_
   have e1 : (most : Int) - ((min (ya (((ze ss t.st).take i).map (wF ss m))) (most+1) : Nat) : Int)=((most - ya (((ze ss t.st).take i).map (wF ss m)) : Nat) : Int):=by omega
   rw [e1]
   refine ih (by omega) (by omega) (by omega) (hg _ _ hmem) h32 h8 S.holds hs hty fun w5 e5=>?_
   have S:=S.go e5
   have hst:=Jw (wF ss m) hlt3
   rw [hel] at hst
   refine gP_ ?_
   refine gP_ ?_
   have e2 : ((min (ya (((ze ss t.st).take i).map (wF ss m))) (most+1) : Nat) : Int)+((min (wF ss m ss[t.st.toNat].fs[i].2) (most - ya (((ze ss t.st).take i).map (wF ss m))+1) : Nat) : Int)=((min (ya (((ze ss t.st).take (i+1)).map (wF ss m))) (most+1) : Nat) : Int):=by omega
   rw [e2,show ((i : Int)+1)=((i+1 : Nat) : Int) by omega]
   exact hK6 (i+1) _ ⟨hlt3,S⟩ (by omega)
  ·have:=h _ S.ext
   have e : min (wF ss (m+1) t) (most+1)=min (ya (((ze ss t.st).take i).map (wF ss m))) (most+1):=by
    by_cases hie : i=(ze ss t.st).length
    ·rw [hie,List.take_length,wF,if_pos h5]
    ·have h1 : ¬ ya (((ze ss t.st).take i).map (wF ss m))≤most:=by
      intro hc
      rw [decide_eq_true hc,Bool.and_true,decide_eq_false_iff_not] at hge
      omega
     omega
   rw [e] at this
   exact this
theorem acV {ss : List StD} {p : Option Addr} {cap : Nat} (hg : xQ ss) (hac : ∀ k,¬ Rch ss k k) : ∀ (m : Nat) {t : TyD} {w : World} {r : Gh} {v : Value} {K : Value→World→Prop},m≤100→rkT ss t≤m→zz ss.length 48 t=true→ss.length≤32→(∀ k,(ze ss k).length≤8)→
  Holds r w→StG r p ss→TyG r v t→(∀ w',Ext w w'→K (.bool (dF ss m t)) w')→zd Tryz.prog Tryz.jy #[.slice p ss.length cap,v] w K:=by
 intro m
 induction m with
 |zero=>
  intro t w r v K _ hrk hl h32 h8 hr hs hv h
  have h5 : ¬ t.k=5:=fun h=>by unfold rkT at hrk;rw [if_pos h] at hrk;omega
  refine Tryz.X2 ?_
  unfold Tryz.ZW
  obtain ⟨p1,cap1,rfl,_⟩:=hv
  have S:=St.start hr
  refine S.box fun b3 w1 S=>?_
  refine gG_ ?_
  refine zh (fun _=>?_) (fun hn=>absurd (by omega) h5)
  refine gG_ ?_
  exact h _ S.ext
 |succ m ih=>
  intro t w r v K hm hrk hl h32 h8 hr hs hv h
  refine Tryz.X2 ?_
  unfold Tryz.ZW
  obtain ⟨p1,cap1,rfl,_⟩:=hv
  have S:=St.start hr
  refine S.box fun b3 w1 S=>?_
  refine gG_ ?_
  refine zh (fun hn=>?_) (fun h5=>?_)
  ·refine gG_ ?_
   have:=h _ S.ext
   rw [dF,if_neg (by omega)] at this
   exact this
  have h5 : t.k=5:=by omega
  obtain ⟨hst0,hst1,_⟩:=qY hl h5
  have hlt : t.st.toNat<ss.length:=by omega
  obtain ⟨b,off,q,capq,rfl,hcell,_,_,hf⟩:=xP hs hlt
  refine gG_ ?_
  refine zp (S.at hcell) ?_
  have htl : ze ss t.st=ss[t.st.toNat].fs.map (·.2):=by
   rw [← yA hlt];simp only [ze,Int.toNat_natCast]
  have hlen : (ze ss t.st).length=ss[t.st.toNat].fs.length:=by rw [htl,List.length_map]
  have h88:=h8 t.st
  rw [dF,if_pos h5] at h
  refine zi (ι:=Nat) (fun i=>[.int .i64 i]) (fun i w'=>i≤(ze ss t.st).length∧((ze ss t.st).take i).any (dF ss m)=false∧St w r w' _)
   (fun i=>(ze ss t.st).length - i) 0 rfl ⟨Nat.zero_le _,by simp,S⟩ ?_
  clear S
  rintro i d w2 ⟨hi,hno,S⟩ K6 hK6
  rw [List.getD_cons_zero]
  refine gP_ ?_
  refine gP_ ?_
  refine c_b (fun hlt2=>?_) (fun hge=>?_)
  ·have hlt2 : i<ss[t.st.toNat].fs.length:=by simpa using hlt2
   have hlt3 : i<(ze ss t.st).length:=by omega
   obtain ⟨b2,off2,c,rfl,hcl,hcc,hty⟩:=kP hf hlt2
   refine gP_ ?_
   refine gP_ ?_
   refine zq (n:=5) (c:=c) hcl (fun j v hj=>by
    have:=S.at (hcc (j+1) v (by simpa using hj))
    rw [Int.toNat_natCast,Nat.add_assoc _ 1 j,Nat.add_comm 1 j];exact this) ?_
   have hel : (ze ss t.st)[i]=ss[t.st.toNat].fs[i].2:=by simp only [htl,List.getElem_map]
   have hmem : ss[t.st.toNat].fs[i].2 ∈ ze ss t.st:=by rw [← hel];exact List.getElem_mem hlt3
   have hrk2:=aaW hg hac h5 hmem
   refine ih (by omega) (by omega) (hg _ _ hmem) h32 h8 S.holds hs hty fun w5 e5=>?_
   have S:=S.go e5
   refine c_b (fun hy=>?_) (fun hn=>?_)
   ·have:=h _ S.ext
    rwa [List.any_eq_true.2 ⟨_,hmem,hy⟩] at this
   ·refine gP_ ?_
    rw [show ((i : Int)+1)=((i+1 : Nat) : Int) by omega]
    refine hK6 (i+1) _ ⟨hlt3,?_,S⟩ (by omega)
    rw [List.take_succ_eq_append_getElem hlt3,List.any_append,hno,hel]
    simp [hn]
  ·have hie : i=(ze ss t.st).length:=by
    have : ¬ i<ss[t.st.toNat].fs.length:=by simpa using hge
    omega
   rw [hie,List.take_length] at hno
   have:=h _ S.ext
   rwa [hno] at this
theorem X7 {t : TyD} {w : World} {r : Gh} {v : Value} {K : Value→World→Prop} (hr : Holds r w) (hv : TyG r v t) (h : ∀ w',Ext w w'→K (.bool (xS t)) w') : zd Tryz.prog Tryz.qX #[v] w K:=by
 refine Tryz.aaR ?_
 unfold Tryz.X1
 have hv0:=hv
 obtain ⟨p1,cap1,rfl,_⟩:=hv
 have S:=St.start hr
 refine S.box fun b1 w1 S=>?_
 refine gL_ ?_
 refine aaT S.holds hv0 fun w2 e2=>?_
 have S:=S.go e2
 have:=h _ S.ext
 rw [xS] at this
 cases hB : isB t
 ·rw [hB,Bool.false_and] at this
  (intro K9 hK9;refine gD_ ?_;refine hK9 _ _ fun _=>?_;clear hK9 K9)
  (intro K9 hK9;refine gD_ ?_;refine hK9 _ _ fun _=>?_;clear hK9 K9)
  (intro K9 hK9;refine gD_ ?_;refine hK9 _ _ fun _=>?_;clear hK9 K9)
  (intro K9 hK9;refine gD_ ?_;refine hK9 _ _ fun _=>?_;clear hK9 K9)
  (intro K9 hK9;refine gD_ ?_;refine hK9 _ _ fun _=>?_;clear hK9 K9)
  (intro K9 hK9;refine gD_ ?_;refine hK9 _ _ fun _=>?_;clear hK9 K9)
  (intro K9 hK9;refine gD_ ?_;refine hK9 _ _ fun _=>?_;clear hK9 K9)
  refine gD_ ?_
  exact this
 ·rw [hB,Bool.true_and] at this
  cases h1 : decide (t.k=1)
  ·cases h2 : decide (t.k=2)
   ·cases h4 : decide (t.k=4)
    ·rw [h1,h2,h4] at this
     intro K9 hK9;refine g_TT ?_;refine gG_ ?_;rw [h1];refine hK9 _ _ fun _=>?_;clear hK9 K9
     intro K9 hK9;refine g_FF ?_;refine gG_ ?_;rw [h2];refine hK9 _ _ fun _=>?_;clear hK9 K9
     (intro K9 hK9;refine gD_ ?_;refine hK9 _ _ fun _=>?_;clear hK9 K9)
     intro K9 hK9;refine g_FF ?_;refine gG_ ?_;rw [h4];refine hK9 _ _ fun _=>?_;clear hK9 K9
     (intro K9 hK9;refine gD_ ?_;refine hK9 _ _ fun _=>?_;clear hK9 K9)
     (intro K9 hK9;refine gD_ ?_;refine hK9 _ _ fun _=>?_;clear hK9 K9)
     (intro K9 hK9;refine gD_ ?_;refine hK9 _ _ fun _=>?_;clear hK9 K9)
     refine gD_ ?_
     exact this
    ·rw [h1,h2,h4] at this
     intro K9 hK9;refine g_TT ?_;refine gG_ ?_;rw [h1];refine hK9 _ _ fun _=>?_;clear hK9 K9
     intro K9 hK9;refine g_FF ?_;refine gG_ ?_;rw [h2];refine hK9 _ _ fun _=>?_;clear hK9 K9
     (intro K9 hK9;refine gD_ ?_;refine hK9 _ _ fun _=>?_;clear hK9 K9)
     intro K9 hK9;refine g_FF ?_;refine gG_ ?_;rw [h4];refine hK9 _ _ fun _=>?_;clear hK9 K9
     (intro K9 hK9;refine gD_ ?_;refine hK9 _ _ fun _=>?_;clear hK9 K9)
     (intro K9 hK9;refine gD_ ?_;refine hK9 _ _ fun _=>?_;clear hK9 K9)
     (intro K9 hK9;refine gD_ ?_;refine hK9 _ _ fun _=>?_;clear hK9 K9)
     refine gD_ ?_
     simpa using this
   ·rw [h1,h2] at this
    intro K9 hK9;refine g_TT ?_;refine gG_ ?_;rw [h1];refine hK9 _ _ fun _=>?_;clear hK9 K9
    intro K9 hK9;refine g_FF ?_;refine gG_ ?_;rw [h2];refine hK9 _ _ fun _=>?_;clear hK9 K9
    (intro K9 hK9;refine gD_ ?_;refine hK9 _ _ fun _=>?_;clear hK9 K9)
    (intro K9 hK9;refine gD_ ?_;refine hK9 _ _ fun _=>?_;clear hK9 K9)
    (intro K9 hK9;refine gD_ ?_;refine hK9 _ _ fun _=>?_;clear hK9 K9)
    (intro K9 hK9;refine gD_ ?_;refine hK9 _ _ fun _=>?_;clear hK9 K9)
    (intro K9 hK9;refine gD_ ?_;refine hK9 _ _ fun _=>?_;clear hK9 K9)
    refine gD_ ?_
    exact this
  ·rw [h1] at this
   intro K9 hK9;refine g_TT ?_;refine gG_ ?_;rw [h1];refine hK9 _ _ fun _=>?_;clear hK9 K9
   (intro K9 hK9;refine gD_ ?_;refine hK9 _ _ fun _=>?_;clear hK9 K9)
   (intro K9 hK9;refine gD_ ?_;refine hK9 _ _ fun _=>?_;clear hK9 K9)
   (intro K9 hK9;refine gD_ ?_;refine hK9 _ _ fun _=>?_;clear hK9 K9)
   (intro K9 hK9;refine gD_ ?_;refine hK9 _ _ fun _=>?_;clear hK9 K9)
   (intro K9 hK9;refine gD_ ?_;refine hK9 _ _ fun _=>?_;clear hK9 K9)
   (intro K9 hK9;refine gD_ ?_;refine hK9 _ _ fun _=>?_;clear hK9 K9)
   refine gD_ ?_
   exact this
end Go.Proofs
end
section
namespace Go.Proofs
open Go.Sh
set_option maxRecDepth 100000
set_option linter.unusedSimpArgs false
set_option linter.unusedVariables false
theorem agk (n : Nat) : zZ (List.replicate n false)=List.replicate n (.bool false):=by rw [zZ,List.map_replicate]
theorem aiF (n : Nat) : cf (List.replicate n false)=n:=by
 induction n with
 |zero=>rfl
 |succ n ih=>rw [List.replicate_succ,cf,ih];simp;omega
theorem agl {T : List Int} {n : Nat} {j : Int} (h : n≤T.length) : (T ++ [j]).drop n=T.drop n ++ [j]:=List.drop_append_of_le_length h
theorem aaY {ss : List StD} {p : Option Addr} {cap k : Nat} (hg : xQ ss) (h32 : ss.length≤32) (hk : k<ss.length) (h8 : ∀ k,(ze ss k).length≤8) {w : World} {r : Gh} {K : Value→World→Prop} (hr : Holds r w) (hs : StG r p ss)
  (h : ∀ w',Ext w w'→K (.bool (qj ss k)) w') : zd Tryz.prog Tryz.vk #[.slice p ss.length cap,.int .i64 k] w K:=by
 refine Tryz.aaa ?_
 unfold Tryz.Xn
 have S:=St.start hr
 refine gP_ ?_
 refine S.mkS (z:=.bool false) (by omega) (by omega) fun b13 w1 S=>?_
 rw [Int.toNat_natCast,← agk] at S
 refine S.lit (e:=3) (cs:=[.int .i64 k]) (by kernel_rfl) fun b16 w2 S=>?_
 have S:=S.ownNil 3 1
 refine S.ap (Sl.blk (S.blk b16)) (fun v17 w3 S=>?_) (by omega)
 rw [Int.toNat_natCast]
 have S : StX noX w r w3 [.row v17 3 1 [(k : Int)].length (ints [(k : Int)]),.cell b13 (zZ (List.replicate ss.length false)) 4]:=S.drop b16
 refine zi (ι:=List Int × Nat × List Bool × Value) (fun i=>[i.2.2.2,.int .i64 i.2.1]) (fun i w'=>QI ss k ss.length (i.1.drop i.2.1) i.2.2.1 none∧i.2.1≤i.1.length∧mt i.2.2.1 k=false∧cf i.2.2.1+i.1.length≤33∧StX noX w r w' [.row i.2.2.2 3 1 i.1.length (ints i.1),.cell b13 (zZ i.2.2.1) 4])
  (fun i=>2*cf i.2.2.1+(i.1.length - i.2.1)) ([(k : Int)],0,List.replicate ss.length false,v17) rfl ⟨QI.start (Nat.le_refl _) (by omega) (by omega),by simp,?_,by rw [aiF,List.length_singleton];omega,S⟩ ?_
 ·unfold mt;rw [List.getD_eq_getElem?_getD,List.getElem?_replicate];split<;>rfl
 clear S
 rintro ⟨T,n,met,v⟩ d w4 ⟨hq,hn,hmk,hc33,S⟩ K4 hK4
 simp only at hq hn hmk hc33 S ⊢
 rw [List.getD_cons_zero,List.getD_cons_succ,List.getD_cons_zero]
 have S0:=S
 obtain ⟨pv,capv,rfl,hpv,hcv,_,hsl⟩:=S.rowS v
 refine gP_ ?_
 refine gP_ ?_
 refine c_b (fun hlt=>?_) (fun hge=>?_)
 ·have hlt : n<T.length:=by simpa using hlt
  obtain ⟨x,hxT⟩ : ∃ x,T[n]? = some x:=⟨_,List.getElem?_eq_getElem hlt⟩
  have hTn : T[n]=x:=by rw [List.getElem?_eq_getElem hlt] at hxT;exact Option.some.inj hxT
  have hdr : T.drop n=x::T.drop (n+1):=by rw [List.drop_eq_getElem_cons hlt,hTn]
  rw [hdr] at hq
  obtain ⟨bq,oq,rfl,hcell⟩:=Yn hsl hlt
  rw [hTn] at hcell
  have hx:=hq.rng x List.mem_cons_self
  refine gP_ ?_
  refine zp (by simpa using hcell) ?_
  have hxn : x.toNat<ss.length:=by omega
  obtain ⟨bs',os',q,capf,rfl,hcs,_,_,hf⟩:=xP hs hxn
  refine gP_ ?_
  refine gP_ ?_
  refine zp (S.at hcs) ?_
  have htl : ze ss x=ss[x.toNat].fs.map (·.2):=by
   rw [← yA hxn];simp only [ze,Int.toNat_natCast]
  have hlen : (ze ss x).length=ss[x.toNat].fs.length:=by rw [htl,List.length_map]
  have h88:=h8 x
  refine zi (ι:=Nat × List Int × List Bool × Value) (fun i=>[i.2.2.2,.int .i64 i.1]) (fun i w'=>i.1≤(ze ss x).length∧QI ss k ss.length (i.2.1.drop (n+1)) i.2.2.1 (some (x,i.1))∧n+1≤i.2.1.length∧mt i.2.2.1 k=false∧cf i.2.2.1+i.2.1.length≤33∧
   2*cf i.2.2.1+(i.2.1.length - (n+1))≤2*cf met+(T.length - (n+1))∧StX noX w r w' [.row i.2.2.2 3 1 i.2.1.length (ints i.2.1),.cell b13 (zZ i.2.2.1) 4]) (fun i=>(ze ss x).length - i.1) (0,T,met,_) rfl ⟨Nat.zero_le _,hq.pop,hlt,hmk,hc33,Nat.le_refl _,S⟩ ?_
  clear S
  rintro ⟨i,T',met',v'⟩ d w5 ⟨hi,hq',hn',hmk',hc',hme,S⟩ K8 hK8
  simp only at hi hq' hn' hmk' hc' hme S ⊢
  rw [List.getD_cons_zero,List.getD_cons_succ,List.getD_cons_zero]
  refine gP_ ?_
  refine gP_ ?_
  refine c_b (fun hlt2=>?_) (fun hge=>?_)
  ·have hlt2 : i<ss[x.toNat].fs.length:=by simpa using hlt2
   have hlt3 : i<(ze ss x).length:=by omega
   have hel : (ze ss x)[i]=ss[x.toNat].fs[i].2:=by simp only [htl,List.getElem_map]
   refine zu (fun s w'=>∃ T2 met2 v2,s = [v2]∧QI ss k ss.length (T2.drop (n+1)) met2 (some (x,i+1))∧n+1≤T2.length∧mt met2 k=false∧cf met2+T2.length≤33∧2*cf met2+T2.length≤2*cf met'+T'.length∧StX noX w r w' [.row v2 3 1 T2.length (ints T2),.cell b13 (zZ met2) 4]) (fun K12 hK12=>?_) ?_
   ·obtain ⟨b2,off2,c,rfl,hcl,hcc,hty⟩:=kP hf hlt2
    refine gP_ ?_
    refine gP_ ?_
    refine zq (n:=5) (c:=c) hcl (fun j v hj=>by
     have:=S.at (hcc (j+1) v (by simpa using hj))
     rw [Int.toNat_natCast,Nat.add_assoc _ 1 j,Nat.add_comm 1 j];exact this) ?_
    refine S.al fun b10 w6 S=>?_
    have hone:=aff hty
    refine S.stB (fun w7 S=>?_) rfl (by simpa using hcl) hone
    obtain ⟨pt,capt,rfl,_⟩:=YT hty
    have S : StX noX w r w7 [.cell b10 [.int .u8 ss[x.toNat].fs[i].2.k,.bool ss[x.toNat].fs[i].2.m,.int .i64 ss[x.toNat].fs[i].2.re,.int .i64 ss[x.toNat].fs[i].2.st,.slice pt ss[x.toNat].fs[i].2.of.length capt] 57,.row v' 3 1 T'.length (ints T'),.cell b13 (zZ met') 4]:=S
    refine gG_ ?_
    rw [← hel]
    refine c_b (fun h5=>?_) (fun h5=>?_)
    ·have h5 : (ze ss x)[i].k≠5:=of_decide_eq_true h5
     exact hK12 _ _ ⟨T',met',v',rfl,hq'.skip hlt3 fun e=>absurd e h5,hn',hmk',hc',Nat.le_refl _,S.tl⟩
    have h5 : (ze ss x)[i].k=5:=by simpa using h5
    have hkid : Kid ss x (ze ss x)[i].st:=⟨_,List.getElem_mem hlt3,h5,rfl⟩
    have hin:=vA hg hkid
    have hml:=hq'.len
    refine gG_ ?_
    rw [← hel]
    refine c_b (fun hek=>?_) (fun hek=>?_)
    ·have hek : (ze ss x)[i].st=k:=of_decide_eq_true hek
     have hR : Rch ss k k:=by
      rw [hek] at hkid
      rcases (hq'.s4 _ rfl).1 with hx|hx
      ·have hx : x=k:=hx
       rw [hx] at hkid;exact .one hkid
      ·exact .more hx hkid
     have:=h _ S.ext
     rw [← Vk (b:=true) (fun _=>hR) (fun _=>rfl)] at this
     exact this
    have hek : ¬ (ze ss x)[i].st=k:=of_decide_eq_false hek
    refine gG_ ?_
    rw [← hel]
    refine gP_ ?_
    refine S.ld (b:=b13) (v:=.bool (mt met' (ze ss x)[i].st)) ?_ (by rw [Nat.zero_add];exact YU (by omega))
    refine gP_ ?_
    refine c_b (fun hm=>?_) (fun hm=>?_)
    ·have hm : mt met' (ze ss x)[i].st=false:=by simpa using hm
     refine gG_ ?_
     rw [← hel]
     refine gP_ ?_
     refine S.st (b:=b13) (fun w8 S=>?_) (by rw [Jz];omega)
     refine gG_ ?_
     rw [← hel]
     refine S.lit (e:=3) (cs:=[.int .i64 (ze ss x)[i].st]) (by kernel_rfl) fun b49 w9 S=>?_
     refine S.ap (m':=1) (Sl.blk (S.blk b49)) (fun v50 w10 S=>?_) (by omega)
     have hcf:=Jy (l:=met') (i:=(ze ss x)[i].st.toNat) (by
      unfold mt at hm
      rw [List.getD_eq_getElem?_getD,List.getElem?_eq_getElem (by omega)] at hm
      rw [List.getElem?_eq_getElem (by omega)]
      simpa using hm)
     refine hK12 _ _ ⟨T' ++ [(ze ss x)[i].st],met'.set (ze ss x)[i].st.toNat true,v50,rfl,?_,by rw [List.length_append];omega,?_,by rw [List.length_append,List.length_singleton];omega,by rw [List.length_append,List.length_singleton];omega,?_⟩
     ·rw [agl hn']
      exact hq'.push hg hlt3 h5
     ·rw [aea hin.1 (by omega) (by omega),hmk']
      simp only [Bool.or_false,decide_eq_false_iff_not]
      exact fun e=>hek e.symm
     ·have e1 : (zZ met').set (0+(ze ss x)[i].st.toNat) (.bool true)=zZ (met'.set (ze ss x)[i].st.toNat true):=by
       rw [Nat.zero_add,zZ,zZ,List.map_set]
      rw [e1] at S
      rw [List.length_append,VP]
      exact S.tl.tl
    ·have hm : mt met' (ze ss x)[i].st=true:=by simpa using hm
     exact hK12 _ _ ⟨T',met',v',rfl,hq'.skip hlt3 fun _=>hm,hn',hmk',hc',Nat.le_refl _,S.tl⟩
   ·rintro _ w6 ⟨T2,met2,v2,rfl,hq2,hn2,hmk2,hc2,hme2,S⟩ d6
    rw [List.getD_cons_zero]
    refine gP_ ?_
    rw [show ((i : Int)+1)=((i+1 : Nat) : Int) by omega]
    exact hK8 (i+1,T2,met2,v2) _ ⟨hlt3,hq2,hn2,hmk2,hc2,by simp only;omega,S⟩ (by simp only;omega)
  ·have hge : (ze ss x).length≤i:=by
    have : ¬ i<ss[x.toNat].fs.length:=by simpa using hge
    omega
   refine gP_ ?_
   rw [show ((n : Int)+1)=((n+1 : Nat) : Int) by omega]
   exact hK4 (T',n+1,met',v') _ ⟨hq'.done hge,hn',hmk',hc',S⟩ (by simp only;omega)
 ·have hge : T.length≤n:=by
   have : ¬ n<T.length:=by simpa using hge
   omega
  rw [List.drop_of_length_le hge] at hq
  have:=h _ S.ext
  rw [← Vk (b:=false) (fun e=>by cases e) (fun hR=>by rw [hq.all hg (by omega) hR] at hmk;cases hmk)] at this
  exact this
theorem aaZ {ss : List StD} {p : Option Addr} {cap : Nat} {w : World} {r : Gh} {K : Value→World→Prop} (hr : Holds r w) (hs : StG r p ss) (hm : ss.length≤1000000000) (hmf : ∀ k,(ze ss k).length≤1000000000)
  (h : ∀ w',Ext w w'→K (.tuple #[.int .i64 (zw ss).1,.int .i64 (zw ss).2]) w') : zd Tryz.prog Tryz.vj #[.slice p ss.length cap] w K:=by
 refine Tryz.V9 ?_
 unfold Tryz.Xm
 have S:=St.start hr
 refine gP_ ?_
 refine gP_ ?_
 refine c_b (fun hbig=>?_) (fun hsm=>?_)
 ·have hbig : 32<ss.length:=by have:=of_decide_eq_true hbig;omega
  rw [zw,if_pos hbig] at h
  exact h _ S.ext
 have hsm : ¬ 32<ss.length:=by have:=of_decide_eq_false hsm;omega
 rw [zw,if_neg hsm] at h
 refine zi (ι:=Nat) (fun i=>[.int .i64 i]) (fun i w'=>i≤ss.length∧(∀ j,j<i→xb ss j=false)∧StX noX w r w' []) (fun i=>ss.length - i) 0 rfl ⟨Nat.zero_le _,fun j hj=>by omega,S⟩ ?_
 clear S
 rintro i d w1 ⟨hi,hb,S⟩ K1 hK1
 rw [List.getD_cons_zero]
 refine gP_ ?_
 refine gP_ ?_
 refine c_b (fun hlt=>?_) (fun hge=>?_)
 ·have hlt : i<ss.length:=by simpa using hlt
  have hbadd : xb ss i=true→∀ w',Ext w w'→K (.tuple #[.int .i64 (i : Nat),.int .i64 2]) w':=fun hbd w' e=>by
   have hf:=qS hlt hbd hb
   have:=h w' e
   rw [hf,if_pos hlt] at this
   exact this
  obtain ⟨b,off,q,capq,rfl,hcell,hq0,hqc,hf⟩:=xP hs hlt
  refine gP_ ?_
  refine gP_ ?_
  refine zp (by rw [Int.toNat_natCast];exact S.at hcell) ?_
  have hlen:=ZD hlt
  have htl:=yA hlt
  have hmf':=hmf i
  refine gP_ ?_
  refine gP_ ?_
  refine zf (c:=decide (8<(ze ss i).length)) (fun _ K2 hK2=>?_) ?_
  ·refine gP_ ?_
   refine gP_ ?_
   rw [show decide ((8 : Int)<(ss[i].fs.length : Int))=decide (8<(ze ss i).length) from decide_eq_decide.2 (by omega)]
   exact hK2
  rw [show decide ((ss[i].fs.length : Int)<1)=decide ((ze ss i).length<1) from decide_eq_decide.2 (by omega)]
  refine c_b (fun hl=>?_) (fun hl=>?_)
  ·refine hbadd ?_ _ S.ext
   rw [xb,hl];rfl
  refine zi (ι:=Nat) (fun k=>[.int .i64 k]) (fun k w'=>k≤(ze ss i).length∧(((ze ss i).take k).any fun t=>!zz ss.length 48 t||decide (0<t.regs.length))=false∧StX noX w r w' []) (fun k=>(ze ss i).length - k) 0 rfl ⟨Nat.zero_le _,by simp,S⟩ ?_
  clear S
  rintro k d w2 ⟨hk,hno,S⟩ K9 hK9
  rw [List.getD_cons_zero]
  refine gP_ ?_
  refine gP_ ?_
  refine c_b (fun hlt2=>?_) (fun hge2=>?_)
  ·have hlt2 : k<ss[i].fs.length:=by simpa using hlt2
   have hlt3 : k<(ze ss i).length:=by omega
   have hel : (ze ss i)[k]=ss[i].fs[k].2:=by simp only [htl,List.getElem_map]
   obtain ⟨b2,off2,c,rfl,hcl,hcc,hty⟩:=kP hf hlt2
   have hrd : ∀ {w9 : World} {K : Value→Prop},StX noX w r w9 []→K (.agg c.toArray)→opQ Tryz.prog w9 (Instr.loadAt 57 (.pointer (some ⟨b2,off2+((k : Int)).toNat*6+1,none⟩))) K:=fun S k=>zq (n:=5) (c:=c) hcl (fun j v hj=>by
    have:=S.at (hcc (j+1) v (by simpa using hj))
    rw [Int.toNat_natCast,Nat.add_assoc _ 1 j,Nat.add_comm 1 j];exact this) k
   refine gP_ ?_
   refine gP_ ?_
   refine hrd S ?_
   refine gP_ ?_
   refine YS 48 (by decide) S.holds hty fun w3 e3=>?_
   have S:=S.go e3
   refine gP_ ?_
   refine ym (c:=decide (0<ss[i].fs[k].2.regs.length)) (fun hl K2 hK2=>?_) fun w4 e4=>?_
   ·have hl : zz ss.length 48 ss[i].fs[k].2=true:=by simpa using hl
    refine gP_ ?_
    refine gP_ ?_
    refine hrd S ?_
    refine acT 48 (by decide) hl S.holds hty fun w4 e4=>?_
    refine gP_ ?_
    rw [show (!decide (ss[i].fs[k].2.regs.length=0))=decide (0<ss[i].fs[k].2.regs.length) by
     rw [← decide_not];exact decide_eq_decide.2 (by omega)]
    exact hK2 _ e4
   have S:=S.go e4
   refine c_b (fun hy=>?_) (fun hn=>?_)
   ·refine hbadd ?_ _ S.ext
    have : ((ze ss i).any fun t=>!zz ss.length 48 t||decide (0<t.regs.length))=true:=List.any_eq_true.2 ⟨_,List.getElem_mem hlt3,by rw [hel];exact hy⟩
    rw [xb,this,Bool.or_true]
   ·refine gP_ ?_
    rw [show ((k : Int)+1)=((k+1 : Nat) : Int) by omega]
    refine hK9 (k+1) _ ⟨hlt3,?_,S⟩ (by omega)
    rw [List.take_succ_eq_append_getElem hlt3,List.any_append,hno,hel]
    simp only [List.any_cons,List.any_nil,Bool.false_or,Bool.or_false]
    exact hn
  ·have hie : k=(ze ss i).length:=by
    have : ¬ k<ss[i].fs.length:=by simpa using hge2
    omega
   rw [hie,List.take_length] at hno
   refine gP_ ?_
   rw [show ((i : Int)+1)=((i+1 : Nat) : Int) by omega]
   refine hK1 (i+1) _ ⟨hlt,fun j hj=>?_,S⟩ (by omega)
   by_cases hji : j=i
   ·rw [hji,xb,hl,hno];rfl
   ·exact hb j (by omega)
 have hie : i=ss.length:=by
  have : ¬ i<ss.length:=by simpa using hge
  omega
 rw [hie] at hb
 have h1 : ¬ xu ss.length (xb ss)<ss.length:=by rw [qR hb];omega
 rw [if_neg h1] at h
 have hgd:=X6 hb
 refine zi (ι:=Nat) (fun i=>[.int .i64 i]) (fun i w'=>i≤ss.length∧(∀ j,j<i→qj ss j=false)∧StX noX w r w' []) (fun i=>ss.length - i) 0 rfl ⟨Nat.zero_le _,fun j hj=>by omega,S⟩ ?_
 clear S hie hge hi
 rintro i d w5 ⟨hi,hb2,S⟩ K1 hK1
 rw [List.getD_cons_zero]
 refine gP_ ?_
 refine gP_ ?_
 refine c_b (fun hlt=>?_) (fun hge=>?_)
 ·have hlt : i<ss.length:=by simpa using hlt
  refine aaY hgd (by omega) hlt (xT hb) S.holds hs fun w6 e6=>?_
  have S:=S.go e6
  refine c_b (fun hy=>?_) (fun hn=>?_)
  ·have hf:=qS hlt hy hb2
   rw [hf,if_pos hlt] at h
   exact h _ S.ext
  ·refine gP_ ?_
   rw [show ((i : Int)+1)=((i+1 : Nat) : Int) by omega]
   refine hK1 (i+1) _ ⟨hlt,fun j hj=>?_,S⟩ (by omega)
   by_cases hji : j=i
   ·rw [hji];exact hn
   ·exact hb2 j (by omega)
 have hie : i=ss.length:=by
  have : ¬ i<ss.length:=by simpa using hge
  omega
 rw [hie] at hb2
 have h2 : ¬ xu ss.length (qj ss)<ss.length:=by rw [qR hb2];omega
 rw [if_neg h2] at h
 have hac:=Vj hgd hb2
 refine zi (ι:=Nat) (fun i=>[.int .i64 i]) (fun i w'=>i≤ss.length∧(∀ j,j<i→Zf ss j=false)∧StX noX w r w' []) (fun i=>ss.length - i) 0 rfl ⟨Nat.zero_le _,fun j hj=>by omega,S⟩ ?_
 clear S hie hge hi
 rintro i d w5 ⟨hi,hb3,S⟩ K1 hK1
 rw [List.getD_cons_zero]
 refine gP_ ?_
 refine gP_ ?_
 refine c_b (fun hlt=>?_) (fun hge=>?_)
 ·have hlt : i<ss.length:=by simpa using hlt
  refine zx (cs:=#[.int .u8 5,.bool false,.int .i64 0,.int .i64 i,.slice none 0 0]) (by kernel_rfl) ?_
  refine acU hgd hac 40 (t:=.mk 5 false 0 i []) (most:=16) (by decide) (by decide) (by have:=aaV ss (.mk 5 false 0 i []);omega) ?_ (by omega) (xT hb) S.holds hs (yh (r:=r)) fun w9 e9=>?_
  ·rw [xE]
   simp [TyD.k,TyD.m,TyD.re,TyD.of,TyD.st]
   omega
  have S:=S.go e9
  refine gP_ ?_
  rw [show decide ((((min (wF ss 40 (.mk 5 false 0 i [])) (16+1) : Nat) : Int)) > 16)=decide (16<wF ss 40 (.mk 5 false 0 i [])) from decide_eq_decide.2 (by omega)]
  refine c_b (fun hy=>?_) (fun hn=>?_)
  ·have hf:=qS (p:=Zf ss) hlt hy hb3
   rw [hf,if_pos hlt] at h
   exact h _ S.ext
  ·refine gP_ ?_
   rw [show ((i : Int)+1)=((i+1 : Nat) : Int) by omega]
   refine hK1 (i+1) _ ⟨hlt,fun j hj=>?_,S⟩ (by omega)
   by_cases hji : j=i
   ·rw [hji];exact hn
   ·exact hb3 j (by omega)
 have hie : i=ss.length:=by
  have : ¬ i<ss.length:=by simpa using hge
  omega
 rw [hie] at hb3
 have h3 : ¬ xu ss.length (Zf ss)<ss.length:=by rw [qR hb3];omega
 rw [if_neg h3] at h
 exact h _ S.ext
theorem VR {ss : List StD} {t : TyD} {p : Option Addr} {cap : Nat} {w : World} {r : Gh} {v : Value} {K : Value→World→Prop} (hr : Holds r w) (hs : StG r p ss) (hm : ss.length≤1000000000) (hmf : ∀ k,(ze ss k).length≤1000000000) (hv : TyG r v t)
  (h : ∀ w',Ext w w'→K (.bool (zY ss t)) w') : zd Tryz.prog Tryz.Zm #[.slice p ss.length cap,v] w K:=by
 refine Tryz.ad5 ?_
 unfold Tryz.VN
 have hv0:=hv
 obtain ⟨p1,cap1,rfl,_⟩:=hv
 have S:=St.start hr
 refine S.box fun b3 w1 S=>?_
 refine aaZ S.holds hs hm hmf fun w2 e2=>?_
 have S:=S.go e2
 refine gP_ ?_
 refine gP_ ?_
 refine gP_ ?_
 refine zm (c:=zz ss.length 48 t) (fun _ K2 hK2=>?_) fun w3 e3=>h _ (S.go e3).ext
 refine gL_ ?_
 refine gP_ ?_
 exact YS 48 (by decide) S.holds hv0 fun w3 e3=>hK2 _ e3
theorem acW {ss : List StD} {t : TyD} {p : Option Addr} {cap : Nat} {w : World} {r : Gh} {v : Value} {K : Value→World→Prop} (hr : Holds r w) (hs : StG r p ss) (hm : ss.length≤1000000000) (hmf : ∀ k,(ze ss k).length≤1000000000) (hv : TyG r v t)
  (h : ∀ w',Ext w w'→K (.tuple #[.bool (k0 ss t).1,.int .i64 (k0 ss t).2]) w') : zd Tryz.prog Tryz.ZN #[.slice p ss.length cap,v] w K:=by
 refine Tryz.abO ?_
 unfold Tryz.QR
 have hv0:=hv
 obtain ⟨p1,cap1,rfl,_⟩:=hv
 have S:=St.start hr
 refine S.box fun b3 w1 S=>?_
 refine gL_ ?_
 refine VR S.holds hs hm hmf hv0 fun w2 e2=>?_
 have S:=S.go e2
 refine gP_ ?_
 refine c_b (fun hn=>?_) (fun hn=>?_)
 ·have hn : zY ss t=false:=by simpa using hn
  rw [k0,hn] at h
  exact h _ S.ext
 have hn : zY ss t=true:=by simpa using hn
 rw [k0,if_pos hn] at h
 obtain ⟨hok,hl⟩:=YV hn
 obtain ⟨h32,hb1,hg,hac,_,_⟩:=xF hok
 refine gL_ ?_
 exact acV hg hac 40 (by decide) (by have:=aaV ss t;omega) hl h32 (xT hb1) S.holds hs hv0 fun w3 e3=>h _ (S.go e3).ext
end Go.Proofs
end
section
namespace Go.Proofs
open Go.Sh
set_option maxRecDepth 100000
set_option linter.unusedSimpArgs false
set_option linter.unusedVariables false
def un (gs : Nat→Gh) (i n : Nat) : Gh:=fun b o=>∃ j,i≤j∧j<n∧gs j b o
structure aiG (top : Gh) (gs : Nat→Gh) (q : Option Addr) (ts : List TyD) : Prop where
 at' : ∀ (i : Nat) (hi : i<ts.length),∃ (b off : Nat) (c : List Value),q=some ⟨b,off,none⟩∧c.length=5∧(∀ j v,c[j]? = some v→Ob top fun w=>w.cell? ⟨b,off+i*5+j,none⟩=some v)∧TyG (gs i) (.agg c.toArray) ts[i]∧Jv (gs i) (.agg c.toArray) ts[i]
 dis : ∀ i j,i≠j→i<ts.length→j<ts.length→Dis (gs i) (gs j)
 dtop : ∀ i,i<ts.length→Dis (gs i) top
def TysG (s : Gh) (q : Option Addr) (ts : List TyD) : Prop:=
 ∀ (i : Nat) (hi : i<ts.length),∃ (b off : Nat) (c : List Value),q=some ⟨b,off,none⟩∧c.length=5∧(∀ j v,c[j]? = some v→Ob s fun w=>w.cell? ⟨b,off+i*5+j,none⟩=some v)∧TyG s (.agg c.toArray) ts[i]
theorem ChnL.frz2 {X : Nat→Prop} {w0 w : World} {c : List Value} {t : TyD} {N : List Asr} (h : ChnL c t N) : ∀ {r : Gh} {L : List Asr},StX X w0 r w (N++L)→
  ∃ sn,StX X w0 (r.or sn) w L∧TyG sn (.agg c.toArray) t∧Jv sn (.agg c.toArray) t∧(∀ b o,sn b o→w0.heap.size≤b∨X b)∧Dis sn r:=by
 induction h with
 |nil=>
  intro r L S
  exact ⟨nothing,S.to _,yh,.nil,fun _ _ h=>h.elim,fun _ _ _ h=>h.elim⟩
 |@one b c k re st m u N hu ih=>
  intro r L S
  have S : StX X w0 r w (N++(.cell b c 57::L)):=S.perm List.perm_middle.symm
  have hm0:=S.mine (.cell b c 57) (by simp) b rfl
  obtain ⟨sn,S,ht,hg,hf,hd⟩:=ih S
  have hm:=S.mine (.cell b c 57) (by simp) b rfl
  have S:=S.frz
  refine ⟨sn.or (Go.Sh.one b c 57),S.to _,agj ht,.one (fun o ho=>hm.2 o (.inr ho)) hu.len ht hg,fun b' o ho=>?_,fun b' o o' ho hr=>?_⟩
  ·rcases ho with ho|⟨rfl,_⟩
   ·exact hf b' o ho
   ·exact hm.1
  ·rcases ho with ho|⟨rfl,_⟩
   ·exact hd b' o o' ho hr
   ·exact hm0.2 o' hr
theorem ah1 {c : List Value} {t : TyD} {N : List Asr} (h : ChnL c t N) : adR Tryz.prog 29 1 #[(0,.agg c.toArray)]=some (57,c):=by
 cases h<;>kernel_rfl
noncomputable def yi (ss : List StD) (t : TyD) : List TyD × Int:=if zY ss t&&decide (t.k=5) then (ze ss t.st,0) else ([],2)
theorem abS {ss : List StD} {t : TyD} {p : Option Addr} {cap : Nat} {w : World} {r : Gh} {v : Value} {K : Value→World→Prop} (hr : Holds r w) (hs : StG r p ss) (hv : TyG r v t)
  (h : ∀ q cp top gs w',Ext w w'→New w (top.or (un gs 0 (yi ss t).1.length)) w'→aiG top gs q (yi ss t).1→(yi ss t).1.length≤cp→K (.tuple #[.slice q (yi ss t).1.length cp,.int .i64 (yi ss t).2]) w') : zd Tryz.prog Tryz.Zb #[.slice p ss.length cap,v] w K:=by
 refine Tryz.aaM ?_
 unfold Tryz.XW
 have hv0:=hv
 obtain ⟨p1,cap1,rfl,_⟩:=hv
 have S:=St.start hr
 refine S.box fun b3 w1 S=>?_
 refine gL_ ?_
 refine XH S.holds hs hv0 fun w2 e2=>?_
 have S:=S.go e2
 refine gP_ ?_
 refine zf (c:=decide (t.k≠5)) (fun _ K2 hK2=>?_) ?_
 ·refine gG_ ?_
  exact hK2
 refine c_b (fun hn=>?_) (fun hn=>?_)
 ·have hn : (zY ss t&&decide (t.k=5))=false:=by
   cases hm : zY ss t
   ·rfl
   ·rw [hm] at hn;simpa using hn
  rw [yi,hn] at h
  exact h none 0 nothing (fun _=>nothing) _ S.ext ⟨fun b o ho=>by rcases ho with ho|⟨_,_,_,ho⟩<;>exact ho.elim,fun b o ho=>by rcases ho with ho|⟨_,_,_,ho⟩<;>exact ho.elim⟩
   ⟨fun i hi=>by simp at hi,fun i j _ hi=>by simp at hi,fun i hi=>by simp at hi⟩ (Nat.le_refl _)
 have hn : zY ss t=true∧t.k=5:=by
  cases hm : zY ss t
  ·rw [hm] at hn;simp at hn
  ·rw [hm] at hn;exact ⟨rfl,by simpa using hn⟩
 obtain ⟨hm,h5⟩:=hn
 rw [yi,hm,decide_eq_true h5] at h
 simp only [Bool.and_true,if_true] at h
 obtain ⟨hok,hl⟩:=YV hm
 obtain ⟨h32,hb1,hg,hac,_,_⟩:=xF hok
 obtain ⟨hst0,hst1,_⟩:=qY hl h5
 have hlt : t.st.toNat<ss.length:=by omega
 obtain ⟨b,off,q,capq,rfl,hcell,_,_,hf⟩:=xP hs hlt
 have htl : ze ss t.st=ss[t.st.toNat].fs.map (·.2):=by
  rw [← yA hlt];simp only [ze,Int.toNat_natCast]
 have hlen : (ze ss t.st).length=ss[t.st.toNat].fs.length:=by rw [htl,List.length_map]
 have h88:=xT hb1 t.st
 refine gG_ ?_
 refine zp (S.at hcell) ?_
 refine gP_ ?_
 have S:=S.tl
 have S:=S.ownNil 57 5
 have S:=S.to (r.or (un (fun _=>nothing) 0 0)) (l:=⟨fun b o ho=>by rcases ho with ho|⟨_,_,h2,_⟩;exact ho;omega⟩)
 refine zi (ι:=Nat × Value × List Value × (Nat→Gh)) (fun i=>[i.2.1,.int .i64 i.1]) (fun i w'=>i.1≤(ze ss t.st).length∧i.2.2.1.length=i.1*5∧
   (∀ j (hj : j<(ze ss t.st).length),j<i.1→((i.2.2.1.drop (j*5)).take 5).length=5∧TyG (i.2.2.2 j) (.agg ((i.2.2.1.drop (j*5)).take 5).toArray) (ze ss t.st)[j]∧Jv (i.2.2.2 j) (.agg ((i.2.2.1.drop (j*5)).take 5).toArray) (ze ss t.st)[j])∧
   (∀ j,j<i.1→∀ b o,i.2.2.2 j b o→w.heap.size≤b)∧(∀ j k,j≠k→j<i.1→k<i.1→Dis (i.2.2.2 j) (i.2.2.2 k))∧StX noX w (r.or (un i.2.2.2 0 i.1)) w' [.row i.2.1 57 5 i.1 i.2.2.1])
  (fun i=>(ze ss t.st).length - i.1) (0,.slice none 0 0,[],fun _=>nothing) rfl ⟨Nat.zero_le _,rfl,fun j _ hj=>by omega,fun j hj=>by omega,fun j k _ hj=>by omega,S⟩ ?_
 clear S
 rintro ⟨i,v,xs,gs⟩ d w3 ⟨hi,hxl,hel,hfr,hdis,S⟩ K7 hK7
 simp only at hi hxl hel hfr hdis S ⊢
 rw [List.getD_cons_zero,List.getD_cons_succ,List.getD_cons_zero]
 refine gP_ ?_
 refine c_b (fun hlt2=>?_) (fun hge=>?_)
 ·have hlt2 : i<ss[t.st.toNat].fs.length:=by simpa using hlt2
  have hlt3 : i<(ze ss t.st).length:=by omega
  have hel2 : (ze ss t.st)[i]=ss[t.st.toNat].fs[i].2:=by simp only [htl,List.getElem_map]
  have hmem : ss[t.st.toNat].fs[i].2 ∈ ze ss t.st:=by rw [← hel2];exact List.getElem_mem hlt3
  obtain ⟨b2,off2,c,rfl,hcl,hcc,hty⟩:=kP hf hlt2
  refine gP_ ?_
  refine zq (n:=6) (c:=.string ss[t.st.toNat].fs[i].1::c) (by simp [hcl]) (fun j v hj=>by rw [Int.toNat_natCast];exact S.at (hcc j v hj)) ?_
  refine S.al fun b8 w4 S=>?_
  refine S.stB (b:=b8) (cs:=(Value.string ss[t.st.toNat].fs[i].1::c).toArray) (fun w5 S=>?_) rfl (by simp [hcl]) (aae hty)
  refine gP_ ?_
  refine S.fty hcl ?_
  refine VQ (s:=ss.length) 48 (by decide) (hg _ _ hmem) S.tl hty.up fun c' N w6 hch S=>?_
  have hcl':=hch.len
  have hone':=hch.ones
  obtain ⟨sn,S,ht,hcg,hfn,hdn⟩:=hch.frz2 S
  refine S.lit (e:=57) (cs:=c') (ah1 hch) fun b33 w7 S=>?_
  refine S.ap (m':=1) (Sl.blk (S.blk b33)) (fun v34 w8 S=>?_) (by omega) (by omega) (by simp) hone'
  have S:=S.tl
  refine gP_ ?_
  rw [show ((i : Int)+1)=((i+1 : Nat) : Int) by omega]
  refine hK7 (i+1,v34,xs++c',fun j=>if j=i then sn else gs j) _ ⟨hlt3,by simp only [List.length_append];omega,fun j hj hji=>?_,fun j hj b o ho=>?_,fun j k hjk hj hk=>?_,?_⟩ (by simp only;omega)
  ·by_cases hji' : j=i
   ·subst hji'
    simp only [if_true]
    have e : ((xs++c').drop (j*5)).take 5=c':=by
     rw [← hxl,List.drop_left',List.take_of_length_le (by omega)];rfl
    rw [e,hel2]
    exact ⟨hcl',ht,hcg⟩
   ·simp only [if_neg hji']
    have e : ((xs++c').drop (j*5)).take 5=(xs.drop (j*5)).take 5:=by
     rw [List.drop_append_of_le_length (by omega),List.take_append_of_le_length (by rw [List.length_drop];omega)]
    rw [e]
    exact hel j hj (by omega)
  ·simp only at ho
   split at ho
   ·exact (hfn b o ho).elim id fun h=>h.elim
   ·exact hfr j (by omega) b o ho
  ·simp only
   by_cases h1 : j=i
   ·rw [if_pos h1,if_neg (by omega)]
    exact fun b o o' ho ho'=>hdn b o o' ho (.inr ⟨k,Nat.zero_le _,by omega,ho'⟩)
   ·rw [if_neg h1]
    by_cases h2 : k=i
    ·rw [if_pos h2]
     exact fun b o o' ho ho'=>hdn b o' o ho' (.inr ⟨j,Nat.zero_le _,by omega,ho⟩)
    ·rw [if_neg h2]
     exact hdis j k hjk (by omega) (by omega)
  ·simp only
   exact S.to _ (l:=⟨fun b o ho=>by
    rcases ho with ho|⟨j,_,hj,ho⟩
    ·exact .inl (.inl ho)
    ·split at ho
     ·exact .inr ho
     ·exact .inl (.inr ⟨j,Nat.zero_le _,by omega,ho⟩)⟩)
 ·have hge : i=(ze ss t.st).length:=by
   have : ¬ i<ss[t.st.toNat].fs.length:=by simpa using hge
   omega
  subst hge
  have hpos : (ze ss t.st).length≠0:=by
   have:=hb1 t.st.toNat hlt
   have e : ze ss (t.st.toNat : Int)=ze ss t.st:=by rw [ze,ze,Int.toNat_natCast]
   rw [xb,e,Bool.or_eq_false_iff,Bool.or_eq_false_iff] at this
   simp only [decide_eq_false_iff_not] at this
   omega
  obtain ⟨b9,cap9,c9,rfl,hc9,hcl9,htk9,S⟩:=S.rowCell v hpos
  have hm9:=S.mine (.cell b9 c9 57) (by simp) b9 rfl
  have S:=S.frz
  refine h _ _ (one b9 c9 57) gs _ S.ext ⟨S.holds.le (h:=⟨fun b o ho=>by
   rcases ho with ho|ho
   ·exact .inr ho
   ·exact .inl (.inr ho)⟩),fun b o ho=>?_⟩ ⟨fun j hj=>?_,fun j k hjk hj hk=>hdis j k hjk hj hk,fun j hj b o o' ho ho'=>?_⟩ hc9
  ·rcases ho with ⟨rfl,_⟩|⟨j,_,hj,ho⟩
   ·exact hm9.1.resolve_right id
   ·exact hfr j hj b o ho
  ·obtain ⟨h1,h2,h3⟩:=hel j hj hj
   refine ⟨b9,0,_,rfl,h1,fun k v hk w' hw=>?_,h2,h3⟩
   have B:=yF (b:=b9) (c:=c9) (T:=57) w' hw
   show w'.cell? _=some v
   rw [Nat.zero_add,B.cell]
   have hk5 : k<5:=by have:=(List.getElem?_eq_some_iff.1 hk).1;omega
   rw [List.getElem?_take,if_pos hk5,List.getElem?_drop,← htk9,List.getElem?_take] at hk
   split at hk
   ·exact hk
   ·cases hk
  ·obtain ⟨rfl,_⟩:=ho'
   exact hm9.2 o (.inr ⟨j,Nat.zero_le _,hj,ho⟩)
theorem ah2 {r : Gh} {cs c : List Value} {u : TyD} {b cap : Nat} {k re st : Int} {m : Bool} (h : TyG r (.agg cs.toArray) u) (hc : c.take 5=cs) (hcap : 1≤cap) :
  TyG (r.or (one b c 57)) (.agg #[.int .u8 k,.bool m,.int .i64 re,.int .i64 st,.slice (some ⟨b,0,none⟩) 1 cap]) (.mk k m re st [u]):=by
 obtain ⟨c1,hc1,hcl,hr⟩:=h.rep
 have hc1 : cs=c1:=List.toArray_inj (Value.agg.inj hc1)
 subst hc1
 refine ⟨_,cap,rfl,by simp,hcap,?_⟩
 refine ⟨⟨cs,hcl,fun j x hj=>⟨b,0,rfl,fun w hw=>?_⟩,hr.up⟩,trivial⟩
 have B:=yF (b:=b) (c:=c) (T:=57) w (hw.le (h:=inferInstance))
 show w.cell? ⟨b,0+0*5+j,none⟩=some x
 rw [show 0+0*5+j=j by omega,B.cell]
 rw [← hc,List.getElem?_take] at hj
 split at hj
 ·exact hj
 ·cases hj
theorem aeV {s : Int} : ∀ (n : Nat) {t : TyD} {w : World} {r : Gh} {v : Value} {K : Value→World→Prop},n≤1000→zz s n t=true→Holds r w→TyG r v t→
  (∀ v' sn w',Ext w w'→New w sn w'→TyG sn v' t→K v' w')→zd Tryz.prog Tryz.Zn #[v] w K:=by
 intro n
 induction n with
 |zero=>intro t w r v K _ h;cases h
 |succ n ih=>
  intro t w r v K hn hl hr hv h
  refine Tryz.ad6 ?_
  unfold Tryz.VO
  obtain ⟨p1,cap1,rfl,hp1,hcap1,hof⟩:=hv
  have S:=St.start hr
  refine S.box fun b1 w1 S=>?_
  refine S.al fun b2 w2 S=>?_
  have S : StX noX w r w2 [.cell b2 [.int .u8 0,.bool false,.int .i64 0,.int .i64 0,.slice none 0 0] 57,.cell b1 [.int .u8 t.k,.bool t.m,.int .i64 t.re,.int .i64 t.st,.slice p1 t.of.length cap1] 57]:=S
  have he : t = .mk t.k t.m t.re t.st t.of:=by cases t;rfl
  refine gG_ ?_
  refine S.st fun w3 S=>?_
  have fin : ∀ {w9 : World} {q : Gh} {v9 : Value},StX noX w q w9 [.cell b2 [.int .u8 0,.bool false,.int .i64 0,.int .i64 0,.slice none 0 0] 57,.cell b1 [.int .u8 t.k,.bool t.m,.int .i64 t.re,.int .i64 t.st,v9] 57]→v9.oneCell'=true→
    (∃ sn,Le sn q∧(∀ b o,sn b o→w.heap.size≤b)∧TyG sn (.agg #[.int .u8 t.k,.bool t.m,.int .i64 t.re,.int .i64 t.st,v9]) t)→
    opQ Tryz.prog w9 (Instr.loadAt 57 (.pointer (some ⟨b1,0,none⟩))) fun t24=>opU Tryz.prog w9 (Instr.storeAt 57 (.pointer (some ⟨b2,0,none⟩)) t24) fun w12=>opQ Tryz.prog w12 (zt 57 (.pointer (some ⟨b2,0,none⟩))) fun r13=>K r13 w12:=by
   intro w9 q v9 S h1 ⟨sn,hle,hf,hty⟩
   refine gG_ ?_
   refine S.stB (h1:=by
    intro u hu
    simp only [List.mem_cons,List.not_mem_nil,or_false] at hu
    rcases hu with rfl|rfl|rfl|rfl|rfl<;>first|rfl|exact h1) fun w7 S=>?_
   refine gG_ ?_
   exact h _ sn _ S.ext ⟨S.holds.le (h:=hle),hf⟩ hty
  rcases zS hl with ⟨ho,_⟩|⟨u,ho,hu,_⟩
  ·refine zi (ι:=Unit) (fun _=>[.int .i64 0]) (fun _ w'=>w'=w3) (fun _=>0) () rfl rfl ?_
   rintro ⟨⟩ d w5 rfl K6 hK6
   rw [List.getD_cons_zero]
   refine gP_ ?_
   refine gP_ ?_
   refine c_f (by rw [ho];rfl) ?_
   refine fin S rfl ⟨nothing,inferInstance,fun _ _ h=>h.elim,?_⟩
   rw [he,ho]
   exact yh
  ·have hlen : t.of.length=1:=by rw [ho];rfl
   have S3:=S
   obtain ⟨ba,oa,rfl,c,hc,hcell,ht⟩:=NdG.of hof (i:=0) (by omega)
   have ht : TyG r (.agg c.toArray) u:=by simpa [ho] using ht
   refine zi (ι:=Bool) (fun i=>[.int .i64 (if i then 1 else 0)]) (fun i w'=>if i then ∃ q v9,StX noX w q w' [.cell b2 [.int .u8 0,.bool false,.int .i64 0,.int .i64 0,.slice none 0 0] 57,.cell b1 [.int .u8 t.k,.bool t.m,.int .i64 t.re,.int .i64 t.st,v9] 57]∧v9.oneCell'=true∧
     ∃ sn,Le sn q∧(∀ b o,sn b o→w.heap.size≤b)∧TyG sn (.agg #[.int .u8 t.k,.bool t.m,.int .i64 t.re,.int .i64 t.st,v9]) t
    else StX noX w r w' [.cell b2 [.int .u8 0,.bool false,.int .i64 0,.int .i64 0,.slice none 0 0] 57,.cell b1 [.int .u8 t.k,.bool t.m,.int .i64 t.re,.int .i64 t.st,.slice none 0 0] 57]) (fun i=>if i then 0 else 1) false rfl S3 ?_
   clear S S3
   rintro i d w5 hI K6 hK6
   rw [List.getD_cons_zero]
   refine gP_ ?_
   cases i with
   |true=>
    obtain ⟨q,v9,S,h1,hx⟩:=hI
    refine gP_ ?_
    refine c_f (by rw [hlen];rfl) ?_
    exact fin S h1 hx
   |false=>
    have S : StX noX w r w5 [.cell b2 [.int .u8 0,.bool false,.int .i64 0,.int .i64 0,.slice none 0 0] 57,.cell b1 [.int .u8 t.k,.bool t.m,.int .i64 t.re,.int .i64 t.st,.slice none 0 0] 57]:=hI
    refine gP_ ?_
    refine c_t (by rw [hlen];rfl) ?_
    have S:=S.go (Ext.drew _)
    simp only [Bool.false_eq_true,if_false]
    refine gG_ ?_
    refine zq (n:=5) hc (fun j v hj=>by simpa using S.at (hcell j v hj)) ?_
    refine ih (by omega) hu S.holds ht fun v4 sn w6 e6 n6 ht6=>⟨e6,?_⟩
    obtain ⟨S,_,hf⟩:=S.tell e6 n6
    obtain ⟨p6,cap6,rfl,_⟩:=id ht6
    refine S.litU (e:=57) (cs:=[.int .u8 u.k,.bool u.m,.int .i64 u.re,.int .i64 u.st,.slice p6 u.of.length cap6]) (by kernel_rfl) fun b7 w7 S=>?_
    have S:=S.ownNil 57 5
    refine S.ap (m':=1) (Sl.blk (S.blk b7)) (fun v8 w8 S=>?_) (by omega)
    obtain ⟨b9,cap9,c9,rfl,hc9,hcl9,htk9,S⟩:=S.rowCell v8 (by decide)
    have hm9:=S.mine (.cell b9 c9 57) (by simp) b9 rfl
    have S:=S.frz
    refine gP_ ?_
    refine S.st (b:=b1) fun w9 S=>?_
    refine gP_ ?_
    refine hK6 true _ ⟨_,.slice (some ⟨b9,0,none⟩) 1 cap9,S.tl,rfl,sn.or (one b9 c9 57),inferInstance,fun b o hb=>?_,?_⟩ (by decide)
    ·rcases hb with hb|⟨rfl,_⟩
     ·exact hf b o hb
     ·exact hm9.1.resolve_right id
    ·rw [he,ho]
     exact ah2 ht6 htk9 (by omega)
theorem abT {ss : List StD} {t : TyD} {p : Option Addr} {cap : Nat} {w : World} {r : Gh} {v : Value} {K : Value→World→Prop} (hr : Holds r w) (hs : StG r p ss) (hm1 : ss.length≤1000000000) (hmf : ∀ k,(ze ss k).length≤1000000000) (hv : TyG r v t)
  (h : ∀ q cp sn w',Ext w w'→New w sn w'→TysG sn q (yi ss t).1→K (.tuple #[.slice q (yi ss t).1.length cp,.int .i64 (yi ss t).2]) w') : zd Tryz.prog Tryz.Zc #[.slice p ss.length cap,v] w K:=by
 refine Tryz.aaQ ?_
 unfold Tryz.X0
 have hv0:=hv
 obtain ⟨p1,cap1,rfl,_⟩:=hv
 have S:=St.start hr
 refine S.box fun b3 w1 S=>?_
 refine gL_ ?_
 refine VR S.holds hs hm1 hmf hv0 fun w2 e2=>?_
 have S:=S.go e2
 refine gP_ ?_
 refine zf (c:=decide (t.k≠5)) (fun _ K2 hK2=>?_) ?_
 ·refine gG_ ?_
  exact hK2
 refine c_b (fun hn=>?_) (fun hn=>?_)
 ·have hn : (zY ss t&&decide (t.k=5))=false:=by
   cases hm : zY ss t
   ·rfl
   ·rw [hm] at hn;simpa using hn
  rw [yi,hn] at h
  exact h none 0 nothing _ S.ext New.nothing fun i hi=>by simp at hi
 have hn : zY ss t=true∧t.k=5:=by
  cases hm : zY ss t
  ·rw [hm] at hn;simp at hn
  ·rw [hm] at hn;exact ⟨rfl,by simpa using hn⟩
 obtain ⟨hm,h5⟩:=hn
 rw [yi,hm,decide_eq_true h5] at h
 simp only [Bool.and_true,if_true] at h
 obtain ⟨hok,hl⟩:=YV hm
 obtain ⟨h32,hb1,hg,hac,_,_⟩:=xF hok
 obtain ⟨hst0,hst1,_⟩:=qY hl h5
 have hlt : t.st.toNat<ss.length:=by omega
 obtain ⟨b,off,q,capq,rfl,hcell,_,_,hf⟩:=xP hs hlt
 have htl : ze ss t.st=ss[t.st.toNat].fs.map (·.2):=by
  rw [← yA hlt];simp only [ze,Int.toNat_natCast]
 have hlen : (ze ss t.st).length=ss[t.st.toNat].fs.length:=by rw [htl,List.length_map]
 have h88:=xT hb1 t.st
 refine gG_ ?_
 refine zp (S.at hcell) ?_
 have S:=S.tl
 have S:=S.ownNil 57 5
 have S:=S.to (r.or nothing) (l:=⟨fun b o ho=>ho.elim id fun h=>h.elim⟩)
 refine zi (ι:=Nat × Value × List Value × Gh) (fun i=>[i.2.1,.int .i64 i.1]) (fun i w'=>i.1≤(ze ss t.st).length∧i.2.2.1.length=i.1*5∧
   (∀ j (hj : j<(ze ss t.st).length),j<i.1→((i.2.2.1.drop (j*5)).take 5).length=5∧TyG i.2.2.2 (.agg ((i.2.2.1.drop (j*5)).take 5).toArray) (ze ss t.st)[j])∧
   (∀ b o,i.2.2.2 b o→w.heap.size≤b)∧StX noX w (r.or i.2.2.2) w' [.row i.2.1 57 5 i.1 i.2.2.1])
  (fun i=>(ze ss t.st).length - i.1) (0,.slice none 0 0,[],nothing) rfl ⟨Nat.zero_le _,rfl,fun j _ hj=>by omega,fun b o ho=>ho.elim,S⟩ ?_
 clear S
 rintro ⟨i,v,xs,sn⟩ d w3 ⟨hi,hxl,hel,hfr,S⟩ K7 hK7
 simp only at hi hxl hel hfr S ⊢
 rw [List.getD_cons_zero,List.getD_cons_succ,List.getD_cons_zero]
 refine gP_ ?_
 refine gP_ ?_
 refine c_b (fun hlt2=>?_) (fun hge=>?_)
 ·have hlt2 : i<ss[t.st.toNat].fs.length:=by simpa using hlt2
  have hlt3 : i<(ze ss t.st).length:=by omega
  have hel2 : (ze ss t.st)[i]=ss[t.st.toNat].fs[i].2:=by simp only [htl,List.getElem_map]
  have hmem : ss[t.st.toNat].fs[i].2 ∈ ze ss t.st:=by rw [← hel2];exact List.getElem_mem hlt3
  obtain ⟨b2,off2,c,rfl,hcl,hcc,hty⟩:=kP hf hlt2
  refine gP_ ?_
  refine gP_ ?_
  refine zq (n:=5) (c:=c) hcl (fun j v hj=>by
   have:=S.at (hcc (j+1) v (by simpa using hj))
   rw [Int.toNat_natCast,Nat.add_assoc _ 1 j,Nat.add_comm 1 j];exact this) ?_
  refine aeV (s:=ss.length) 48 (by decide) (hg _ _ hmem) S.holds hty.up fun v4 s4 w4 e4 n4 ht4=>?_
  obtain ⟨S,_,hf4⟩:=S.tell e4 n4
  obtain ⟨p4,cap4,rfl,_⟩:=id ht4
  refine S.lit (e:=57) (cs:=[.int .u8 ss[t.st.toNat].fs[i].2.k,.bool ss[t.st.toNat].fs[i].2.m,.int .i64 ss[t.st.toNat].fs[i].2.re,.int .i64 ss[t.st.toNat].fs[i].2.st,.slice p4 ss[t.st.toNat].fs[i].2.of.length cap4]) (by kernel_rfl) fun b33 w7 S=>?_
  refine S.ap (m':=1) (Sl.blk (S.blk b33)) (fun v34 w8 S=>?_) (by omega)
  have S:=S.tl
  refine gP_ ?_
  rw [show ((i : Int)+1)=((i+1 : Nat) : Int) by omega]
  refine hK7 (i+1,v34,xs ++ [.int .u8 ss[t.st.toNat].fs[i].2.k,.bool ss[t.st.toNat].fs[i].2.m,.int .i64 ss[t.st.toNat].fs[i].2.re,.int .i64 ss[t.st.toNat].fs[i].2.st,.slice p4 ss[t.st.toNat].fs[i].2.of.length cap4],sn.or s4) _ ⟨hlt3,by simp only [List.length_append,List.length_cons,List.length_nil];omega,fun j hj hji=>?_,fun b o ho=>ho.elim (hfr b o) (hf4 b o),?_⟩ (by simp only;omega)
  rotate_left
  ·exact S.to _ (l:=⟨fun b o ho=>by
    rcases ho with ho|ho|ho
    ·exact .inl (.inl ho)
    ·exact .inl (.inr ho)
    ·exact .inr ho⟩)
  ·simp only
   by_cases hji' : j=i
   ·subst hji'
    rw [← hxl,List.drop_left',hel2]
    ·exact ⟨rfl,ht4.up⟩
    ·rfl
   ·rw [List.drop_append_of_le_length (by omega),List.take_append_of_le_length (by rw [List.length_drop];omega)]
    exact ⟨(hel j hj (by omega)).1,(hel j hj (by omega)).2.up⟩
 ·have hge : i=(ze ss t.st).length:=by
   have : ¬ i<ss[t.st.toNat].fs.length:=by simpa using hge
   omega
  subst hge
  have hpos : (ze ss t.st).length≠0:=by
   have:=hb1 t.st.toNat hlt
   have e : ze ss (t.st.toNat : Int)=ze ss t.st:=by rw [ze,ze,Int.toNat_natCast]
   rw [xb,e,Bool.or_eq_false_iff,Bool.or_eq_false_iff] at this
   simp only [decide_eq_false_iff_not] at this
   omega
  obtain ⟨b9,cap9,c9,rfl,hc9,hcl9,htk9,S⟩:=S.rowCell v hpos
  have hm9:=S.mine (.cell b9 c9 57) (by simp) b9 rfl
  have S:=S.frz
  refine h _ _ (sn.or (one b9 c9 57)) _ S.ext ⟨S.holds.le (h:=⟨fun b o ho=>by
   rcases ho with ho|ho
   ·exact .inl (.inr ho)
   ·exact .inr ho⟩),fun b o ho=>?_⟩ fun j hj=>?_
  ·rcases ho with ho|⟨rfl,_⟩
   ·exact hfr b o ho
   ·exact hm9.1.resolve_right id
  ·obtain ⟨h1,h2⟩:=hel j hj hj
   refine ⟨b9,0,_,rfl,h1,fun k v hk w' hw=>?_,h2.up⟩
   have B:=yF (b:=b9) (c:=c9) (T:=57) w' (hw.le (h:=inferInstance))
   show w'.cell? _=some v
   rw [Nat.zero_add,B.cell]
   have hk5 : k<5:=by have:=(List.getElem?_eq_some_iff.1 hk).1;omega
   rw [List.getElem?_take,if_pos hk5,List.getElem?_drop,← htk9,List.getElem?_take] at hk
   split at hk
   ·exact hk
   ·cases hk
end Go.Proofs
end
section
namespace Go.Sh
open Go.ChangeShapes Go.WideShapes Go.ChangeAt Go.RowKit
section
variable {H : Type} {enc : TypeId × Value→H} {P : Program}
theorem aha {W W' : World} (e : Ext W W') {p : MemPlace} (hp : p.block<W.heap.size) : W.sameAt W' p:=Below.same e hp
theorem VS {W W' : World} (e : Ext W W') (K : Kids P (· < P.types.size)) (hz : ∀ t e,t<P.types.size→P.underlying t=some (.slice e)→0<P.cellsOf e) {sp : Nat→Bool} :
  ∀ {ts : List TypeId} {vs : List Value} {ds : List (DataW H)} {ps : List MemPlace},(∀ t ∈ ts,t<P.types.size)→DataW.TrodAll enc P W 0 (fun _=>true) true ts vs ds ps→(∀ p ∈ ps,p.block<W.heap.size)→(∀ p ∈ ps,sp p.block=true)→
   DataW.TrodAll enc P W' 0 sp true ts vs ds ps
 |[],[],[],_,_,h,_,_=>h
 |_::_,_::_,_::_,_,hT,⟨p,q,⟨n,h1⟩,h2,he⟩,hl,hs=>
  ⟨p,q,⟨n,DataW.trod_stays K (fun {t e}=>hz t e) (fun h=>by cases h) (hT _ (List.mem_cons.2 (Or.inl rfl))) h1 (fun x hx=>aha e (hl x (by rw [he];exact List.mem_append_left _ hx))) (fun x hx=>hs x (by rw [he];exact List.mem_append_left _ hx))⟩,
   VS e K hz (fun t ht=>hT t (List.mem_cons.2 (Or.inr ht))) h2 (fun x hx=>hl x (by rw [he];exact List.mem_append_right _ hx)) (fun x hx=>hs x (by rw [he];exact List.mem_append_right _ hx)),he⟩
theorem agm {f : Func} {s : ChangeSpec} {W W' : World} {args : Array Value} {ds gs : List (DataW H)} {before : List MemPlace} {tb : TypeId} {fr ho : Bool}
  (hl : laidOutB P=true) (hm : mapsRowed P=true) (hz : ((List.range P.types.size).all fun t=>match P.underlying t with|some (.slice e)=>decide (0<P.cellsOf e)|_=>true)=true)
  (hts : ∀ t ∈ f.params.toList,t<P.types.size) (hv : s.vars = []) (hrt : f.resultTypes=#[tb]) (htb : P.underlying tb=some .bool)
  (hW : DataW.Whole enc P f.params.toList s.vars false W args.toList ds gs before) (hs : s.fn H (ds++gs) = { results:=[.lit (.bool true)],args:=ds }) (e : Ext W W') :
  s.post enc P f false fr ho false W args (.bool true) W':=by
 have hW':=hW
 obtain ⟨p,q,hA,hV,rfl,hfz,hnd⟩:=hW
 rw [hv] at hV
 obtain ⟨rfl,rfl⟩:=trodVars_none hV
 have hlt:=hW'.lt
 refine ⟨ds,[],p ++ [],[],p,[],hW',?_,?_,?_,Below.frame e _,fun h=>by cases h⟩
 ·rw [hs,hrt]
  exact trodAll_mk1 (shut_bool htb _)
 ·rw [hs]
  exact VS e (kids_rows hl hm) (slices_full_of P hz) hts hA (fun x hx=>hlt x (by simpa using hx)) (fun x hx=>by simpa using hlt x (by simpa using hx))
 ·rw [hv,hs];rfl
end
end Go.Sh
end
section
namespace Go.Sh
open Go.RowKit
mutual
def Dat.ok (P : Program) : Dat→TypeId→Prop
 |.int k n,t=>P.underlying t=some (.int k)∧(Lit.int k n).wf=true
 |.bool _,t=>P.underlying t=some .bool
 |.str s,t=>P.underlying t=some .string∧s.size≤maxLen
 |.agg ds,t=>∃ fs,P.underlying t=some (.struct fs)∧Dat.okF P ds (fs.toList.map (·.type))
 |.sl sz es,t=>∃ e,P.underlying t=some (.slice e)∧sz=P.cellsOf e∧es.length≤maxLen∧Dat.okS P es e
def Dat.okF (P : Program) : List Dat→List TypeId→Prop
 |[],ts=>ts = []
 |d::ds,ts=>∃ t r,ts=t::r∧Dat.ok P d t∧Dat.okF P ds r
def Dat.okS (P : Program) : List Dat→TypeId→Prop
 |[],_=>True
 |d::ds,t=>Dat.ok P d t∧Dat.okS P ds t
end
theorem agn {P : Program} {t : TypeId} : ∀ {es : List Dat},(∀ (i : Nat) (d : Dat),es[i]? = some d→d.ok P t)→Dat.okS P es t
 |[],_=>trivial
 |d::es,h=>⟨h 0 d rfl,agn fun i d hi=>h (i+1) d (by simpa using hi)⟩
theorem afg {P : Program} {t : TypeId} : ∀ {es : List Dat},Dat.okS P es t→∀ d ∈ es,d.ok P t
 |[],_,d,hd=>by cases hd
 |e::es,h,d,hd=>by
  rcases List.mem_cons.1 hd with rfl|hd
  ·exact h.1
  ·exact afg h.2 d hd
def aeb (P : Program) (total : Nat) : Nat→List Field→Bool
 |off,[]=>off == total
 |off,f::fs=>f.offset == off&&aeb P total (off+P.cellsOf f.type) fs
def aec (P : Program) (ts : List TypeId) : Bool:=
 ts.all fun t=>match P.underlying t with
  |some (.int _)=>true
  |some .bool=>true
  |some .string=>true
  |some (.struct fs)=>aeb P (P.cellsOf t) 0 fs.toList&&fs.toList.all (fun f=>ts.contains f.type)
  |some (.slice e)=>decide (0<P.cellsOf e)&&ts.contains e
  |_=>false
theorem VT {Q : Nat→Dat→Prop} : ∀ n : Nat,(∀ i,i<n→∃ d,Q i d)→∃ es : List Dat,es.length=n∧∀ i d,es[i]? = some d→Q i d
 |0,_=>⟨[],rfl,fun i d h=>by cases h⟩
 |n+1,h=>by
  obtain ⟨es,h1,h2⟩:=VT n fun i hi=>h i (by omega)
  obtain ⟨d,hd⟩:=h n (by omega)
  refine ⟨es ++ [d],by simp [h1],fun i x hx=>?_⟩
  rcases Nat.lt_or_ge i es.length with hi|hi
  ·rw [List.getElem?_append_left hi] at hx;exact h2 i x hx
  ·rw [List.getElem?_append_right hi] at hx
   have hl:=(List.getElem?_eq_some_iff.1 hx).1
   have : i=n:=by simp at hl;omega
   subst this
   rw [h1,Nat.sub_self] at hx
   cases hx;exact hd
section
variable {H : Type} {enc : TypeId × Value→H} {P : Program} {W : World}
theorem aa0 {cs : List Value} {total : Nat} (hcs : cs.length=total) : ∀ (fl : List Field) (off : Nat),aeb P total off fl=true→
  (∀ f ∈ fl,∃ d,Rep (all W) d ((cs.drop f.offset).take (P.cellsOf f.type))∧d.ok P f.type)→∃ ds,RepA (all W) ds (cs.drop off)∧Dat.okF P ds (fl.map (·.type))
 |[],off,hl,_=>⟨[],by
  have : off=total:=by simpa [aeb] using hl
  rw [RepA,List.drop_eq_nil_iff];omega,rfl⟩
 |f::fl,off,hl,h=>by
  simp only [aeb,Bool.and_eq_true,beq_iff_eq] at hl
  obtain ⟨d,h1,h2⟩:=h f List.mem_cons_self
  obtain ⟨ds,h3,h4⟩:=aa0 hcs fl _ hl.2 fun g hg=>h g (List.mem_cons_of_mem _ hg)
  refine ⟨d::ds,⟨_,_,?_,h1,h3⟩,_,_,rfl,h2,h4⟩
  rw [hl.1,← List.drop_drop,List.take_append_drop]
theorem Zo {ts : List TypeId} (hp : aec P ts=true) {sp : Nat→Bool} : ∀ (fuel : Nat) (t : TypeId) (cs : List Value) (x : DataW H × List MemPlace),t ∈ ts→
  DataW.trod enc P W 0 sp true fuel t cs=some x→∃ d,Rep (all W) d cs∧d.ok P t
 |0,_,_,_,_,h=>by simp [DataW.trod] at h
 |fuel+1,t,cs,x,ht,h=>by
  have hpt:=List.all_eq_true.1 hp t ht
  cases hu : P.underlying t with
  |none=>rw [hu] at hpt;cases hpt
  |some k=>
   rw [hu] at hpt
   cases k with
   |int k=>obtain ⟨n,rfl,_,hw⟩:=DataW.trod_int hu h;exact ⟨.int k n,rfl,hu,hw⟩
   |bool=>obtain ⟨b,rfl,_⟩:=DataW.trod_bool hu h;exact ⟨.bool b,rfl,hu⟩
   |string=>obtain ⟨s,rfl,_,hs⟩:=DataW.trod_string hu h;exact ⟨.str s,rfl,hu,hs⟩
   |struct fs=>
    simp only [Bool.and_eq_true] at hpt
    obtain ⟨xs,n,hn,_,hl,hxl,hx⟩:=DataW.trod_struct hu h
    obtain rfl : fuel=n:=by omega
    obtain ⟨ds,h1,h2⟩:=aa0 (P:=P) (W:=W) hl fs.toList 0 hpt.1 (fun f hf=>by
     obtain ⟨i,hi,rfl⟩:=List.getElem_of_mem hf
     have hi' : i<fs.size:=by simpa using hi
     have h1:=hx i fs[i] (Array.getElem?_eq_getElem hi')
     rw [List.getElem?_eq_getElem (by omega)] at h1
     have hmem : fs[i].type ∈ ts:=by
      have:=List.all_eq_true.1 hpt.2 _ hf
      simpa using this
     exact Zo hp fuel _ _ _ hmem h1)
    rw [List.drop_zero] at h1
    exact ⟨.agg ds,h1,fs,hu,h2⟩
   |slice e=>
    simp only [Bool.and_eq_true,decide_eq_true_eq] at hpt
    have he : e ∈ ts:=by simpa using hpt.2
    rcases DataW.trod_slice hu h with ⟨rfl,_⟩|⟨a,len,cap,elems,rest,n,hn,rfl,_,_,hlc,hcm,hel,hget,_,_⟩
    ·exact ⟨.sl (P.cellsOf e) [],⟨none,0,rfl,fun _=>rfl,Nat.le_refl _,trivial⟩,e,hu,rfl,Nat.zero_le _,trivial⟩
    obtain rfl : fuel=n:=by omega
    have hspot : 0<len→a.spot=none:=fun h0=>by
     have h1:=hget 0 h0
     rw [List.getElem?_eq_getElem (by omega)] at h1
     obtain ⟨c,hc,_⟩:=Option.bind_eq_some_iff.1 h1
     obtain ⟨_,hcl,hcc⟩:=World.cells?_some hc
     have hcell:=(hcc 0 hpt.1).trans (List.getElem?_eq_getElem (by omega))
     have:=World.cell?_spot hcell
     simpa [Addr.add] using this
    obtain ⟨es,h1,h2⟩:=VT (Q:=fun i d=>d.ok P e∧∃ c,c.length=P.cellsOf e∧CellsAt (all W) (some a) (i*P.cellsOf e) c∧Rep (all W) d c) len (fun i hi=>by
     have h1:=hget i hi
     rw [List.getElem?_eq_getElem (by omega)] at h1
     obtain ⟨c,hc,ht⟩:=Option.bind_eq_some_iff.1 h1
     obtain ⟨_,hcl,hcc⟩:=World.cells?_some hc
     obtain ⟨d,hd,hok⟩:=Zo hp fuel e c _ he ht
     refine ⟨d,hok,c,hcl,fun j v hj=>?_,hd⟩
     have hjl:=(List.getElem?_eq_some_iff.1 hj).1
     have hcell : W.cell? ((a.add (i*P.cellsOf e)).add j)=some v:=(hcc j (by omega)).trans hj
     obtain ⟨b,off,sp⟩:=a
     have hsp : sp=none:=hspot (by omega)
     subst hsp
     rw [Jg,Jg] at hcell
     exact ⟨b,off,rfl,ag5 hcell⟩)
    refine ⟨.sl (P.cellsOf e) es,⟨some a,cap,by rw [h1],by simp,by omega,RepS.of fun i d hi=>?_⟩,e,hu,rfl,by omega,agn fun i d hi=>(h2 i d hi).1⟩
    rw [Nat.zero_add];exact (h2 i d hi).2
   |_=>cases hpt
end
end Go.Sh
end
section
namespace Go.Sh
open Go.RowKit
set_option linter.unusedVariables false
def SlG {α : Type} (sz : Nat) (r : Gh) (R : List Value→α→Prop) (v : Value) (l : List α) : Prop:=
 ∃ p cap,v = .slice p l.length cap∧(p=none→cap=0)∧l.length≤cap∧∀ (i : Nat) (h : i<l.length),∃ c,c.length=sz∧CellsAt r p (i*sz) c∧R c l[i]
def RowOf {α : Type} (sz : Nat) (R : List Value→α→Prop) (xs : List Value) (l : List α) : Prop:=
 xs.length=l.length*sz∧∀ (i : Nat) (h : i<l.length),R ((xs.drop (i*sz)).take sz) l[i]
section
variable {α : Type} {sz : Nat} {r s : Gh} {R Q : List Value→α→Prop} {v : Value} {l : List α}
theorem SlG.up' (h : SlG sz r R v l) (le : Le r s) (hR : ∀ c x,R c x→Q c x) : SlG sz s Q v l:=by
 obtain ⟨p,cap,h1,h2,h3,h4⟩:=h
 refine ⟨p,cap,h1,h2,h3,fun i hi=>?_⟩
 obtain ⟨c,h5,h6,h7⟩:=h4 i hi
 exact ⟨c,h5,h6.up le,hR _ _ h7⟩
theorem SlG.mono (h : SlG sz r R v l) (hR : ∀ c x,R c x→Q c x) : SlG sz r Q v l:=h.up' inferInstance hR
theorem SlG.cells (h : SlG sz r R v l) [le : Le r s] : SlG sz s R v l:=h.up' le fun _ _ h=>h
theorem SlG.nil : SlG sz r R (.slice none 0 0) ([] : List α):=⟨none,0,rfl,fun _=>rfl,Nat.le_refl _,fun i hi=>absurd hi (Nat.not_lt_zero _)⟩
theorem SlG.shape (h : SlG sz r R v l) : ∃ p cap,v = .slice p l.length cap∧(p=none→cap=0)∧l.length≤cap:=by
 obtain ⟨p,cap,h1,h2,h3,_⟩:=h;exact ⟨p,cap,h1,h2,h3⟩
theorem SlG.get (hz : 0<sz) {p : Option Addr} {n cap : Nat} (h : SlG sz r R (.slice p n cap) l) {i : Nat} (hi : i<l.length) :
  ∃ b off c,p=some ⟨b,off,none⟩∧c.length=sz∧R c l[i]∧∀ j v,c[j]? = some v→Ob r fun w=>w.cell? ⟨b,off+i*sz+j,none⟩=some v:=by
 obtain ⟨p',cap',h1,h2,h3,h4⟩:=h
 cases h1
 obtain ⟨c,h5,h6,h7⟩:=h4 i hi
 obtain ⟨b,off,hp,_⟩:=h6 0 c[0] (List.getElem?_eq_getElem (by omega))
 subst hp
 refine ⟨b,off,c,rfl,h5,h7,fun j v hj=>?_⟩
 obtain ⟨b',off',hp,ho⟩:=h6 j v hj
 cases hp;exact ho
theorem RowOf.nil : RowOf sz R [] ([] : List α):=⟨by simp,fun i hi=>absurd hi (Nat.not_lt_zero _)⟩
theorem RowOf.mono {xs : List Value} (h : RowOf sz R xs l) (hR : ∀ c x,R c x→Q c x) : RowOf sz Q xs l:=⟨h.1,fun i hi=>hR _ _ (h.2 i hi)⟩
theorem RowOf.snoc {xs c : List Value} {x : α} (h : RowOf sz R xs l) (hc : c.length=sz) (hx : R c x) : RowOf sz R (xs++c) (l ++ [x]):=by
 obtain ⟨h1,h2⟩:=h
 refine ⟨by rw [List.length_append,List.length_append,h1,hc,List.length_singleton,Nat.add_mul,Nat.one_mul],fun i hi=>?_⟩
 rw [List.length_append,List.length_singleton] at hi
 rcases Nat.lt_or_ge i l.length with h|h
 ·have hm : i*sz+sz≤xs.length:=by rw [h1,← Nat.succ_mul];exact Nat.mul_le_mul_right _ h
  rw [List.getElem_append_left h,List.drop_append_of_le_length (by omega),List.take_append_of_le_length (by rw [List.length_drop];omega)]
  exact h2 i h
 ·obtain rfl : i=l.length:=by omega
  rw [List.getElem_append_right (Nat.le_refl _),← h1,List.drop_left',List.take_of_length_le (by omega)]
  ·simpa using hx
  ·rfl
theorem RowOf.sl {xs : List Value} (h : RowOf sz R xs l) {p : Option Addr} {cap : Nat} (hp : p=none→cap=0) (hc : l.length≤cap) (ho : Ob r fun w=>Sl w p xs) (hz : 0<sz) (hk : ∃ w,Holds r w) : SlG sz r R (.slice p l.length cap) l:=by
 refine ⟨p,cap,rfl,hp,hc,fun i hi=>⟨(xs.drop (i*sz)).take sz,?_,?_,h.2 i hi⟩⟩
 ·have : i*sz+sz≤xs.length:=by rw [h.1,← Nat.succ_mul];exact Nat.mul_le_mul_right _ hi
  rw [List.length_take,List.length_drop];omega
 ·intro j v hj
  rw [List.getElem?_take] at hj
  split at hj
  ·rw [List.getElem?_drop] at hj
   obtain ⟨w,hw⟩:=hk
   obtain ⟨b,off,rfl,_⟩:=ho w hw _ _ hj
   refine ⟨b,off,rfl,fun w' hw'=>?_⟩
   obtain ⟨b',off',hp',hc'⟩:=ho w' hw' _ _ hj
   cases hp'
   rw [← Nat.add_assoc] at hc';exact hc'
  ·cases hj
end
section
variable {P : Program} {X : Nat→Prop} {w0 w : World} {r : Gh} {L : List Asr} {α : Type} {sz n : Nat} {R : List Value→α→Prop} {v : Value} {l : List α} {e : TypeId} {xs : List Value}
theorem StX.doneRow (S : StX X w0 r w (.row v e sz n xs::L)) (h : RowOf sz R xs l) (hz : 0<sz) (hn : n=l.length) :
  ∃ s,StX X w0 (r.or s) w L∧SlG sz s R v l∧(∀ b o,s b o→∃ c,o = .cells c e (0,0))∧(∀ b o,s b o→w0.heap.size≤b∨X b):=by
 subst hn
 have hm:=S.mine _ (List.mem_cons_self ..)
 have hr : w.ownsRow 0 e sz v l.length xs:=S.has _ (List.mem_cons_self ..)
 rcases jR hr with ⟨rfl,h1,h2⟩|⟨g,cap,c,rfl,hg,B,h1,_,h3,h4⟩
 ·have hl : l = []:=List.eq_nil_of_length_eq_zero h1
  subst hl
  exact ⟨nothing,S.tl.new (Ext.refl _) New.nothing,SlG.nil,fun b o h=>h.elim,fun b o h=>h.elim⟩
 ·have S':=S.turn (p:=[]) (x:=.row _ e sz l.length xs) (y:=.cell g c e) (ExtBut.refl _ _) B fun k hk=>.inl (by cases hk;rfl)
  refine ⟨one g c e,S'.frz,?_,fun b o h=>⟨_,h.2⟩,fun b o h=>(hm b (by rw [h.1];rfl)).1⟩
  refine h.sl (by simp) h1 (fun w k=>?_) hz ⟨w,yC B⟩
  rw [← h4];exact (Sl.blk (yF w k)).take _
theorem StX.litSl {b : Nat} (S : StX X w0 r w (.cell b xs e::L)) (h : RowOf sz R xs l) (hz : 0<sz) : StX X w0 (r.or (one b xs e)) w L∧SlG sz (one b xs e) R (.slice (some ⟨b,0,none⟩) l.length l.length) l:=
 ⟨S.frz,h.sl (by simp) (Nat.le_refl _) (fun w k=>Sl.blk (yF w k)) hz ⟨w,yC (S.has _ (List.mem_cons_self ..))⟩⟩
theorem StX.reGh {s t : Gh} (S : StX X w0 ((r.or s).or t) w L) : StX X w0 (r.or (s.or t)) w L:=
 S.less (fun b o h=>h.elim (fun h=>.inl (.inl h)) fun h=>h.elim (fun h=>.inl (.inr h)) .inr) (List.Sublist.refl _)
theorem Above.or' {s t : Gh} (h : Above w0 s) (k : Above w0 t) : Above w0 (s.or t):=fun b o x=>x.elim (h b o) (k b o)
theorem Above.no : Above w0 nothing:=fun b o h=>h.elim
theorem StX.newOf {q : Gh} (S : StX X w0 r w L) (h : Above w0 q) [Le q r] : New w0 q w:=⟨S.holds.le (h:=inferInstance),h⟩
end
section
variable {w : World} {A : (List Value→World→Prop)→Prop} {Z : Value→World→Prop} {b : Bool}
end
end Go.Sh
end
section
namespace Go.Sh
open Go.RowKit
set_option linter.unusedSimpArgs false
set_option linter.unusedVariables false
section
variable {P : Program}
theorem yq {d : Dat} {t : TypeId} {k : IntKind} (u : P.underlying t=some (.int k)) (h : d.ok P t) : ∃ n,d = .int k n∧(Lit.int k n).wf=true:=by
 cases d<;>simp only [Dat.ok,u] at h<;>try simp at h
 obtain ⟨rfl,h⟩:=h
 exact ⟨_,rfl,h⟩
theorem aed {d : Dat} {t : TypeId} (u : P.underlying t=some .bool) (h : d.ok P t) : ∃ b,d = .bool b:=by
 cases d<;>simp only [Dat.ok,u] at h<;>try simp at h
 exact ⟨_,rfl⟩
theorem ah3 {d : Dat} {t : TypeId} (u : P.underlying t=some .string) (h : d.ok P t) : ∃ s,d = .str s∧s.size≤maxLen:=by
 cases d<;>simp only [Dat.ok,u] at h<;>try simp at h
 exact ⟨_,rfl,h⟩
theorem ago {d : Dat} {t e : TypeId} (u : P.underlying t=some (.slice e)) (h : d.ok P t) : ∃ es,d = .sl (P.cellsOf e) es∧es.length≤maxLen∧∀ x ∈ es,x.ok P e:=by
 cases d<;>simp only [Dat.ok,u] at h<;>try simp at h
 obtain ⟨rfl,h1,h2⟩:=h
 exact ⟨_,rfl,h1,afg h2⟩
theorem xw {d : Dat} {t : TypeId} {ts : List TypeId} (u : ∃ fs,P.underlying t=some (.struct fs)∧fs.toList.map (·.type)=ts) (h : d.ok P t) : ∃ ds,d = .agg ds∧Dat.okF P ds ts:=by
 obtain ⟨fs,u,rfl⟩:=u
 cases d<;>simp only [Dat.ok,u] at h<;>try simp at h
 exact ⟨_,rfl,by simpa using h⟩
theorem zk {ds : List Dat} {t : TypeId} {ts : List TypeId} (h : Dat.okF P ds (t::ts)) : ∃ d r,ds=d::r∧d.ok P t∧Dat.okF P r ts:=by
 cases ds with
 |nil=>cases h
 |cons d r=>obtain ⟨t',r',h1,h2,h3⟩:=h;cases h1;exact ⟨d,r,rfl,h2,h3⟩
theorem ja {ds : List Dat} (h : Dat.okF P ds []) : ds = []:=by
 cases ds with
 |nil=>rfl
 |cons d r=>obtain ⟨t',r',h1,_⟩:=h;cases h1
noncomputable def afh (P : Program) (t : TypeId) (ts : List TypeId) : Bool:=match P.underlying t with|some (.struct fs)=>decide (fs.toList.map (·.type)=ts)|_=>false
theorem x6 {t : TypeId} {ts : List TypeId} (h : afh P t ts=true) : ∃ fs,P.underlying t=some (.struct fs)∧fs.toList.map (·.type)=ts:=by
 unfold afh at h
 split at h
 ·rename_i fs hu;exact ⟨fs,hu,of_decide_eq_true h⟩
 ·cases h
end
theorem agp {n : Int} (h : (Lit.int .i64 n).wf=true) : -9223372036854775808≤n∧n≤9223372036854775807:=by
 simp only [Lit.wf,Bool.and_eq_true,decide_eq_true_eq] at h
 exact ⟨h.1,h.2⟩
theorem aee {α : Type} {f : α→Dat} {G : α→Prop} : ∀ es : List Dat,(∀ d ∈ es,∃ t,d=f t∧G t)→∃ l : List α,es=l.map f∧∀ t ∈ l,G t
 |[],_=>⟨[],rfl,fun t h=>by cases h⟩
 |d::es,h=>by
  obtain ⟨t,rfl,ht⟩:=h d List.mem_cons_self
  obtain ⟨l,rfl,hq⟩:=aee es fun x hx=>h x (List.mem_cons_of_mem _ hx)
  refine ⟨t::l,rfl,fun x hx=>?_⟩
  rcases List.mem_cons.1 hx with rfl|hx
  ·exact ht
  ·exact hq x hx
end Go.Sh
end
section
namespace Go.Proofs
open Go.Sh
set_option maxRecDepth 100000
set_option linter.unusedSimpArgs false
set_option linter.unusedVariables false
structure PlD where
 l : Int
 ps : List Int
structure OpD where
 k : Int
 n : Int
 pl : PlD
structure PtD where
 op : Int
 to : PlD
 a : OpD
 b : OpD
 args : List OpD
 sign : ByteArray
 fr : PlD
 mu : Bool
 fn : Int
 st : Int
 nx : Int
 el : Int
 tx : Int
structure GrD where
 name : ByteArray
 lv : Int
 outs : List (Int × Int)
 pn : Int
 tys : List TyD
 nms : List ByteArray
 pts : List PtD
structure UnD where
 ss : List StD
 fs : List GrD
 mn : Int
def xM (c : List Value) (x : Int) : Prop:=c = [.int .i64 x]
def xn (x : Int) : Prop:=-9223372036854775808≤x∧x<9223372036854775808
def vB (c : List Value) (x : Int) : Prop:=c = [.int .i64 x]∧xn x
structure SlB {α : Type} (sz : Nat) (r : Gh) (R : List Value→α→Prop) (v : Value) (l : List α) : Prop where
 sl : SlG sz r R v l
 few : l.length≤maxLen
theorem SlB.cells {α : Type} {sz : Nat} {r s : Gh} {R : List Value→α→Prop} {v : Value} {l : List α} (h : SlB sz r R v l) [le : Le r s] : SlB sz s R v l:=⟨h.sl.cells,h.few⟩
theorem SlB.up' {α : Type} {sz : Nat} {r s : Gh} {R Q : List Value→α→Prop} {v : Value} {l : List α} (h : SlB sz r R v l) (le : Le r s) (hR : ∀ c x,R c x→Q c x) : SlB sz s Q v l:=⟨h.sl.up' le hR,h.few⟩
theorem xG {α : Type} {D : α→Dat} {r : Gh} {R : List Value→α→Prop} {sz : Nat} {cs : List Value} {l : List α} (hR : ∀ c x,x ∈ l→Rep r (D x) c→R c x) (h : Rep r (.sl sz (l.map D)) cs) (hl : l.length≤maxLen) : ∃ v,cs = [v]∧SlB sz r R v l:=by
 obtain ⟨p,cap,rfl,h1,h2,h3⟩:=h
 rw [List.length_map] at h2 ⊢
 refine ⟨_,rfl,⟨p,cap,rfl,h1,h2,fun i hi=>?_⟩,hl⟩
 obtain ⟨c,h4,h5,h6⟩:=h3.get (i:=i) (d:=D l[i]) (by rw [List.getElem?_map,List.getElem?_eq_getElem hi];rfl)
 rw [Nat.zero_add] at h5
 exact ⟨c,h4,h5,hR _ _ (List.getElem_mem hi) h6⟩
def PlD.ok (p : PlD) : Prop:=p.ps.length≤maxLen∧∀ k ∈ p.ps,xn k
def OpD.ok (o : OpD) : Prop:=o.pl.ok
def PtD.ok (p : PtD) : Prop:=p.to.ok∧p.a.ok∧p.b.ok∧(p.args.length≤maxLen∧∀ o ∈ p.args,o.ok)∧p.fr.ok
def GrD.ok (g : GrD) : Prop:=g.outs.length≤maxLen∧g.tys.length≤maxLen∧g.nms.length≤maxLen∧g.pts.length≤maxLen∧∀ p ∈ g.pts,p.ok
def UnD.ok (u : UnD) : Prop:=u.ss.length≤maxLen∧u.fs.length≤maxLen∧∀ g ∈ u.fs,g.ok
def JA (c : List Value) (x : ByteArray) : Prop:=c = [.string x]
def aef (c : List Value) (x : Int × Int) : Prop:=c = [.int .i64 x.1,.int .i64 x.2]
def TyC (r : Gh) (c : List Value) (t : TyD) : Prop:=TyG r (.agg c.toArray) t
def PlG (r : Gh) (c : List Value) (p : PlD) : Prop:=∃ v,c = [.int .i64 p.l,v]∧SlB 1 r vB v p.ps
def OpG (r : Gh) (c : List Value) (o : OpD) : Prop:=∃ v,c = [.int .u8 o.k,.int .i64 o.n,.int .i64 o.pl.l,v]∧SlB 1 r vB v o.pl.ps
def PtG (r : Gh) (c : List Value) (p : PtD) : Prop:=∃ vt va vb vl vf,
 c = [.int .u8 p.op,.int .i64 p.to.l,vt,.int .u8 p.a.k,.int .i64 p.a.n,.int .i64 p.a.pl.l,va,.int .u8 p.b.k,.int .i64 p.b.n,.int .i64 p.b.pl.l,vb,vl,.string p.sign,.int .i64 p.fr.l,vf,.bool p.mu,.int .i64 p.fn,.int .i64 p.st,.int .i64 p.nx,.int .i64 p.el,.int .i64 p.tx]∧
 SlB 1 r vB vt p.to.ps∧SlB 1 r vB va p.a.pl.ps∧SlB 1 r vB vb p.b.pl.ps∧SlB 4 r (OpG r) vl p.args∧SlB 1 r vB vf p.fr.ps
def GrG (r : Gh) (c : List Value) (g : GrD) : Prop:=∃ vo vt vn vp,c = [.string g.name,.int .i64 g.lv,vo,.int .i64 g.pn,vt,vn,vp]∧
 SlB 2 r aef vo g.outs∧SlB 5 r (TyC r) vt g.tys∧SlB 1 r JA vn g.nms∧SlB 21 r (PtG r) vp g.pts
def UnG (r : Gh) (v : Value) (u : UnD) : Prop:=∃ p cap vf,v = .agg #[.slice p u.ss.length cap,vf,.int .i64 u.mn]∧(p=none→cap=0)∧u.ss.length≤cap∧StG r p u.ss∧u.ss.length≤maxLen∧SlB 7 r (GrG r) vf u.fs
theorem PlG.up {r s : Gh} {c : List Value} {p : PlD} (h : PlG r c p) [l : Le r s] : PlG s c p:=by
 obtain ⟨v,h1,h2⟩:=h;exact ⟨v,h1,h2.cells⟩
theorem OpG.up {r s : Gh} {c : List Value} {p : OpD} (h : OpG r c p) [l : Le r s] : OpG s c p:=by
 obtain ⟨v,h1,h2⟩:=h;exact ⟨v,h1,h2.cells⟩
theorem PtG.up {r s : Gh} {c : List Value} {p : PtD} (h : PtG r c p) [l : Le r s] : PtG s c p:=by
 obtain ⟨vt,va,vb,vl,vf,h0,h1,h2,h3,h4,h5⟩:=h
 exact ⟨vt,va,vb,vl,vf,h0,h1.cells,h2.cells,h3.cells,h4.up' l fun _ _ h=>h.up,h5.cells⟩
theorem GrG.up {r s : Gh} {c : List Value} {g : GrD} (h : GrG r c g) [l : Le r s] : GrG s c g:=by
 obtain ⟨vo,vt,vn,vp,h0,h1,h2,h3,h4⟩:=h
 exact ⟨vo,vt,vn,vp,h0,h1.cells,h2.up' l fun _ _ h=>TyG.up h,h3.cells,h4.up' l fun _ _ h=>h.up⟩
theorem UnG.up {r s : Gh} {v : Value} {u : UnD} (h : UnG r v u) [l : Le r s] : UnG s v u:=by
 obtain ⟨p,cap,vf,h0,h1,h2,h3,h5,h4⟩:=h
 exact ⟨p,cap,vf,h0,h1,h2,h3.up,h5,h4.up' l fun _ _ h=>h.up⟩
def PlD.dat (p : PlD) : Dat:=.agg [.int .i64 p.l,.sl 1 (p.ps.map (Dat.int .i64))]
def OpD.dat (o : OpD) : Dat:=.agg [.int .u8 o.k,.int .i64 o.n,o.pl.dat]
def PtD.dat (p : PtD) : Dat:=.agg [.int .u8 p.op,p.to.dat,p.a.dat,p.b.dat,.sl 4 (p.args.map OpD.dat),.str p.sign,p.fr.dat,.bool p.mu,.int .i64 p.fn,.int .i64 p.st,.int .i64 p.nx,.int .i64 p.el,.int .i64 p.tx]
def afJ (x : Int × Int) : Dat:=.agg [.int .i64 x.1,.int .i64 x.2]
def GrD.dat (g : GrD) : Dat:=.agg [.str g.name,.int .i64 g.lv,.sl 2 (g.outs.map afJ),.int .i64 g.pn,.sl 5 (g.tys.map TyD.dat),.sl 1 (g.nms.map Dat.str),.sl 21 (g.pts.map PtD.dat)]
def UnD.dat (u : UnD) : Dat:=.agg [.sl 2 (u.ss.map StD.dat),.sl 7 (u.fs.map GrD.dat),.int .i64 u.mn]
theorem Xt {r : Gh} {c : List Value} {p : PlD} (h : Rep r p.dat c) (k : p.ok) : PlG r c p:=by
 obtain ⟨a1,b1,rfl,e1,a2,b2,rfl,e2,e3⟩:=h
 obtain rfl : a1=_:=e1
 obtain rfl : b2 = []:=e3
 obtain ⟨v,rfl,hv⟩:=xG (D:=Dat.int .i64) (R:=vB) (fun c x hx h=>⟨h,k.2 x hx⟩) e2 k.1
 exact ⟨v,rfl,hv⟩
theorem JB {r : Gh} {c : List Value} {o : OpD} (h : Rep r o.dat c) (k : o.ok) : OpG r c o:=by
 obtain ⟨a1,b1,rfl,e1,a2,b2,rfl,e2,a3,b3,rfl,e3,e4⟩:=h
 obtain rfl : a1=_:=e1
 obtain rfl : a2=_:=e2
 obtain rfl : b3 = []:=e4
 obtain ⟨v,rfl,hv⟩:=Xt e3 k
 exact ⟨v,rfl,hv⟩
theorem agq {r : Gh} {c : List Value} {p : PtD} (h : Rep r p.dat c) (k : p.ok) : PtG r c p:=by
 obtain ⟨a1,b1,rfl,e1,a2,b2,rfl,e2,a3,b3,rfl,e3,a4,b4,rfl,e4,a5,b5,rfl,e5,a6,b6,rfl,e6,a7,b7,rfl,e7,a8,b8,rfl,e8,a9,b9,rfl,e9,a10,b10,rfl,e10,a11,b11,rfl,e11,a12,b12,rfl,e12,a13,b13,rfl,e13,e14⟩:=h
 obtain rfl : a1=_:=e1
 obtain rfl : a6=_:=e6
 obtain rfl : a8=_:=e8
 obtain rfl : a9=_:=e9
 obtain rfl : a10=_:=e10
 obtain rfl : a11=_:=e11
 obtain rfl : a12=_:=e12
 obtain rfl : a13=_:=e13
 obtain rfl : b13 = []:=e14
 obtain ⟨v2,rfl,h2⟩:=Xt e2 k.1
 obtain ⟨v3,rfl,h3⟩:=JB e3 k.2.1
 obtain ⟨v4,rfl,h4⟩:=JB e4 k.2.2.1
 obtain ⟨v5,rfl,h5⟩:=xG (R:=OpG r) (fun c x hx h=>JB h (k.2.2.2.1.2 x hx)) e5 k.2.2.2.1.1
 obtain ⟨v7,rfl,h7⟩:=Xt e7 k.2.2.2.2
 exact ⟨v2,v3,v4,v5,v7,rfl,h2,h3,h4,h5,h7⟩
theorem afK {r : Gh} {c : List Value} {x : Int × Int} (h : Rep r (afJ x) c) : aef c x:=by
 obtain ⟨a1,b1,rfl,e1,a2,b2,rfl,e2,e3⟩:=h
 obtain rfl : a1=_:=e1
 obtain rfl : a2=_:=e2
 obtain rfl : b2 = []:=e3
 rfl
theorem agr {r : Gh} {c : List Value} {g : GrD} (h : Rep r g.dat c) (k : g.ok) : GrG r c g:=by
 obtain ⟨a1,b1,rfl,e1,a2,b2,rfl,e2,a3,b3,rfl,e3,a4,b4,rfl,e4,a5,b5,rfl,e5,a6,b6,rfl,e6,a7,b7,rfl,e7,e8⟩:=h
 obtain rfl : a1=_:=e1
 obtain rfl : a2=_:=e2
 obtain rfl : a4=_:=e4
 obtain rfl : b7 = []:=e8
 obtain ⟨v3,rfl,h3⟩:=xG (R:=aef) (fun c x _ h=>afK h) e3 k.1
 obtain ⟨v5,rfl,h5⟩:=xG (R:=TyC r) (fun c x _ h=>TyG.of_rep h) e5 k.2.1
 obtain ⟨v6,rfl,h6⟩:=xG (D:=Dat.str) (R:=JA) (fun c x _ h=>h) e6 k.2.2.1
 obtain ⟨v7,rfl,h7⟩:=xG (R:=PtG r) (fun c x hx h=>agq h (k.2.2.2.2 x hx)) e7 k.2.2.2.1
 exact ⟨v3,v5,v6,v7,rfl,h3,h5,h6,h7⟩
theorem ags {r : Gh} {c : List Value} {u : UnD} (h : Rep r u.dat c) (k : u.ok) : UnG r (.agg c.toArray) u:=by
 obtain ⟨a1,b1,rfl,e1,a2,b2,rfl,e2,a3,b3,rfl,e3,e4⟩:=h
 obtain rfl : a3=_:=e3
 obtain rfl : b3 = []:=e4
 obtain ⟨q,cap,rfl,h1,h2,h3⟩:=e1
 obtain ⟨vf,rfl,hf⟩:=xG (R:=GrG r) (fun c x hx h=>agr h (k.2.2 x hx)) e2 k.2.1
 rw [List.length_map] at h2 ⊢
 exact ⟨q,cap,vf,rfl,h1,h2,h3,k.1,hf⟩
end Go.Proofs
end
section
namespace Go.Sh
theorem p_id {P : Program} {s : Sem Value} {K : Value→Prop} (h : opP P s K) : opP P s K:=h
theorem q_id {P : Program} {w : World} {s : Sem Value} {K : Value→Prop} (h : opQ P w s K) : opQ P w s K:=h
end Go.Sh
end
section
namespace Go.Proofs
open Go.Sh
set_option maxRecDepth 100000
set_option linter.unusedSimpArgs false
set_option linter.unusedVariables false
theorem gA_ {P Q : Prop} (p : P) (h : Hid P→Q:=by
  intro hp9
  (repeat (first|(first|((with_reducible refine p_id ?_);first|refine s_p ?_|refine s_c (by omega) ?_)|((with_reducible refine q_id ?_);first|refine S.ld ?_|refine S.ldB ?_|refine S.ce ?_|refine S.ceB ?_|refine s_q ?_|refine s_qc (by omega) ?_)|with_reducible refine n_some ?_|rw [List.getD_cons_zero]|rw [List.getD_cons_succ])|refine s_c (by simp only [List.length_append,List.length_cons,List.length_nil];omega) ?_))
  exact hp9.out) : Q:=h ⟨p⟩
def stT (k : Int) : List UInt8:=if k = -1 then [46,42] else [46]++Lib.itoa k
def plT (p : PlD) : List UInt8:=if p.l<0 then [] else if p.ps.any (fun k=>decide (k < -1)) then [] else [95]++Lib.itoa p.l++(p.ps.map stT).flatten
def opT (o : OpD) : List UInt8:=if o.k=1 then Lib.itoa o.n else if o.k=2 then (if o.n=1 then [116,114,117,101] else [102,97,108,115,101])
 else if o.k=3 then [99,111,112,121,32]++plT o.pl else [109,111,118,101,32]++plT o.pl
def jD : List (List UInt8)→List UInt8
 |[]=>[]
 |[x]=>x
 |x::y::l=>x ++ [44,32]++jD (y::l)
def JC (l : List OpD) : List UInt8:=[40]++jD (l.map opT) ++ [41]
def doT (p : PtD) : List UInt8:=
 if p.op=1 then opT p.a else if p.op=2 then opT p.a ++ [32]++p.sign.data.toList ++ [32]++opT p.b else if p.op=3 then p.sign.data.toList ++ [32]++opT p.a
 else if p.op=4 then (if p.mu then [38,109,117,116,32]++plT p.fr else [38,32]++plT p.fr) else if p.op=5 then [98,111,120,32]++opT p.a
 else if p.op=6 then [35]++Lib.itoa p.st++JC p.args else if p.op=7 then [102]++Lib.itoa p.fn++JC p.args else if p.op=8 then [114,101,97,100]
 else if p.op=9 then [112,114,105,110,116,32]++opT p.a else if p.op=10 then [100,114,111,112,32]++plT p.fr else if p.op=11 then [100,101,97,100,32]++plT p.fr
 else if p.op=12 then [105,102,32]++opT p.a else [103,111,116,111]
def goT (p : PtD) (q : Int) : List UInt8:=if p.nx≠q+1∨p.op=12∨p.op=13 then [32,45,62,32]++Lib.itoa p.nx else []
def elT (p : PtD) : List UInt8:=if p.op=12 then [32,101,108,115,101,32]++Lib.itoa p.el else []
def ptT (p : PtD) (q : Int) : List UInt8:=
 if p.op=14 then [114,101,116,117,114,110] else (if p.op≤8 then plT p.to ++ [32,61,32] else [])++doT p++goT p q++elT p
def PlD.fit (p : PlD) : Prop:=xn p.l∧p.ps.length≤1000∧∀ k ∈ p.ps,xn k
def OpD.fit (o : OpD) : Prop:=xn o.n∧o.pl.fit
structure PtD.fit (p : PtD) : Prop where
 op1 : 1≤p.op
 op14 : p.op≤14
 to : p.to.fit
 a : p.a.fit
 b : p.b.fit
 args : p.args.length≤1000∧∀ o ∈ p.args,o.fit
 sign : p.sign.size≤1000
 fr : p.fr.fit
 fn : xn p.fn
 st : xn p.st
 nx : xn p.nx
 el : xn p.el
theorem yO {x : Int} (h : xn x) : (Lib.itoa x).length≤21:=Lib.itoa_length_le x h.1 (by have:=h.2;omega)
theorem abU {k : Int} (h : xn k) : (stT k).length≤22:=by
 have:=yO h
 rw [stT];split
 ·decide
 ·simp only [List.length_append,List.length_cons,List.length_nil];omega
theorem aaf {α : Type} {f : α→List UInt8} {n : Nat} : ∀ {l : List α},(∀ x ∈ l,(f x).length≤n)→((l.map f).flatten).length≤n*l.length
 |[],_=>Nat.zero_le _
 |x::l,h=>by
  have:=aaf (l:=l) fun y hy=>h y (List.mem_cons_of_mem _ hy)
  have:=h x (List.mem_cons_self ..)
  simp only [List.map_cons,List.flatten_cons,List.length_append,List.length_cons]
  rw [Nat.mul_add];omega
theorem X8 {p : PlD} (h : p.fit) : (plT p).length≤23000:=by
 have h1:=yO h.1
 have h2:=aaf (f:=stT) (n:=22) fun k hk=>abU (h.2.2 k hk)
 have h3:=h.2.1
 rw [plT]
 split
 ·exact Nat.zero_le _
 split
 ·exact Nat.zero_le _
 simp only [List.length_append,List.length_cons,List.length_nil];omega
theorem X9 {o : OpD} (h : o.fit) : (opT o).length≤24000:=by
 have h1:=yO h.1
 have h2:=X8 h.2
 rw [opT]
 split
 ·omega
 split
 ·split<;>simp
 split<;>simp only [List.length_append,List.length_cons,List.length_nil]<;>omega
theorem acq : ∀ {l : List (List UInt8)},(∀ x ∈ l,x.length≤24000)→(jD l).length≤24002*l.length
 |[],_=>Nat.zero_le _
 |[x],h=>by have:=h x (List.mem_cons_self ..);simp only [jD,List.length_cons,List.length_nil];omega
 |x::y::l,h=>by
  have h1:=h x (List.mem_cons_self ..)
  have h2:=acq (l:=y::l) fun z hz=>h z (List.mem_cons_of_mem _ hz)
  simp only [jD,List.length_append,List.length_cons,List.length_nil] at h2 ⊢
  omega
theorem ah4 {l : List OpD} (h : ∀ o ∈ l,o.fit) : ∀ x ∈ l.map opT,x.length≤24000:=fun x hx=>by
 obtain ⟨o,ho,rfl⟩:=List.mem_map.1 hx;exact X9 (h o ho)
theorem acr {l : List OpD} (h : l.length≤1000∧∀ o ∈ l,o.fit) : (jD (l.map opT)).length≤24002000:=by
 have:=acq (ah4 h.2)
 rw [List.length_map] at this
 have:=h.1
 omega
theorem aeg {l : List OpD} (h : l.length≤1000∧∀ o ∈ l,o.fit) : (JC l).length≤24002002:=by
 have:=acr h
 simp only [JC,List.length_append,List.length_cons,List.length_nil];omega
theorem ah5 {c : Prop} [Decidable c] {x y : List UInt8} {n : Nat} (hx : x.length≤n) (hy : y.length≤n) : (if c then x else y).length≤n:=by
 split
 ·exact hx
 ·exact hy
theorem ah6 {p : PtD} (h : p.fit) : (doT p).length≤25000000:=by
 have h1:=X9 h.a;have h2:=X9 h.b;have h3:=X8 h.fr;have h4:=aeg h.args
 have h5:=yO h.st;have h6:=yO h.fn
 have h7 : p.sign.data.toList.length≤1000:=by have:=h.sign;rwa [ByteArray.size,← Array.length_toList] at this
 rw [doT]
 repeat' with_reducible refine ah5 ?_ ?_
 all_goals (try simp only [List.length_append,List.length_cons,List.length_nil])
 all_goals omega
theorem ah7 {p : PtD} {q : Int} (h : p.fit) : (goT p q).length≤25:=by
 have h1:=yO h.nx
 rw [goT];split
 ·simp only [List.length_append,List.length_cons,List.length_nil];omega
 ·exact Nat.zero_le _
end Go.Proofs
end
section
namespace Go.Proofs
open Go.Shelf
set_option maxRecDepth 100000
def Tryz.Zp : Go.Shelf.Ren:=⟨fun|156=>78|165=>117|166=>118|169=>119|240=>150|241=>151|276=>184|277=>185|n=>n,fun|31=>30|9=>9|3=>3|4=>4|0=>0|20=>20|72=>176|76=>180|70=>173|37=>174|75=>179|127=>214|164=>240|5=>5|80=>182|n=>n,fun|n=>n⟩
theorem Tryz.Vl : Go.Proofs.Lays.n156 Tryz.prog Tryz.Zp:={
 mixed:=by kernel_rfl
 f156:=Tryz.func78.trans (congrArg some (by kernel_rfl))
 f165:=Tryz.func117.trans (congrArg some (by kernel_rfl))
 f166:=Tryz.func118.trans (congrArg some (by kernel_rfl))
 f169:=Tryz.func119.trans (congrArg some (by kernel_rfl))
 f240:=Tryz.func150.trans (congrArg some (by kernel_rfl))
 f241:=Tryz.func151.trans (congrArg some (by kernel_rfl))
 f276:=Tryz.func184.trans (congrArg some (by kernel_rfl))
 f277:=Tryz.func185.trans (congrArg some (by kernel_rfl))
 t0:=Tryz.underlying0
 a0:=Tryz.isAgg0
 z0:=Tryz.sizeOf0
 v0:=Tryz.zeroValue0
 t3:=Tryz.underlying3
 a3:=Tryz.isAgg3
 z3:=Tryz.sizeOf3
 v3:=Tryz.zeroValue3
 t4:=Tryz.underlying4
 a4:=Tryz.isAgg4
 z4:=Tryz.sizeOf4
 v4:=Tryz.zeroValue4
 t9:=Tryz.underlying9
 a9:=Tryz.isAgg9
 z9:=Tryz.sizeOf9
 v9:=Tryz.zeroValue9
 t20:=Tryz.underlying20
 a20:=Tryz.isAgg20
 z20:=Tryz.sizeOf20
 v20:=Tryz.zeroValue20
 t31:=Tryz.underlying30
 a31:=Tryz.isAgg30
 z31:=Tryz.sizeOf30
 v31:=Tryz.zeroValue30
 t37:=Tryz.underlying174
 a37:=Tryz.isAgg174
 z37:=Tryz.sizeOf174
 v37:=Tryz.zeroValue174
 t70:=Tryz.underlying173
 a70:=Tryz.isAgg173
 z70:=Tryz.sizeOf173
 v70:=Tryz.zeroValue173
 t72:=Tryz.underlying176
 a72:=Tryz.isAgg176
 z72:=Tryz.sizeOf176
 v72:=Tryz.zeroValue176
 t75:=Tryz.underlying179
 a75:=Tryz.isAgg179
 z75:=Tryz.sizeOf179
 v75:=Tryz.zeroValue179
 t76:=Tryz.underlying180
 a76:=Tryz.isAgg180
 z76:=Tryz.sizeOf180
 v76:=Tryz.zeroValue180
 t127:=Tryz.underlying214
 a127:=Tryz.isAgg214
 z127:=Tryz.sizeOf214
 v127:=Tryz.zeroValue214
 t164:=Tryz.underlying240
 a164:=Tryz.isAgg240
 z164:=Tryz.sizeOf240
 v164:=Tryz.zeroValue240 }
theorem Tryz.kt : Builder.Extra Tryz.prog Tryz.Zp:={
 sizeBuilder:=by kernel_rfl
 liesBuilder:=by kernel_rfl
 t5:=Tryz.underlying5
 a5:=Tryz.isAgg5
 z5:=Tryz.sizeOf5
 v5:=Tryz.zeroValue5
 infoByte:=by kernel_rfl
 cellsByte:=by kernel_rfl
 sizeByte:=by kernel_rfl
 neB5:=by decide }
def Tryz.aeh : Go.Shelf.Ren:=⟨fun|171=>16|243=>58|246=>86|283=>124|284=>125|285=>126|286=>127|129=>140|317=>171|318=>172|319=>173|320=>174|337=>193|338=>194|n=>n,fun|3=>3|9=>9|2=>2|4=>4|171=>184|0=>0|53=>185|37=>174|5=>5|173=>188|212=>231|51=>202|20=>20|213=>232|46=>154|232=>249|233=>250|n=>n,fun|17=>0|18=>2|19=>3|n=>n⟩
theorem Tryz.ahb : Go.Proofs.LaysM.n171 Tryz.prog Tryz.aeh:={
 mixed:=by kernel_rfl
 f129:=Tryz.func140.trans (congrArg some (by kernel_rfl))
 f171:=Tryz.func16.trans (congrArg some (by kernel_rfl))
 f243:=Tryz.func58.trans (congrArg some (by kernel_rfl))
 f246:=Tryz.func86.trans (congrArg some (by kernel_rfl))
 f283:=Tryz.func124.trans (congrArg some (by kernel_rfl))
 f284:=Tryz.func125.trans (congrArg some (by kernel_rfl))
 f285:=Tryz.func126.trans (congrArg some (by kernel_rfl))
 f286:=Tryz.func127.trans (congrArg some (by kernel_rfl))
 f317:=Tryz.func171.trans (congrArg some (by kernel_rfl))
 f318:=Tryz.func172.trans (congrArg some (by kernel_rfl))
 f319:=Tryz.func173.trans (congrArg some (by kernel_rfl))
 f320:=Tryz.func174.trans (congrArg some (by kernel_rfl))
 f337:=Tryz.func193.trans (congrArg some (by kernel_rfl))
 f338:=Tryz.func194.trans (congrArg some (by kernel_rfl))
 t0:=Tryz.underlying0
 a0:=Tryz.isAgg0
 z0:=Tryz.sizeOf0
 v0:=Tryz.zeroValue0
 t2:=Tryz.underlying2
 a2:=Tryz.isAgg2
 z2:=Tryz.sizeOf2
 v2:=Tryz.zeroValue2
 t3:=Tryz.underlying3
 a3:=Tryz.isAgg3
 z3:=Tryz.sizeOf3
 v3:=Tryz.zeroValue3
 t4:=Tryz.underlying4
 a4:=Tryz.isAgg4
 z4:=Tryz.sizeOf4
 v4:=Tryz.zeroValue4
 t5:=Tryz.underlying5
 a5:=Tryz.isAgg5
 z5:=Tryz.sizeOf5
 v5:=Tryz.zeroValue5
 t9:=Tryz.underlying9
 a9:=Tryz.isAgg9
 z9:=Tryz.sizeOf9
 v9:=Tryz.zeroValue9
 t20:=Tryz.underlying20
 a20:=Tryz.isAgg20
 z20:=Tryz.sizeOf20
 v20:=Tryz.zeroValue20
 t37:=Tryz.underlying174
 a37:=Tryz.isAgg174
 z37:=Tryz.sizeOf174
 v37:=Tryz.zeroValue174
 t46:=Tryz.underlying154
 a46:=Tryz.isAgg154
 z46:=Tryz.sizeOf154
 v46:=Tryz.zeroValue154
 t51:=Tryz.underlying202
 a51:=Tryz.isAgg202
 z51:=Tryz.sizeOf202
 v51:=Tryz.zeroValue202
 t53:=Tryz.underlying185
 a53:=Tryz.isAgg185
 z53:=Tryz.sizeOf185
 v53:=Tryz.zeroValue185
 t171:=Tryz.underlying184
 a171:=Tryz.isAgg184
 z171:=Tryz.sizeOf184
 v171:=Tryz.zeroValue184
 t173:=Tryz.underlying188
 a173:=Tryz.isAgg188
 z173:=Tryz.sizeOf188
 v173:=Tryz.zeroValue188
 t212:=Tryz.underlying231
 a212:=Tryz.isAgg231
 z212:=Tryz.sizeOf231
 v212:=Tryz.zeroValue231
 t213:=Tryz.underlying232
 a213:=Tryz.isAgg232
 z213:=Tryz.sizeOf232
 t232:=Tryz.underlying249
 a232:=Tryz.isAgg249
 z232:=Tryz.sizeOf249
 v232:=Tryz.zeroValue249
 t233:=Tryz.underlying250
 a233:=Tryz.isAgg250
 z233:=Tryz.sizeOf250
 v233:=Tryz.zeroValue250
 g17:=by kernel_rfl
 g18:=by kernel_rfl
 g19:=by kernel_rfl
 i0:=by kernel_rfl
 i2:=by kernel_rfl
 i3:=by kernel_rfl
 i4:=by kernel_rfl
 i5:=by kernel_rfl
 i9:=by kernel_rfl
 i20:=by kernel_rfl
 i37:=by kernel_rfl
 i46:=by kernel_rfl
 i51:=by kernel_rfl
 i53:=by kernel_rfl
 i171:=by kernel_rfl
 i173:=by kernel_rfl
 i212:=by kernel_rfl
 i232:=by kernel_rfl
 i233:=by kernel_rfl
 m17:=by kernel_rfl
 m18:=by kernel_rfl
 m19:=by kernel_rfl }
def Tryz.aei : Go.Shelf.Ren:=⟨fun|173=>85|246=>86|283=>124|284=>125|285=>126|286=>127|129=>140|317=>171|318=>172|319=>173|320=>174|337=>193|338=>194|n=>n,fun|2=>2|3=>3|9=>9|4=>4|171=>184|0=>0|53=>185|37=>174|5=>5|173=>188|212=>231|51=>202|20=>20|213=>232|46=>154|232=>249|233=>250|n=>n,fun|17=>0|18=>2|19=>3|n=>n⟩
theorem Tryz.ahc : Go.Proofs.LaysM.n173 Tryz.prog Tryz.aei:={
 mixed:=by kernel_rfl
 f129:=Tryz.func140.trans (congrArg some (by kernel_rfl))
 f173:=Tryz.func85.trans (congrArg some (by kernel_rfl))
 f246:=Tryz.func86.trans (congrArg some (by kernel_rfl))
 f283:=Tryz.func124.trans (congrArg some (by kernel_rfl))
 f284:=Tryz.func125.trans (congrArg some (by kernel_rfl))
 f285:=Tryz.func126.trans (congrArg some (by kernel_rfl))
 f286:=Tryz.func127.trans (congrArg some (by kernel_rfl))
 f317:=Tryz.func171.trans (congrArg some (by kernel_rfl))
 f318:=Tryz.func172.trans (congrArg some (by kernel_rfl))
 f319:=Tryz.func173.trans (congrArg some (by kernel_rfl))
 f320:=Tryz.func174.trans (congrArg some (by kernel_rfl))
 f337:=Tryz.func193.trans (congrArg some (by kernel_rfl))
 f338:=Tryz.func194.trans (congrArg some (by kernel_rfl))
 t0:=Tryz.underlying0
 a0:=Tryz.isAgg0
 z0:=Tryz.sizeOf0
 v0:=Tryz.zeroValue0
 t2:=Tryz.underlying2
 a2:=Tryz.isAgg2
 z2:=Tryz.sizeOf2
 v2:=Tryz.zeroValue2
 t3:=Tryz.underlying3
 a3:=Tryz.isAgg3
 z3:=Tryz.sizeOf3
 v3:=Tryz.zeroValue3
 t4:=Tryz.underlying4
 a4:=Tryz.isAgg4
 z4:=Tryz.sizeOf4
 v4:=Tryz.zeroValue4
 t5:=Tryz.underlying5
 a5:=Tryz.isAgg5
 z5:=Tryz.sizeOf5
 v5:=Tryz.zeroValue5
 t9:=Tryz.underlying9
 a9:=Tryz.isAgg9
 z9:=Tryz.sizeOf9
 v9:=Tryz.zeroValue9
 t20:=Tryz.underlying20
 a20:=Tryz.isAgg20
 z20:=Tryz.sizeOf20
 v20:=Tryz.zeroValue20
 t37:=Tryz.underlying174
 a37:=Tryz.isAgg174
 z37:=Tryz.sizeOf174
 v37:=Tryz.zeroValue174
 t46:=Tryz.underlying154
 a46:=Tryz.isAgg154
 z46:=Tryz.sizeOf154
 v46:=Tryz.zeroValue154
 t51:=Tryz.underlying202
 a51:=Tryz.isAgg202
 z51:=Tryz.sizeOf202
 v51:=Tryz.zeroValue202
 t53:=Tryz.underlying185
 a53:=Tryz.isAgg185
 z53:=Tryz.sizeOf185
 v53:=Tryz.zeroValue185
 t171:=Tryz.underlying184
 a171:=Tryz.isAgg184
 z171:=Tryz.sizeOf184
 v171:=Tryz.zeroValue184
 t173:=Tryz.underlying188
 a173:=Tryz.isAgg188
 z173:=Tryz.sizeOf188
 v173:=Tryz.zeroValue188
 t212:=Tryz.underlying231
 a212:=Tryz.isAgg231
 z212:=Tryz.sizeOf231
 v212:=Tryz.zeroValue231
 t213:=Tryz.underlying232
 a213:=Tryz.isAgg232
 z213:=Tryz.sizeOf232
 t232:=Tryz.underlying249
 a232:=Tryz.isAgg249
 z232:=Tryz.sizeOf249
 v232:=Tryz.zeroValue249
 t233:=Tryz.underlying250
 a233:=Tryz.isAgg250
 z233:=Tryz.sizeOf250
 v233:=Tryz.zeroValue250
 g17:=by kernel_rfl
 g18:=by kernel_rfl
 g19:=by kernel_rfl
 i0:=by kernel_rfl
 i2:=by kernel_rfl
 i3:=by kernel_rfl
 i4:=by kernel_rfl
 i5:=by kernel_rfl
 i9:=by kernel_rfl
 i20:=by kernel_rfl
 i37:=by kernel_rfl
 i46:=by kernel_rfl
 i51:=by kernel_rfl
 i53:=by kernel_rfl
 i171:=by kernel_rfl
 i173:=by kernel_rfl
 i212:=by kernel_rfl
 i232:=by kernel_rfl
 i233:=by kernel_rfl
 m17:=by kernel_rfl
 m18:=by kernel_rfl
 m19:=by kernel_rfl }
end Go.Proofs
end
section
namespace Go.Proofs.Tryz
open Go.Sh
set_option maxRecDepth 100000
def JD (t0 t1 : Value) (w : World) (K : VW) : Prop:=
 pw w (Instr.box 33 t0) fun t2 w1=>
 fl w1 t2 33 6 31 fun t7=>xl w1 31 t7 t1 44 fun t10=>pw w1 (Instr.alloc 44 true (.tuple #[])) fun t5 w2=>
 so w2 44 t5 t10 fun w3=>fl w3 t5 44 0 35 fun t13=>bt .eql 35 t13 (Value.int .u8 14) fun t14=>zc t14 (K (Value.slice Option.none 0 0) w3) (fl w3 t5 44 0 35 fun t17=>bt .eql 35 t17 (Value.int .u8 12) fun t18=>za (fun K4=>gIf t18 true (fl w3 t5 44 11 3 fun t21=>fl w3 t5 44 10 3 fun t23=>bf .neq 3 t21 t23 fun t24=>K4 [t24] w3) (K4 [undef] w3)) (fun s5 _d6 w7=>
 zb t18 (s5.getD 0 undef) fa_ fun t25=>zc t25 (fl w7 t5 44 10 3 fun t27=>fl w7 t5 44 11 3 fun t29=>pw w7 (Instr.buildSlice 67 2 #[(0,t27),(1,t29)]) fun t30 w8=>
 K t30 w8) (fl w7 t5 44 10 3 fun t32=>pw w7 (Instr.buildSlice 67 1 #[(0,t32)]) fun t33 w9=>
 K t33 w9)))
theorem acX {t0 t1 : Value} {w : World} {K : VW} (h : JD t0 t1 w K) : zd prog YH #[t0,t1] w K:=
 okC false (.s (.r (rz 2 0 2)) (.s (.r (rz 7 0 10500)) (.s (.b (.s (.r (rz 4 0 4)) (.c (.s (.r (rz 1 0 0)) (.n)) (.s (.r (ra 4 0 4 (.grp 19 true (ri 5 4 68) [24] (rz 2 9 0)))) (.c (.s (.r (rz 6 0 580)) (.n)) (.n)))))) (.s (.r (rz 4 0 36)) (.n))))) func27 rfl (by kernel_rfl) (by kernel_rfl) h
def YW (t0 : Value) (w : World) (K : VW) : Prop:=
 pw w (Instr.box 44 t0) fun t1 w1=>
 za (fun K2=>
 pf 44 t1 2 fun t4=>fl w1 t4 41 0 39 fun t6=>bt .neq 39 t6 (Value.int .u8 0) fun t7=>zc t7 (fl w1 t1 44 2 41 fun t10=>pw w1 (Instr.buildSlice 42 1 #[(0,t10)]) fun t11 w6=>
 pw w6 (Builtin.append_ #[42,42] 42 #[(Value.slice Option.none 0 0),t11]) fun t12 w7=>
 K2 [t12] w7) (K2 [(Value.slice Option.none 0 0)] w1)) (fun s3 _d4 w5=>
 za (fun K8=>
 pf 44 t1 3 fun t13=>fl w5 t13 41 0 39 fun t15=>bt .neq 39 t15 (Value.int .u8 0) fun t16=>zc t16 (fl w5 t1 44 3 41 fun t19=>pw w5 (Instr.buildSlice 42 1 #[(0,t19)]) fun t20 w12=>
 pw w12 (Builtin.append_ #[42,42] 42 #[(s3.getD 0 undef),t20]) fun t21 w13=>
 K8 [t21] w13) (K8 [(s3.getD 0 undef)] w5)) (fun s9 _d10 w11=>
 fl w11 t1 44 4 42 fun t24=>pw w11 (Builtin.append_ #[42,42] 42 #[(s9.getD 0 undef),t24]) fun t25 w14=>
 K t25 w14))
theorem Vz {t0 : Value} {w : World} {K : VW} (h : YW t0 w K) : zd prog jK #[t0] w K:=
 okC false (.s (.r (rz 2 0 2)) (.s (.r (rz 1 0 0)) (.j [3] (.s (.r (rz 4 0 16)) (.c (.r (rz 6 0 656)) (.n))) (.j [3] (.s (.r (rz 4 0 16)) (.c (.r (rz 6 0 656)) (.n))) (.s (.r (rz 5 0 144)) (.n)))))) func28 rfl (by kernel_rfl) (by kernel_rfl) h
def Xu (t0 : Value) (w : World) (K : VW) : Prop:=
 pw w (Instr.box 44 t0) fun t1 w1=>
 fl w1 t1 44 0 35 fun t4=>bt .geq 35 t4 (Value.int .u8 1) fun t5=>za (fun K2=>gIf t5 true (fl w1 t1 44 0 35 fun t8=>bt .leq 35 t8 (Value.int .u8 8) fun t9=>K2 [t9] w1) (K2 [undef] w1)) (fun s3 _d4 w5=>
 zb t5 (s3.getD 0 undef) fa_ fun t10=>K t10 w5)
theorem aag {t0 : Value} {w : World} {K : VW} (h : Xu t0 w K) : zd prog vw #[t0] w K:=
 okC false (.s (.r (rz 2 0 2)) (.s (.r (ra 4 0 4 (.grp 6 true (ri 3 4 4) [9] (rz 2 7 0)))) (.n))) func29 rfl (by kernel_rfl) (by kernel_rfl) h
def QV (t0 t1 t2 : Value) (w : World) (K : VW) : Prop:=
 pw w (Instr.box 25 t0) fun t3 w1=>
 pw w1 (Instr.box 38 t2) fun t5 w2=>
 pw w2 (Instr.alloc 57 true (.tuple #[])) fun t6 w3=>
 lo w3.drew 25 t3 fun t10=>fl w3.drew t3 25 1 23 fun t12=>xl w3.drew 23 t12 t1 33 fun t15=>pp (Instr.build 130 #[(0,t10),(1,t15)]) fun t16=>pw w3.drew (Instr.box 130 t16) fun t17 w4=>
 lo w4 38 t5 fun t19=>ca yn #[t17,t19] w4 fun t20 w5=>
 pe t20 0 fun t21=>pe t20 1 fun t22=>pe t20 2 fun t23=>so w5 57 t6 t21 fun w6=>pq w6 (zt 57 t6) fun r7=>K (.tuple #[r7,t22,t23]) w6
theorem abV {t0 t1 t2 : Value} {w : World} {K : VW} (h : QV t0 t1 t2 w K) : zd prog jC #[t0,t1,t2] w K:=
 okC false (.s (.r (rz 5 0 42)) (.s (.r (rz 9 0 33809)) (.s (.r (rz 9 0 8228)) (.n)))) func32 rfl (by kernel_rfl) (by kernel_rfl) h
def QW (t0 t1 : Value) (w : World) (K : VW) : Prop:=
 pw w (Instr.box 25 t0) fun t2 w1=>
 zn [(Value.slice Option.none 0 0),(i6 0)] w1 (fun s3 _d4 w5 K2=>
 fl w5 t2 25 1 23 fun t10=>pp (Builtin.len_ #[23] 3 #[t10]) fun t11=>bf .lss 3 (s3.getD 1 undef) t11 fun t12=>zc t12 (za (fun K6=>
 zn [(s3.getD 0 undef),(i6 0)] w5 (fun s11 _d12 w13 K10=>
 fl w13 t2 25 1 23 fun t17=>px 23 t17 t1 fun t19=>fl w13 t19 33 6 31 fun t21=>pp (Builtin.len_ #[31] 3 #[t21]) fun t22=>bf .lss 3 (s11.getD 1 undef) t22 fun t23=>zc t23 (fl w13 t2 25 1 23 fun t27=>px 23 t27 t1 fun t29=>fl w13 t29 33 6 31 fun t31=>px 31 t31 (s11.getD 1 undef) fun t33=>fl w13 t33 44 0 35 fun t35=>bt .eql 35 t35 (Value.int .u8 7) fun t36=>za (fun K14=>gIf t36 true (fl w13 t2 25 1 23 fun t39=>px 23 t39 t1 fun t41=>fl w13 t41 33 6 31 fun t43=>px 31 t43 (s11.getD 1 undef) fun t45=>fl w13 t45 44 8 3 fun t47=>bf .eql 3 t47 (s3.getD 1 undef) fun t49=>K14 [t49] w13) (K14 [undef] w13)) (fun s15 _d16 w17=>
 zb t36 (s15.getD 0 undef) fa_ fun t50=>zc t50 (pw w17 (Instr.buildSlice 67 1 #[(0,(s3.getD 1 undef))]) fun t53 w18=>
 pw w18 (Builtin.append_ #[67,67] 67 #[(s11.getD 0 undef),t53]) fun t54 w19=>
 K6 [t54] w19) (bt .add 3 (s11.getD 1 undef) (i6 1) fun t25=>K10 [(s11.getD 0 undef),t25] w17))) (K6 [(s11.getD 0 undef)] w13))) (fun s7 _d8 w9=>
 bt .add 3 (s3.getD 1 undef) (i6 1) fun t14=>K2 [(s7.getD 0 undef),t14] w9)) (K (s3.getD 0 undef) w5))
theorem abW {t0 t1 : Value} {w : World} {K : VW} (h : QW t0 t1 w K) : zd prog ZS #[t0,t1] w K:=
 okC false (.s (.r (rz 2 0 2)) (.s (.r (rz 1 0 0)) (.s (.s (.r (rz 1 0 0)) (.b (.lp [5,6] (.s (.s (.r (rz 5 0 16)) (.c (.n) (.n))) (.j [5] (.b (.s (.r (rz 1 0 0)) (.b (.lp [5,7] (.s (.s (.r (rz 9 0 4112)) (.c (.n) (.n))) (.s (.b (.s (.r (ra 12 0 263172 (.grp 37 true (ri 12 12 263172) [49] (rz 1 24 0)))) (.c (.s (.r (rz 5 0 160)) (.n)) (.n)))) (.r (rz 3 0 0)))))))) (.r (rz 3 0 0))))))) (.s (.r (rz 2 0 0)) (.n))))) func33 rfl (by kernel_rfl) (by kernel_rfl) h
def JE (t0 t1 : Value) (w : World) (K : VW) : Prop:=
 pw w (Instr.box 38 t0) fun t2 w1=>
 pw w1 (Instr.box 38 t1) fun t3 w2=>
 lo w2 38 t2 fun t5=>lo w2 38 t3 fun t6=>ca ZT #[t5,t6] w2 fun t7 w3=>
 bt .eql 3 t7 (i6 0) fun t8=>K t8 w3
theorem acY {t0 t1 : Value} {w : World} {K : VW} (h : JE t0 t1 w K) : zd prog qO #[t0,t1] w K:=
 okC false (.s (.r (rz 3 0 10)) (.s (.r (rz 5 0 37)) (.n))) func26 rfl (by kernel_rfl) (by kernel_rfl) h
def QX (t0 t1 : Value) (w : World) (K : VW) : Prop:=
 pw w (Instr.box 38 t0) fun t2 w1=>
 pw w1 (Instr.box 38 t1) fun t3 w2=>
 fl w2 t2 38 0 3 fun t7=>fl w2 t3 38 0 3 fun t9=>bf .neq 3 t7 t9 fun t10=>zc t10 (fl w2 t2 38 0 3 fun t12=>fl w2 t3 38 0 3 fun t14=>bf .lss 3 t12 t14 fun t15=>zc t15 (K (i6 (-1)) w2) (K (i6 1) w2)) (zn [(i6 0)] w2 (fun s4 _d5 w6 K3=>
 fl w6 t2 38 1 36 fun t18=>pp (Builtin.len_ #[36] 3 #[t18]) fun t19=>bf .lss 3 (s4.getD 0 undef) t19 fun t20=>za (fun K7=>gIf t20 true (fl w6 t3 38 1 36 fun t24=>pp (Builtin.len_ #[36] 3 #[t24]) fun t25=>bf .lss 3 (s4.getD 0 undef) t25 fun t26=>K7 [t26] w6) (K7 [undef] w6)) (fun s8 _d9 w10=>
 zb t20 (s8.getD 0 undef) fa_ fun t27=>zc t27 (fl w10.drew t2 38 1 36 fun t31=>xl w10.drew 36 t31 (s4.getD 0 undef) 138 fun t34=>fl w10.drew t3 38 1 36 fun t36=>xl w10.drew 36 t36 (s4.getD 0 undef) 138 fun t39=>bf .lss 138 t34 t39 fun t40=>zc t40 (K (i6 (-1)) w10.drew) (fl w10.drew.drew t2 38 1 36 fun t42=>xl w10.drew.drew 36 t42 (s4.getD 0 undef) 138 fun t45=>fl w10.drew.drew t3 38 1 36 fun t47=>xl w10.drew.drew 36 t47 (s4.getD 0 undef) 138 fun t50=>bf .gtr 138 t45 t50 fun t51=>zc t51 (K (i6 1) w10.drew.drew) (bt .add 3 (s4.getD 0 undef) (i6 1) fun t29=>K3 [t29] w10.drew.drew))) (fl w10 t2 38 1 36 fun t53=>pp (Builtin.len_ #[36] 3 #[t53]) fun t54=>fl w10 t3 38 1 36 fun t56=>pp (Builtin.len_ #[36] 3 #[t56]) fun t57=>bf .lss 3 t54 t57 fun t58=>zc t58 (K (i6 (-1)) w10) (fl w10 t2 38 1 36 fun t60=>pp (Builtin.len_ #[36] 3 #[t60]) fun t61=>fl w10 t3 38 1 36 fun t63=>pp (Builtin.len_ #[36] 3 #[t63]) fun t64=>bf .gtr 3 t61 t64 fun t65=>zc t65 (K (i6 1) w10) (K (i6 0) w10))))))
theorem abX {t0 t1 : Value} {w : World} {K : VW} (h : QX t0 t1 w K) : zd prog ZT #[t0,t1] w K:=
 okC false (.s (.r (rz 3 0 10)) (.s (.s (.r (rz 5 0 68)) (.c (.s (.s (.r (rz 5 0 68)) (.c (.s (.r (rz 1 0 0)) (.n)) (.n))) (.s (.r (rz 1 0 0)) (.n))) (.n))) (.s (.s (.r (rz 1 0 0)) (.b (.lp [5] (.s (.s (.r (ra 6 0 16 (.grp 21 true (ri 5 6 16) [26] (rz 1 11 0)))) (.c (.n) (.n))) (.s (.b (.s (.s (.r (rz 11 0 266500)) (.c (.s (.r (rz 1 0 0)) (.n)) (.n))) (.s (.r (rz 11 0 266500)) (.c (.s (.r (rz 1 0 0)) (.n)) (.n))))) (.r (rz 3 0 0))))))) (.s (.s (.r (rz 7 0 260)) (.c (.s (.r (rz 1 0 0)) (.n)) (.n))) (.s (.s (.r (rz 7 0 260)) (.c (.s (.r (rz 1 0 0)) (.n)) (.n))) (.s (.r (rz 1 0 0)) (.n))))))) func70 rfl (by kernel_rfl) (by kernel_rfl) h
def vC (t0 : Value) (w : World) (K : VW) : Prop:=
 ca kk #[t0] w fun t4 w1=>
 K t4 w1
theorem Qa {t0 : Value} {w : World} {K : VW} (h : vC t0 w K) : zd prog kN #[t0] w K:=
 okC false (.s (.r (rz 1 0 0)) (.s (.r (rz 3 0 8)) (.n))) func116 rfl (by kernel_rfl) (by kernel_rfl) h
def kn (t0 : Value) (w : World) (K : VW) : Prop:=
 zc t0 (K (Value.string { data:=#[116,114,117,101] }) w) (K (Value.string { data:=#[102,97,108,115,101] }) w)
theorem vD {t0 : Value} {w : World} {K : VW} (h : kn t0 w K) : zd prog kk #[t0] w K:=
 okC false (.s (.r (rz 1 0 0)) (.s (.s (.r (rz 1 0 0)) (.c (.s (.r (rz 1 0 0)) (.n)) (.n))) (.s (.r (rz 1 0 0)) (.n)))) func149 rfl (by kernel_rfl) (by kernel_rfl) h
end Go.Proofs.Tryz
end
section
namespace Go.Proofs
open Go.Sh Go.RowKit
set_option maxRecDepth 100000
set_option linter.unusedSimpArgs false
set_option linter.unusedVariables false
def TabZ (r : Gh) : Prop := Ob r fun w => Lib.TabIs Tryz.prog w "internal/strconv.uint64pow10" .u64 Lib.pow10Tab
theorem TabZ.up {r s : Gh} (h : TabZ r) [l : Le r s] : TabZ s:=Ob.up h
theorem acs {w : World} {k : Nat} {os : Array Obj} : Ext w (Sort.grow (w.drewN k) os):=
 ⟨rfl,rfl,rfl,by simp [Sort.grow,World.drewN],fun j hj=>by
  show (w.heap++os)[j]? = _
  exact Array.getElem?_append_left hj⟩
theorem Yo {r : Gh} {x : Int} {w : World} {K : Value→World→Prop} (hT : TabZ r) (hx : xn x) (hr : Holds r w) (h : ∀ w',Ext w w'→K (.string (bs (Lib.itoa x))) w') : zd Tryz.prog Tryz.xj #[.int .i64 x] w K:=by
 refine Calls.mono (Any.strconv_Itoa Tryz.ahb x hx.1 (by have:=hx.2;omega) w (hT w hr)) ?_
 rintro e w' ⟨rfl,k,os,rfl⟩
 exact ⟨_,rfl,h _ acs⟩
theorem aeW {r : Gh} {x : Int} {w : World} {K : Value→World→Prop} (hT : TabZ r) (hx : xn x) (hr : Holds r w) (h : ∀ w',Ext w w'→K (.string (bs (Lib.itoa x))) w') : zd Tryz.prog Tryz.vQ #[.int .i64 x,.int .i64 10] w K:=by
 refine Calls.mono (Any.strconv_FormatInt_10 Tryz.ahc x hx.1 (by have:=hx.2;omega) w (hT w hr)) ?_
 rintro e w' ⟨rfl,k,os,rfl⟩
 exact ⟨_,rfl,h _ acs⟩
theorem aej {b : Bool} {w : World} {K : Value→World→Prop} (h : K (.string (bs (if b then [116,114,117,101] else [102,97,108,115,101]))) w) : zd Tryz.prog Tryz.kN #[.bool b] w K:=by
 refine Tryz.Qa ?_
 unfold Tryz.vC
 refine gg_ ?_
 refine Tryz.vD ?_
 unfold Tryz.kn
 refine gg_ ?_
 cases b
 ·exact c_f rfl h
 ·exact c_t rfl h
theorem Ext.below {w0 w w' : World} (e : Ext w0 w) (h : Below w0.heap.size w w') : Ext w0 w':=Below.trans e h
def Bld (B b : Nat) (l : List UInt8) (w : World) : Prop:=B≤w.heap.size∧Lib.IsBuilder 176 5 B b (Lib.byteCells l) w
theorem aiH {w : World} {base : Nat} {e : TypeId} {size : Nat} {v : Value} {n : Nat} {xs : List Value} (h : w.ownsRow base e size v n xs) {g : Nat} (hg : v.ownBlock=some g) : g<w.heap.size:=by
 rcases Xc h with h0|⟨g',cap,c,hb,rfl,B,_⟩
 ·rw [h0] at hg;cases hg
 ·rw [hb] at hg;cases hg;exact (Array.getElem?_eq_some_iff.1 B).1
theorem Bld.ext {B b : Nat} {l : List UInt8} {w w' : World} (h : Bld B b l w) (e : Ext w w') : Bld B b l w':=by
 have key : ∀ p,Lib.BuilderAt 176 5 B b p (Lib.byteCells l) w→Lib.BuilderAt 176 5 B b p (Lib.byteCells l) w':=fun p h=>by
  obtain ⟨h1,v,h2,h3,h4⟩:=h
  exact ⟨h1,v,(e.block b (Array.getElem?_eq_some_iff.1 h2).1).trans h2,adU h3 (fun g hg=>e.block g (aiH h3 hg)),h4⟩
 exact ⟨Nat.le_trans h.1 e.size,h.2.imp (key _) (key _)⟩
theorem agt {w : World} {K : Value→World→Prop} (h : ∀ b w',Ext w w'→Bld w.heap.size b [] w'→K (.pointer (some ⟨b,0,none⟩)) w') : opW Tryz.prog w (Instr.alloc 176 true (.tuple #[])) K:=
 abF (c:=[.pointer none,.slice none 0 0]) ZrT.h fun b w' hb e hs B=>h b w' e ⟨by omega,.inl ⟨by omega,.slice none 0 0,B,World.ownsRow_nil _ _ _ _,by simp [Value.ownBlock]⟩⟩
theorem acZ (l m : List UInt8) : Lib.byteCells (l++m)=Lib.byteCells l++Lib.byteCells m:=List.map_append
theorem ZZ {B b : Nat} {l m : List UInt8} {w : World} {K : Value→World→Prop} (hb : Bld B b l w) (hl : l.length+m.length≤140737488355328) (h : ∀ v w',Below B w w'→Bld B b (l++m) w'→K v w') :
  zd Tryz.prog Tryz.yk #[.pointer (some ⟨b,0,none⟩),.string (bs m)] w K:=by
 refine Calls.mono (Any.Builder_WriteString ({ Tryz.Vl with } : Lays.n166 Tryz.prog Tryz.Zp) Tryz.kt B b (Lib.byteCells l) (bs m) w hb.2 (by rw [Ym];simpa [Lib.byteCells] using hl) hb.1) ?_
 rintro e w' ⟨rfl,h1,h2⟩
 refine ⟨_,rfl,h _ _ h2 ⟨Nat.le_trans hb.1 h2.size,.inr ?_⟩⟩
 rw [acZ]
 exact h1
theorem agu {B b : Nat} {l : List UInt8} {w : World} {K : Value→World→Prop} (hb : Bld B b l w) (h : ∀ w',Below B w w'→K (.string (bs l)) w') :
  zd Tryz.prog Tryz.qI #[.pointer (some ⟨b,0,none⟩)] w K:=by
 refine Calls.mono (Any.Builder_String_any ({ Tryz.Vl with } : Lays.n169 Tryz.prog Tryz.Zp) Tryz.kt B b l w hb.2 hb.1) ?_
 rintro e w' ⟨rfl,h2⟩
 exact ⟨_,rfl,h _ h2⟩
theorem JF : ∀ l : List (List UInt8),Lib.join l [44,32]=jD l
 |[]=>rfl
 |[x]=>by simp [Lib.join,jD,List.intercalate]
 |x::y::l=>by rw [jD,← JF (y::l)];simp [Lib.join,List.intercalate]
theorem aiI {l : List (List UInt8)} {w : World} {r : Gh} {v : Value} {K : Value→World→Prop} (hr : Holds r w) (hv : SlG 1 r JA v (l.map bs)) (hn : l.length≤1000) (hl : (jD l).length≤140737488355328)
  (h : ∀ w',Ext w w'→K (.string (bs (jD l))) w') : zd Tryz.prog Tryz.XO #[v,.string (bs [44,32])] w K:=by
 have hm : (l.map bs).map (·.data.toList)=l:=by
  rw [List.map_map];conv=>rhs;rw [← List.map_id l]
  exact List.map_congr_left fun x _=>rfl
 obtain ⟨p,cap,rfl,hp,hc⟩:=hv.shape
 by_cases h0 : l = []
 ·subst h0
  refine Calls.mono (Any.strings_Join_none Tryz.Vl Tryz.kt p cap (bs [44,32]) w) ?_
  rintro e w' ⟨rfl,rfl⟩
  exact ⟨_,rfl,h _ (Ext.refl _)⟩
 have hlen : 0<(l.map bs).length:=by rw [List.length_map];exact List.length_pos_iff.2 h0
 obtain ⟨b,o,c,rfl,_,_,_⟩:=hv.get (by decide) hlen
 have hcells : ∀ (j : Nat) x,(l.map bs)[j]? = some x→w.cell? ⟨b,o+j,none⟩=some (.string x):=fun j x hj=>by
  obtain ⟨hjl,hje⟩:=List.getElem?_eq_some_iff.1 hj
  subst hje
  obtain ⟨b',o',c',hE,hc',hR,hcell⟩:=hv.get (by decide) hjl
  cases hE
  obtain rfl : c' = [.string (l.map bs)[j]]:=hR
  simpa using hcell 0 _ rfl w hr
 have hb : b<w.heap.size:=by
  have:=hcells 0 _ (List.getElem?_eq_getElem hlen)
  simp only [World.cell?] at this
  refine Nat.lt_of_not_le fun hn=>?_
  rw [Array.getElem?_eq_none hn] at this
  simp at this
 refine Calls.mono (Any.strings_Join Tryz.Vl Tryz.kt b o cap (l.map bs) (bs [44,32]) w hcells hb (by rw [List.length_map];omega) hc ?_) ?_
 ·rw [hm];show (Lib.join l [44,32]).length≤_;rw [JF];exact hl
 rintro e w' ⟨rfl,h2⟩
 refine ⟨_,rfl,?_⟩
 rw [hm]
 show K (.string ⟨(Lib.join l [44,32]).toArray⟩) w'
 rw [JF]
 exact h _ h2
end Go.Proofs
end
