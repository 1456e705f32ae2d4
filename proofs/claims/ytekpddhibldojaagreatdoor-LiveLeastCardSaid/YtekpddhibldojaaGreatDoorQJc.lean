/-
  Contracts: a type's nodes as one's own cells; own, Own.
  Contracts: walk that turns regions; Number, Anew.
  Contracts: Anew of types.
  Contracts: laid, Number, Anew of the document's answer.
  Structs as data; what stands in what: the plain laws.
  Contracts: words, endless, first of package types.
  Contracts: Structs, May, Words, Drops of package types.
  Contracts: the document's answer: plain, endless, words, Structs, May, Words, Drops, Copies.
  Contracts: the document's answer: endless, Structs, May, Words, Drops.
  Contracts: fits; a struct's fields in new memory, of both sides.
  A law's end: the answer is true, the input reads as it did.
  Whatever an argument reads as, it is a datum: one theorem for all types of numbers, texts, structs and slices.
  Lists in memory, of whatever things: what a slice tells, read and grown.
  Data that are of a type, taken apart; what slices of data tell.
  Programs as graphs, as data; what a memory tells of them.
  A step of a kind, told by its kind alone.
  Texts of places, operands and points: as plain lists of bytes; how long they are.
  Contracts of the library, laid at this program (by the kit's own tools).
  Shallow readings of functions. Made by a program (wip/gen/gen.py) out of the translation; the kernel checks each equality.
  A strings.Builder that a call has made itself: what it holds, and what it tells.
  Shallow readings of functions. Made by a program (wip/gen/gen.py) out of the translation; the kernel checks each equality.
  Texts of places and operands, of both sides.
  Texts of operands and of lists of operands, of both sides.
  Which programs may be: the plain law.
  Which programs may be: what is walked may be, plain facts.
  Regions of a graph: the plain law.
  Regions of a type turned, erased: step by step.
  Contracts: zero, the type of a place of a graph.
  Contracts: the type of an operand of a graph.
  Contracts: which fields a point may have.
  Contracts: the functions that stand in point.
  Shallow readings of functions. Made by a program (wip/gen/gen.py) out of the translation; the kernel checks each equality.
  Contracts: regions of a type turned, erased, of both sides.
  Regions laid anew and numbered twice; words and drops of fields: the plain laws.
  Regions numbered: plain facts, one by one.
  Heads of graphs: plain facts, and what the tables hold.
  Contracts: what types imply.
  Contracts: what outlives what.
  Elements of rows of one's own written over.
  Contracts: places among types: walk, May, Type.
  A map of strings of one's own: made, filled, asked.
-/
import Derived.Test.YtekpddhibldojaaGreatDoorQJb
import Derived.Test.YtekpddhibldojaaGreatDoorQJa
import Derived.ChangeSame
import Derived.ChangeStays
import Derived.ReadAgain
import Derived.ProofKit
import Derived.OpenShut
import Derived.Deep.DeepHandedRow
import Derived.Lib.LaidTab
import Derived.Lib.SmallJoins
import Derived.ChangeArms
import Derived.DataReads
import Derived.Lib.ItoaLen
import Derived.Shelf.Strings.Builder1
import Derived.Shelf.Strings.OnBuilder
import Derived.Shelf.Small.Wraps
import Derived.Shelf.Strconv.Itoa3
import Derived.Shelf.Strconv.Itoa4
import Derived.Shelf.Slices.CompactI
import Derived.Test.YtekpddhibldojaaGreatDoorProg
import Derived.KernelRfl
import Derived.MapKept
section
namespace Go.Proofs
open Go.Sh
set_option maxRecDepth 100000
set_option linter.unusedSimpArgs false
set_option linter.unusedVariables false
inductive ChnL : List Value→TyD→List Asr→Prop
 |nil {k re st : Int} {m : Bool} : ChnL [.int .u8 k,.bool m,.int .i64 re,.int .i64 st,.slice none 0 0] (.mk k m re st []) []
 |one {b : Nat} {c : List Value} {k re st : Int} {m : Bool} {u : TyD} {L : List Asr} (h : ChnL c u L) :
  ChnL [.int .u8 k,.bool m,.int .i64 re,.int .i64 st,.slice (some ⟨b,0,none⟩) 1 1] (.mk k m re st [u]) (.cell b c 83::L)
theorem ChnL.len {c : List Value} {t : TyD} {L : List Asr} (h : ChnL c t L) : c.length=5:=by cases h<;>rfl
theorem ChnL.ones {c : List Value} {t : TyD} {L : List Asr} (h : ChnL c t L) : ∀ u ∈ c,u.oneCell'=true:=by
 cases h<;>simp [Value.oneCell']
section
variable {X : Nat→Prop} {w0 w : World} {r : Gh} {L : List Asr}
theorem abW {s : Int} : ∀ (n : Nat) {t : TyD} {w : World} {r : Gh} {L : List Asr} {v : Value} {K : Value→World→Prop},n≤1000→zU s n t=true→StX X w0 r w L→TyG r v t→
  (∀ c N w',ChnL c t N→StX X w0 r w' (N++L)→K (.agg c.toArray) w')→zd Tryz.prog Tryz.jn #[v] w K:=by
 intro n
 induction n with
 |zero=>intro t w r L v K _ h;cases h
 |succ n ih=>
  intro t w r L v K hn hl S hv h
  refine Tryz.aaQ ?_
  unfold Tryz.X6
  obtain ⟨p,cap,rfl,_,_,hof⟩:=hv
  refine S.box fun b1 w1 S=>?_
  have S : StX X w0 r w1 (.cell b1 [.int .u8 t.k,.bool t.m,.int .i64 t.re,.int .i64 t.st,.slice p t.of.length cap] 83::L):=S
  refine S.al fun b2 w2 S=>?_
  refine zq (fun _ w'=>∃ q m N,ChnL [.int .u8 t.k,.bool t.m,.int .i64 t.re,.int .i64 t.st,.slice q m m] t N∧StX X w0 r w' (N++(.cell b2 [.int .u8 0,.bool false,.int .i64 0,.int .i64 0,.slice none 0 0] 83 :: .cell b1 [.int .u8 t.k,.bool t.m,.int .i64 t.re,.int .i64 t.st,.slice q m m] 83::L))) (fun K2 hK2=>?_) ?_
  ·have he : t = .mk t.k t.m t.re t.st t.of:=by cases t;rfl
   refine gG_ ?_
   rcases qH hl with ⟨ho,_⟩|⟨u,ho,hu,_⟩
   ·refine c_f (by rw [ho];rfl) ?_
    refine gG_ ?_
    refine S.st fun w3 S=>?_
    refine hK2 [] _ ⟨none,0,[],?_,S⟩
    have : ChnL [.int .u8 t.k,.bool t.m,.int .i64 t.re,.int .i64 t.st,.slice none 0 0] (.mk t.k t.m t.re t.st []) []:=.nil
    rw [ho] at he
    rw [← he] at this
    exact this
   ·have hlen : t.of.length=1:=by rw [ho];rfl
    obtain ⟨ba,oa,rfl,c,hc,hcell,ht⟩:=NdG.of hof (i:=0) (by omega)
    have ht : TyG r (.agg c.toArray) u:=by simpa [ho] using ht
    refine c_t (by rw [hlen];rfl) ?_
    refine gG_ ?_
    refine zH (n:=5) hc (fun j v hj=>by simpa using S.at (hcell j v hj)) ?_
    refine ih (by omega) hu S ht fun c' N w3 hch S=>?_
    refine S.lit (e:=83) (cs:=c') (by
     cases hch<;>kernel_rfl) fun b9 w4 S=>?_
    have S : StX X w0 r w4 (.cell b1 [.int .u8 t.k,.bool t.m,.int .i64 t.re,.int .i64 t.st,.slice (some ⟨ba,oa,none⟩) t.of.length cap] 83::(.cell b9 c' 83::N++(.cell b2 [.int .u8 0,.bool false,.int .i64 0,.int .i64 0,.slice none 0 0] 83::L))):=S.perm (by
     refine (List.Perm.cons _ ?_).trans (.swap _ _ _)
     refine (List.perm_append_comm_assoc N [_] _).trans ?_
     refine (List.Perm.append_left [_] ((List.perm_append_comm_assoc N [_] _))).trans ?_
     refine (List.Perm.swap _ _ _).trans ?_
     refine List.Perm.cons _ ?_
     exact (List.perm_append_comm_assoc [_] N L))
    refine gG_ ?_
    refine S.st fun w5 S=>?_
    have hch' : ChnL [.int .u8 t.k,.bool t.m,.int .i64 t.re,.int .i64 t.st,.slice (some ⟨b9,0,none⟩) 1 1] (.mk t.k t.m t.re t.st [u]) (.cell b9 c' 83::N):=.one hch
    rw [ho] at he
    rw [← he] at hch'
    refine hK2 [] _ ⟨_,_,_,hch',S.perm ?_⟩
    have:=List.perm_middle (a:=Asr.cell b1 [.int .u8 t.k,.bool t.m,.int .i64 t.re,.int .i64 t.st,.slice (some ⟨b9,0,none⟩) 1 1] 83) (l₁:=.cell b9 c' 83::N ++ [.cell b2 [.int .u8 0,.bool false,.int .i64 0,.int .i64 0,.slice none 0 0] 83]) (l₂:=L)
    simpa using this.symm
  rintro _ w6 ⟨q,m,N,hch,S⟩ d6
  have S : StX X w0 r w6 (.cell b2 [.int .u8 0,.bool false,.int .i64 0,.int .i64 0,.slice none 0 0] 83 :: .cell b1 [.int .u8 t.k,.bool t.m,.int .i64 t.re,.int .i64 t.st,.slice q m m] 83::(N++L)):=S.perm (by
   refine (List.perm_append_comm_assoc N [_] _).trans ?_
   exact List.Perm.cons _ (List.perm_append_comm_assoc N [_] _))
  refine gG_ ?_
  refine S.stB fun w7 S=>?_
  refine gG_ ?_
  exact h _ N _ hch S.tl.tl
end
end Go.Proofs
end
section
namespace Go.Proofs
open Go.Sh
set_option maxRecDepth 100000
set_option linter.unusedSimpArgs false
set_option linter.unusedVariables false
theorem Vv {t : TyD} (h : isB t=true) : t.regs.length≤48:=by
 have h1:=adP 48 (XH h)
 rw [TyD.regs,TyD.regsL,List.length_map]
 exact Nat.le_trans (List.length_filter_le _ _) h1
end Go.Proofs
end
section
namespace Go.Proofs
open Go.Sh
set_option maxRecDepth 100000
set_option linter.unusedSimpArgs false
set_option linter.unusedVariables false
theorem J2 {w : World} {p : Option Addr} {l : List Int} (h : Sl w p (ints l)) {i : Nat} (hi : i<l.length) : ∃ b off,p=some ⟨b,off,none⟩∧w.cell? ⟨b,off+i,none⟩=some (.int .i64 l[i]):=by
 obtain ⟨b,off,hp,hc⟩:=h.at (i:=i) (by rw [qZ];exact hi)
 refine ⟨b,off,hp,?_⟩
 rw [hc];simp [ints]
end Go.Proofs
end
section
namespace Go.Proofs
open Go.Sh
set_option maxRecDepth 100000
set_option linter.unusedSimpArgs false
set_option linter.unusedVariables false
end Go.Proofs
end
section
namespace Go.Proofs
open Go.Sh
set_option maxRecDepth 100000
set_option linter.unusedSimpArgs false
set_option linter.unusedVariables false
structure StD where
 name : ByteArray
 fs : List (ByteArray × TyD)
def aaV (f : ByteArray × TyD) : Dat:=.agg [.str f.1,f.2.dat]
def StD.dat (s : StD) : Dat:=.agg [.str s.name,.sl 6 (s.fs.map aaV)]
def FlG (r : Gh) (p : Option Addr) (fs : List (ByteArray × TyD)) : Prop:=RepS r 6 p 0 (fs.map aaV)
def StG (r : Gh) (p : Option Addr) (ss : List StD) : Prop:=RepS r 2 p 0 (ss.map StD.dat)
theorem StG.up {r s : Gh} {p : Option Addr} {ss : List StD} (h : StG r p ss) [l : Le r s] : StG s p ss:=RepS.up' l h
theorem Ji {r : Gh} {p : Option Addr} {fs : List (ByteArray × TyD)} (h : FlG r p fs) {k : Nat} (hk : k<fs.length) : ∃ b off c,p=some ⟨b,off,none⟩∧c.length=5∧
  (∀ j v,(Value.string fs[k].1::c)[j]? = some v→Ob r fun w=>w.cell? ⟨b,off+k*6+j,none⟩=some v)∧TyG r (.agg c.toArray) fs[k].2:=by
 obtain ⟨c,h1,h2,h3⟩:=RepS.get h (i:=k) (d:=aaV fs[k]) (by rw [List.getElem?_map,List.getElem?_eq_getElem hk];rfl)
 obtain ⟨a1,b1,rfl,e1,a2,b2,rfl,e2,e3⟩:=h3
 obtain rfl : a1=_:=e1
 obtain rfl : b2 = []:=e3
 rw [List.append_nil] at h1 h2
 obtain ⟨b,off,rfl,_⟩:=h2 0 _ rfl
 refine ⟨b,off,a2,rfl,by simpa using h1,fun j v hj=>?_,TyG.of_rep e2⟩
 obtain ⟨b',off',hp,ho⟩:=h2 j v hj
 cases hp
 rwa [Nat.zero_add] at ho
theorem Zp {r : Gh} {p : Option Addr} {ss : List StD} (h : StG r p ss) {i : Nat} (hi : i<ss.length) : ∃ b off q cap,p=some ⟨b,off,none⟩∧
  (Ob r fun w=>w.cell? ⟨b,off+i*2+1,none⟩=some (.slice q ss[i].fs.length cap))∧(q=none→cap=0)∧ss[i].fs.length≤cap∧FlG r q ss[i].fs:=by
 obtain ⟨c,h1,h2,h3⟩:=RepS.get h (i:=i) (d:=StD.dat ss[i]) (by rw [List.getElem?_map,List.getElem?_eq_getElem hi];rfl)
 obtain ⟨a1,b1,rfl,e1,a2,b2,rfl,e2,e3⟩:=h3
 obtain rfl : a1=_:=e1
 obtain rfl : b2 = []:=e3
 obtain ⟨q,cap,rfl,hq,hc,hf⟩:=e2
 rw [List.length_map] at hc h2
 obtain ⟨b,off,rfl,_⟩:=h2 0 _ rfl
 obtain ⟨b',off',hp,ho⟩:=h2 1 (.slice q ss[i].fs.length cap) (by rfl)
 cases hp
 rw [Nat.zero_add] at ho
 exact ⟨b,off,q,cap,rfl,ho,hq,hc,hf⟩
def zg (ss : List StD) (k : Int) : List TyD:=match ss[k.toNat]? with|some s=>s.fs.map (·.2)|none=>[]
def Kid (ss : List StD) (k j : Int) : Prop:=∃ t ∈ zg ss k,t.k=5∧t.st=j
inductive Rch (ss : List StD) : Int→Int→Prop
 |one {k j : Int} : Kid ss k j→Rch ss k j
 |more {k j i : Int} : Rch ss k j→Kid ss j i→Rch ss k i
theorem Rch.trans {ss : List StD} {a b c : Int} (h : Rch ss a b) (k : Rch ss b c) : Rch ss a c:=by
 induction k with
 |one e=>exact .more h e
 |more _ e ih=>exact .more ih e
def qI (ss : List StD) : Prop:=∀ k,∀ t ∈ zg ss k,zU ss.length 48 t=true
theorem ZW {n : Int} {m : Nat} {t : TyD} (h : zU n (m+1) t=true) (hk : t.k=5) : 0≤t.st∧t.st<n∧t.of = []:=by
 rw [j6] at h
 rw [if_neg (by omega),if_pos hk] at h
 simp only [Bool.and_eq_true,decide_eq_true_eq] at h
 exact ⟨h.1.2,h.2,List.eq_nil_of_length_eq_zero h.1.1.2⟩
theorem vI {ss : List StD} (hg : qI ss) {k j : Int} (h : Kid ss k j) : 0≤j∧j<ss.length:=by
 obtain ⟨t,ht,h5,rfl⟩:=h
 have:=ZW (hg k t ht) h5
 exact ⟨this.1,this.2.1⟩
theorem adU {ss : List StD} (hg : qI ss) {k j : Int} (h : Rch ss k j) : 0≤j∧j<ss.length:=by
 cases h with
 |one h=>exact vI hg h
 |more _ h=>exact vI hg h
open Classical in
noncomputable def rkS (ss : List StD) (k : Int) : Nat:=(List.range ss.length).countP fun j : Nat=>decide (Rch ss k (j : Int))
noncomputable def rkT (ss : List StD) (t : TyD) : Nat:=if t.k=5 then rkS ss t.st+1 else 0
open Classical in
theorem af9 (ss : List StD) (t : TyD) : rkT ss t≤ss.length+1:=by
 unfold rkT rkS
 split
 ·have:=List.countP_le_length (p:=fun j : Nat=>decide (Rch ss t.st (j : Int))) (l:=List.range ss.length)
  rw [List.length_range] at this
  omega
 ·omega
theorem Vx {p q : Nat→Bool} : ∀ {l : List Nat},(∀ x ∈ l,p x=true→q x=true)→(∃ x ∈ l,p x=false∧q x=true)→l.countP p<l.countP q
 |[],_,h=>by obtain ⟨x,hx,_⟩:=h;cases hx
 |a::l,h1,h2=>by
  rw [List.countP_cons,List.countP_cons]
  have hle : l.countP p≤l.countP q:=List.countP_mono_left fun x hx=>h1 x (List.mem_cons_of_mem _ hx)
  have ha:=h1 a List.mem_cons_self
  by_cases hex : ∃ x ∈ l,p x=false∧q x=true
  ·have:=Vx (fun x hx=>h1 x (List.mem_cons_of_mem _ hx)) hex
   cases hp : p a<;>cases hq : q a<;>simp_all<;>omega
  ·obtain ⟨x,hx,hx1,hx2⟩:=h2
   rcases List.mem_cons.1 hx with rfl|hx
   ·rw [hx1,hx2];simp;omega
   ·exact absurd ⟨x,hx,hx1,hx2⟩ hex
open Classical in
theorem aga {ss : List StD} (hg : qI ss) (hac : ∀ k,¬ Rch ss k k) {t u : TyD} (h5 : t.k=5) (hu : u ∈ zg ss t.st) : rkT ss u<rkT ss t:=by
 unfold rkT
 rw [if_pos h5]
 split
 ·rename_i hu5
  have hk : Kid ss t.st u.st:=⟨u,hu,hu5,rfl⟩
  have hin:=vI hg hk
  have:=Vx (p:=fun j : Nat=>decide (Rch ss u.st (j : Int))) (q:=fun j : Nat=>decide (Rch ss t.st (j : Int))) (l:=List.range ss.length)
   (fun x _ hx=>decide_eq_true (Rch.trans (.one hk) (of_decide_eq_true hx)))
   ⟨u.st.toNat,List.mem_range.2 (by omega),decide_eq_false (by rw [Int.toNat_of_nonneg hin.1];exact hac _),decide_eq_true (by rw [Int.toNat_of_nonneg hin.1];exact .one hk)⟩
  unfold rkS
  omega
 ·omega
def xa : List Nat→Nat
 |[]=>0
 |x::l=>x+xa l
theorem ZB : ∀ (a b : List Nat),xa (a++b)=xa a+xa b
 |[],b=>by simp [xa]
 |x::a,b=>by simp only [List.cons_append,xa,ZB a b];omega
def wF (ss : List StD) : Nat→TyD→Nat
 |0,_=>1
 |m+1,t=>if t.k=5 then xa ((zg ss t.st).map (wF ss m)) else 1
def dF (ss : List StD) : Nat→TyD→Bool
 |0,t=>decide (t.k=3)
 |m+1,t=>if t.k=5 then (zg ss t.st).any (dF ss m) else decide (t.k=3)
def xu (n : Nat) (p : Nat→Bool) : Nat:=((List.range n).find? p).getD n
theorem adV {n : Nat} {p : Nat→Bool} (h : ∀ j,j<n→p j=false) : xu n p=n:=by
 rw [xu,List.find?_eq_none.2 (by intro x hx;rw [h x (List.mem_range.1 hx)];decide)];rfl
theorem adW {n i : Nat} {p : Nat→Bool} (hi : i<n) (hp : p i=true) (h : ∀ j,j<i→p j=false) : xu n p=i:=by
 have : (List.range n).find? p=some i:=by
  rw [List.find?_range_eq_some]
  exact ⟨hp,List.mem_range.2 hi,fun j hj=>by rw [h j hj];rfl⟩
 rw [xu,this];rfl
theorem kE {n : Nat} {p : Nat→Bool} (h : ¬ xu n p<n) : ∀ j,j<n→p j=false:=by
 intro j hj
 by_cases hp : ∀ j,j<n→p j=false
 ·exact hp j hj
 ·exfalso
  apply h
  unfold xu
  cases hf : (List.range n).find? p with
  |none=>
   exfalso;apply hp
   intro j hj
   have:=List.find?_eq_none.1 hf j (List.mem_range.2 hj)
   simpa using this
  |some x=>exact List.mem_range.1 (List.mem_of_find?_eq_some hf)
def qJ (ss : List StD) (k : Nat) : Bool:=
 (decide ((zg ss k).length<1)||decide (8<(zg ss k).length))||(zg ss k).any fun t=>!zU ss.length 48 t||decide (0<t.regs.length)
open Classical in
noncomputable def jK (ss : List StD) (k : Nat) : Bool:=decide (Rch ss k k)
def QF (ss : List StD) (k : Nat) : Bool:=decide (16<wF ss 40 (.mk 5 false 0 k []))
noncomputable def zZ (ss : List StD) : Int × Int:=
 if 32<ss.length then (32,2)
 else if xu ss.length (qJ ss)<ss.length then (xu ss.length (qJ ss),2)
 else if xu ss.length (jK ss)<ss.length then (xu ss.length (jK ss),2)
 else if xu ss.length (QF ss)<ss.length then (xu ss.length (QF ss),2)
 else (0,0)
theorem qe {ss : List StD} {i : Nat} (hi : i<ss.length) : zg ss i=ss[i].fs.map (·.2):=by
 rw [zg,Int.toNat_natCast,List.getElem?_eq_getElem hi]
theorem Vy {ss : List StD} {i : Nat} (hi : i<ss.length) : (zg ss i).length=ss[i].fs.length:=by
 rw [qe hi,List.length_map]
theorem Vz {ss : List StD} {k : Int} (h : ¬ k.toNat<ss.length) : zg ss k = []:=by
 rw [zg,List.getElem?_eq_none (by omega)]
theorem J3 {ss : List StD} (h : ∀ k,k<ss.length→qJ ss k=false) : qI ss:=by
 intro k t ht
 by_cases hk : k.toNat<ss.length
 ·have:=h k.toNat hk
  have e : zg ss (k.toNat : Int)=zg ss k:=by rw [zg,zg,Int.toNat_natCast]
  rw [qJ,e,Bool.or_eq_false_iff] at this
  have:=List.any_eq_false.1 this.2 t ht
  simp only [Bool.or_eq_true,Bool.not_eq_true',not_or] at this
  simpa using this.1
 ·rw [Vz hk] at ht;cases ht
theorem acs {ss : List StD} (hg : qI ss) (h : ∀ k,k<ss.length→jK ss k=false) : ∀ k,¬ Rch ss k k:=by
 intro k hk
 have hin:=adU hg hk
 have:=h k.toNat (by omega)
 rw [jK,decide_eq_false_iff_not,Int.toNat_of_nonneg hin.1] at this
 exact this hk
theorem j7 {ss : List StD} (h : (zZ ss).2=0) : ss.length≤32∧(∀ k,k<ss.length→qJ ss k=false)∧qI ss∧(∀ k,¬ Rch ss k k)∧(∀ k,k<ss.length→QF ss k=false)∧zZ ss=(0,0):=by
 unfold zZ at h ⊢
 split at h
 ·cases h
 split at h
 ·cases h
 split at h
 ·cases h
 split at h
 ·cases h
 rename_i h1 h2 h3 h4
 have g:=J3 (kE h2)
 refine ⟨by omega,kE h2,g,acs g (kE h3),kE h4,?_⟩
 rw [if_neg h1,if_neg h2,if_neg h3,if_neg h4]
end Go.Proofs
end
section
namespace Go.Proofs
open Go.Sh
set_option maxRecDepth 100000
set_option linter.unusedSimpArgs false
set_option linter.unusedVariables false
theorem adX {α : Type} (f : α→Nat) {l : List α} {i : Nat} (hi : i<l.length) : xa ((l.take (i+1)).map f)=xa ((l.take i).map f)+f l[i]:=by
 rw [List.take_succ_eq_append_getElem hi,List.map_append,ZB];simp [xa]
theorem agA {α : Type} (f : α→Nat) (l : List α) (i : Nat) : xa ((l.take i).map f)≤xa (l.map f):=by
 have:=congrArg (fun l=>xa (l.map f)) (List.take_append_drop i l)
 simp only [List.map_append,ZB] at this
 rw [← this]
 exact Nat.le_add_right _ _
theorem QG {r : Gh} {c : List Value} {s : ByteArray} {t : TyD} (h : TyG r (.agg c.toArray) t) : ∀ u ∈ (Value.string s::c).toArray.toList,u.oneCell'=true:=by
 intro u hu
 rcases List.mem_cons.1 (by simpa using hu) with rfl|hu
 ·rfl
 ·exact agy h u (by simpa using hu)
theorem _root_.Go.Sh.StX.fty {X : Nat→Prop} {w0 w : World} {r : Gh} {L : List Asr} {f : List Value→List Asr} {T : TypeId} {b : Nat} {s : ByteArray} {c : List Value} (S : StX X w0 r w L) [h : At b L (.string s::c) T f] (hc : c.length=5) {K : Value→Prop} (k : K (.agg c.toArray)) :
  opQ Tryz.prog w (Instr.loadAt 83 (.pointer (some ⟨b,0+1,none⟩))) K:=
 S.ldN (h:=h) (n:=5) (vs:=c) k (by rw [List.drop_succ_cons,List.drop_zero,List.take_of_length_le (by omega)]) hc
theorem V4 {ss : List StD} {p : Option Addr} {cap : Nat} (hg : qI ss) (hac : ∀ k,¬ Rch ss k k) : ∀ (m : Nat) {t : TyD} {w : World} {r : Gh} {v : Value} {K : Value→World→Prop},m≤100→rkT ss t≤m→zU ss.length 48 t=true→ss.length≤32→(∀ k,(zg ss k).length≤8)→
  Holds r w→StG r p ss→TyG r v t→(∀ w',Ext w w'→K (.int .i64 (min (wF ss m t) 17 : Nat)) w')→zd Tryz.prog Tryz.k6 #[.slice p ss.length cap,v] w K:=by
 intro m
 induction m with
 |zero=>
  intro t w r v K _ hrk hl h32 h8 hr hs hv h
  have h5 : ¬ t.k=5:=fun h=>by unfold rkT at hrk;rw [if_pos h] at hrk;omega
  refine Tryz.ZQ ?_
  unfold Tryz.jI
  obtain ⟨p1,cap1,rfl,_⟩:=hv
  have S:=St.start hr
  refine S.box fun b3 w1 S=>?_
  refine gG_ ?_
  refine zm (fun _=>h _ S.ext) (fun hn=>absurd (by omega) h5)
 |succ m ih=>
  intro t w r v K hm hrk hl h32 h8 hr hs hv h
  refine Tryz.ZQ ?_
  unfold Tryz.jI
  obtain ⟨p1,cap1,rfl,_⟩:=hv
  have S:=St.start hr
  refine S.box fun b3 w1 S=>?_
  refine gG_ ?_
  refine zm (fun hn=>?_) (fun h5=>?_)
  ·rw [wF,if_neg (by omega)] at h
   exact h _ S.ext
  have h5 : t.k=5:=by omega
  obtain ⟨hst0,hst1,_⟩:=ZW hl h5
  have hlt : t.st.toNat<ss.length:=by omega
  obtain ⟨b,off,q,capq,rfl,hcell,_,_,hf⟩:=Zp hs hlt
  refine gG_ ?_
  refine zh (S.at hcell) ?_
  have htl : zg ss t.st=ss[t.st.toNat].fs.map (·.2):=by
   rw [← qe hlt];simp only [zg,Int.toNat_natCast]
  have hlen : (zg ss t.st).length=ss[t.st.toNat].fs.length:=by rw [htl,List.length_map]
  have h88:=h8 t.st
  refine gG_ ?_
  refine zj (ι:=Nat) (fun i=>[.int .i64 (xa (((zg ss t.st).take i).map (wF ss m)) : Nat),.int .i64 i]) (fun i w'=>i≤(zg ss t.st).length∧xa (((zg ss t.st).take i).map (wF ss m))≤16∧St w r w' _)
   (fun i=>(zg ss t.st).length - i) 0 rfl ⟨Nat.zero_le _,by simp [xa],S⟩ ?_
  clear S
  rintro i d w2 ⟨hi,hsum,S⟩ K6 hK6
  rw [List.getD_cons_zero,List.getD_cons_succ,List.getD_cons_zero]
  refine gG_ ?_
  refine c_b (fun hlt2=>?_) (fun hge=>?_)
  ·have hlt2 : i<ss[t.st.toNat].fs.length:=by simpa using hlt2
   have hlt3 : i<(zg ss t.st).length:=by omega
   obtain ⟨b2,off2,c,rfl,hcl,hcc,hty⟩:=Ji hf hlt2
   refine gG_ ?_
   refine zH (n:=6) (c:=.string ss[t.st.toNat].fs[i].1::c) (by simp [hcl]) (fun j v hj=>by rw [Int.toNat_natCast];exact S.at (hcc j v hj)) ?_
   refine S.al fun b7 w3 S=>?_
   refine S.stB (cs:=(Value.string ss[t.st.toNat].fs[i].1::c).toArray) (fun w4 S=>?_) rfl (by simp [hcl]) (QG hty)
   refine gP_ ?_
   refine S.fty hcl ?_
   have hel : (zg ss t.st)[i]=ss[t.st.toNat].fs[i].2:=by simp only [htl,List.getElem_map]
   have hmem : ss[t.st.toNat].fs[i].2 ∈ zg ss t.st:=by rw [← hel];exact List.getElem_mem hlt3
   have hrk2:=aga hg hac h5 hmem
   refine ih (by omega) (by omega) (hg _ _ hmem) h32 h8 S.holds hs hty fun w5 e5=>?_
   have S:=(S.go e5).tl
   have hst:=adX (wF ss m) hlt3
   rw [hel] at hst
   refine gP_ ?_
   refine gP_ ?_
   have htot : xa (((zg ss t.st).take (i+1)).map (wF ss m))≤wF ss (m+1) t:=by
    rw [wF,if_pos h5];exact agA _ _ _
   refine c_b (fun hbig=>?_) (fun hsm=>?_)
   ·have hbig : 16<xa (((zg ss t.st).take i).map (wF ss m))+min (wF ss m ss[t.st.toNat].fs[i].2) 17:=by
     have:=of_decide_eq_true hbig;omega
    have e : min (wF ss (m+1) t) 17=17:=by omega
    rw [e] at h
    exact h _ S.ext
   ·have hsm : ¬ 16<xa (((zg ss t.st).take i).map (wF ss m))+min (wF ss m ss[t.st.toNat].fs[i].2) 17:=by
     have:=of_decide_eq_false hsm;omega
    refine gP_ ?_
    have e : (xa (((zg ss t.st).take i).map (wF ss m)) : Int)+((min (wF ss m ss[t.st.toNat].fs[i].2) 17 : Nat) : Int)=(xa (((zg ss t.st).take (i+1)).map (wF ss m)) : Nat):=by omega
    rw [e,show ((i : Int)+1)=((i+1 : Nat) : Int) by omega]
    exact hK6 (i+1) _ ⟨hlt3,by omega,S⟩ (by omega)
  ·have hie : i=(zg ss t.st).length:=by
    have : ¬ i<ss[t.st.toNat].fs.length:=by simpa using hge
    omega
   rw [hie,List.take_length] at hsum ⊢
   have e : min (wF ss (m+1) t) 17=xa ((zg ss t.st).map (wF ss m)):=by
    rw [wF,if_pos h5];omega
   rw [e] at h
   exact h _ S.ext
def mt (met : List Bool) (j : Int) : Bool:=met.getD j.toNat false
def cf : List Bool→Nat
 |[]=>0
 |b::l=>(if b then 0 else 1)+cf l
theorem adY : ∀ {l : List Bool} {i : Nat},l[i]? = some false→cf (l.set i true)+1=cf l
 |[],i,h=>by simp at h
 |b::l,0,h=>by
  simp only [List.getElem?_cons_zero,Option.some.injEq] at h
  subst h
  simp [cf];omega
 |b::l,i+1,h=>by
  have:=adY (l:=l) (i:=i) (by simpa using h)
  simp only [List.set_cons_succ,cf];omega
theorem ahw {met : List Bool} {i j : Int} (hi : 0≤i) (hj : 0≤j) (hlt : i.toNat<met.length) : mt (met.set i.toNat true) j=(decide (j=i)||mt met j):=by
 unfold mt
 rw [List.getD_eq_getElem?_getD,List.getD_eq_getElem?_getD,List.getElem?_set]
 by_cases h : i.toNat=j.toNat
 ·have : j=i:=by omega
  subst this
  simp [hlt]
 ·have : ¬ j=i:=fun e=>h (by rw [e])
  rw [if_neg h];simp [this]
structure QI (ss : List StD) (k : Int) (N : Nat) (W : List Int) (met : List Bool) (x : Option (Int × Nat)) : Prop where
 len : met.length=N
 dom : ss.length≤N
 rng : ∀ y ∈ W,0≤y∧y<ss.length
 s1 : ∀ j,0≤j→mt met j=true→Rch ss k j
 s2 : ∀ y ∈ W,y=k∨mt met y=true
 s3 : ∀ y,0≤y→(y=k∨mt met y=true)→y ∉ W→(∀ q,x=some q→y≠q.1)→∀ j,Kid ss y j→mt met j=true
 s4 : ∀ q,x=some q→(q.1=k∨Rch ss k q.1)∧∀ t ∈ (zg ss q.1).take q.2,t.k=5→mt met t.st=true
theorem QI.start {ss : List StD} {k : Int} {N : Nat} (hd : ss.length≤N) (h0 : 0≤k) (h1 : k<ss.length) : QI ss k N [k] (List.replicate N false) none:=by
 have hm : ∀ j,mt (List.replicate N false) j=false:=fun j=>by
  unfold mt;rw [List.getD_eq_getElem?_getD,List.getElem?_replicate];split<;>rfl
 refine ⟨List.length_replicate,hd,by simp;omega,fun j _ h=>?_,by simp,fun y _ h hn=>?_,fun q h=>by cases h⟩
 ·rw [hm] at h;cases h
 ·rcases h with rfl|h
  ·simp at hn
  ·rw [hm] at h;cases h
theorem QI.pop {ss : List StD} {k x : Int} {N : Nat} {W : List Int} {met : List Bool} (h : QI ss k N (x::W) met none) : QI ss k N W met (some (x,0)):=by
 have hx:=h.rng x List.mem_cons_self
 refine ⟨h.len,h.dom,fun y hy=>h.rng y (List.mem_cons_of_mem _ hy),h.s1,fun y hy=>h.s2 y (List.mem_cons_of_mem _ hy),fun y hy hk hn hx j hj=>?_,fun q hq=>?_⟩
 ·refine h.s3 y hy hk ?_ (fun q hq=>by cases hq) j hj
  intro hm
  rcases List.mem_cons.1 hm with rfl|hm
  ·exact hx _ rfl rfl
  ·exact hn hm
 ·cases hq
  refine ⟨(h.s2 x List.mem_cons_self).imp id (h.s1 x hx.1),by simp⟩
theorem QI.skip {ss : List StD} {k x : Int} {N i : Nat} {W : List Int} {met : List Bool} (h : QI ss k N W met (some (x,i))) (hi : i<(zg ss x).length) (hs : (zg ss x)[i].k=5→mt met (zg ss x)[i].st=true) : QI ss k N W met (some (x,i+1)):=by
 refine ⟨h.len,h.dom,h.rng,h.s1,h.s2,fun y hy hk hn hx j hj=>h.s3 y hy hk hn (fun q hq=>by cases hq;exact hx (x,i+1) rfl) j hj,fun q hq=>?_⟩
 cases hq
 have:=h.s4 _ rfl
 refine ⟨this.1,fun t ht h5=>?_⟩
 simp only at ht
 rw [List.take_succ_eq_append_getElem hi,List.mem_append,List.mem_singleton] at ht
 rcases ht with ht|rfl
 ·exact this.2 t ht h5
 ·exact hs h5
theorem QI.push {ss : List StD} {k x : Int} {N i : Nat} {W : List Int} {met : List Bool} (hg : qI ss) (h : QI ss k N W met (some (x,i))) (hi : i<(zg ss x).length) (h5 : (zg ss x)[i].k=5) :
  QI ss k N (W ++ [(zg ss x)[i].st]) (met.set (zg ss x)[i].st.toNat true) (some (x,i+1)):=by
 have hk : Kid ss x (zg ss x)[i].st:=⟨_,List.getElem_mem hi,h5,rfl⟩
 have hin:=vI hg hk
 have hd:=h.dom
 have hlen:=h.len
 have hms : ∀ j,0≤j→mt (met.set (zg ss x)[i].st.toNat true) j=(decide (j=(zg ss x)[i].st)||mt met j):=fun j hj=>ahw hin.1 hj (by omega)
 refine ⟨by rw [List.length_set];exact h.len,h.dom,fun y hy=>?_,fun j hj hm=>?_,fun y hy=>?_,fun y hy hyk hn hx j hj=>?_,fun q hq=>?_⟩
 ·rcases List.mem_append.1 hy with hy|hy
  ·exact h.rng y hy
  ·rw [List.mem_singleton.1 hy];exact hin
 ·rw [hms j hj,Bool.or_eq_true,decide_eq_true_eq] at hm
  rcases hm with rfl|hm
  ·rcases (h.s4 _ rfl).1 with hx|hx
   ·have hx : x=k:=hx
    rw [← hx];exact .one hk
   ·exact .more hx hk
  ·exact h.s1 j hj hm
 ·rcases List.mem_append.1 hy with hy|hy
  ·refine (h.s2 y hy).imp id fun hm=>?_
   rw [hms y (h.rng y hy).1,hm,Bool.or_true]
  ·rw [List.mem_singleton.1 hy,hms _ hin.1];simp
 ·have hj0:=(vI hg hj).1
  rw [hms j hj0]
  rw [hms y hy,Bool.or_eq_true,decide_eq_true_eq] at hyk
  have hnw : y ∉ W:=fun hm=>hn (List.mem_append_left _ hm)
  have hne : y≠(zg ss x)[i].st:=fun e=>hn (by rw [e];exact List.mem_append_right _ List.mem_cons_self)
  rw [h.s3 y hy (hyk.imp id fun hh=>hh.resolve_left hne) hnw (fun q hq=>by cases hq;exact hx (x,i+1) rfl) j hj,Bool.or_true]
 ·cases hq
  have:=h.s4 _ rfl
  refine ⟨this.1,fun t ht h5'=>?_⟩
  simp only at ht
  rw [List.take_succ_eq_append_getElem hi,List.mem_append,List.mem_singleton] at ht
  rcases ht with ht|rfl
  ·have ht0:=(vI hg (k:=x) ⟨t,List.mem_of_mem_take ht,h5',rfl⟩).1
   rw [hms _ ht0,this.2 t ht h5',Bool.or_true]
  ·rw [hms _ hin.1];simp
theorem QI.done {ss : List StD} {k x : Int} {N i : Nat} {W : List Int} {met : List Bool} (h : QI ss k N W met (some (x,i))) (hi : (zg ss x).length≤i) : QI ss k N W met none:=by
 refine ⟨h.len,h.dom,h.rng,h.s1,h.s2,fun y hy hk hn _ j hj=>?_,fun q hq=>by cases hq⟩
 by_cases hyx : y=x
 ·subst hyx
  obtain ⟨t,ht,h5,rfl⟩:=hj
  have:=(h.s4 _ rfl).2 t (by simp only;rw [List.take_of_length_le hi];exact ht) h5
  exact this
 ·exact h.s3 y hy hk hn (fun q hq=>by cases hq;exact hyx) j hj
theorem QI.all {ss : List StD} {k : Int} {N : Nat} {met : List Bool} (hg : qI ss) (h0 : 0≤k) (h : QI ss k N [] met none) {j : Int} (hr : Rch ss k j) : mt met j=true:=by
 induction hr with
 |one e=>exact h.s3 k h0 (.inl rfl) (by simp) (fun q hq=>by cases hq) _ e
 |more hr e ih=>exact h.s3 _ (adU hg hr).1 (.inr ih) (by simp) (fun q hq=>by cases hq) _ e
open Classical in
theorem agB {ss : List StD} {k : Nat} {b : Bool} (h1 : b=true→Rch ss k k) (h2 : Rch ss k k→b=true) : b=jK ss k:=by
 rw [jK]
 by_cases hr : Rch ss k k
 ·rw [decide_eq_true hr];exact h2 hr
 ·rw [decide_eq_false hr]
  cases b
  ·rfl
  ·exact absurd (h1 rfl) hr
def kF (l : List Bool) : List Value:=l.map .bool
theorem adZ (l : List Bool) : (kF l).length=l.length:=List.length_map ..
theorem aaW {l : List Bool} {j : Int} (h : j.toNat<l.length) : (kF l)[j.toNat]? = some (.bool (mt l j)):=by
 unfold kF mt
 rw [List.getElem?_map,List.getD_eq_getElem?_getD,List.getElem?_eq_getElem h];rfl
theorem Jj {ss : List StD} {p : Option Addr} {cap k : Nat} (hg : qI ss) (h32 : ss.length≤32) (hk : k<ss.length) (h8 : ∀ k,(zg ss k).length≤8) {w : World} {r : Gh} {K : Value→World→Prop} (hr : Holds r w) (hs : StG r p ss)
  (h : ∀ w',Ext w w'→K (.bool (jK ss k)) w') : zd Tryz.prog Tryz.qF #[.slice p ss.length cap,.int .i64 k] w K:=by
 refine Tryz.QB ?_
 unfold Tryz.Zk
 have S:=St.start hr
 refine S.al fun b5 w1 S=>?_
 refine S.lit (e:=3) (cs:=[.int .i64 k]) (by kernel_rfl) fun b11 w2 S=>?_
 have S:=S.toRow 1 1 rfl (by decide)
 have S:=S.toQue (.slice (some ⟨b11,0,none⟩) 1 1)
 have S : StX noX w r w2 [.que (.slice (some ⟨b11,0,none⟩) 1 1) 3 1 [(k : Int)].length (ints [(k : Int)]),.cell b5 (kF (List.replicate 32 false)) 188]:=S
 refine zj (ι:=List Int × List Bool × Value) (fun i=>[i.2.2]) (fun i w'=>QI ss k 32 i.1 i.2.1 none∧2*cf i.2.1+i.1.length≤65∧StX noX w r w' [.que i.2.2 3 1 i.1.length (ints i.1),.cell b5 (kF i.2.1) 188])
  (fun i=>2*cf i.2.1+i.1.length) ([(k : Int)],List.replicate 32 false,_) rfl ⟨QI.start h32 (by omega) (by omega),(show 2*cf (List.replicate 32 false)+1≤65 by decide),S⟩ ?_
 clear S
 rintro ⟨W,met,vq⟩ d w3 ⟨hq,h65,S⟩ K3 hK3
 simp only at hq h65 S ⊢
 rw [List.getD_cons_zero]
 obtain ⟨pq,capq,rfl,hp0,hcq,_,hsl⟩:=S.queS vq
 refine gP_ ?_
 refine gP_ ?_
 refine c_b (fun hpos=>?_) (fun hz=>?_)
 ·have hpos : 0<W.length:=by simpa using hpos
  cases W with
  |nil=>simp at hpos
  |cons x W=>
   obtain ⟨bq,oq,rfl,hcell⟩:=J2 hsl hpos
   have hx:=hq.rng x List.mem_cons_self
   refine gP_ ?_
   refine zh (by simpa using hcell) ?_
   refine S.loQ (by omega) (by omega) hpos fun v' S=>?_
   have S : StX noX w r w3 [.que v' 3 1 W.length (ints W),.cell b5 (kF met) 188]:=S
   have hxn : x.toNat<ss.length:=by omega
   obtain ⟨bs',os',q,capf,rfl,hcs,_,_,hf⟩:=Zp hs hxn
   refine gP_ ?_
   refine gP_ ?_
   refine zh (S.at hcs) ?_
   refine gP_ ?_
   have htl : zg ss x=ss[x.toNat].fs.map (·.2):=by
    rw [← qe hxn];simp only [zg,Int.toNat_natCast]
   have hlen : (zg ss x).length=ss[x.toNat].fs.length:=by rw [htl,List.length_map]
   have h88:=h8 x
   refine zj (ι:=Nat × List Int × List Bool × Value) (fun i=>[i.2.2.2,.int .i64 i.1]) (fun i w'=>i.1≤(zg ss x).length∧QI ss k 32 i.2.1 i.2.2.1 (some (x,i.1))∧2*cf i.2.2.1+i.2.1.length≤2*cf met+W.length∧
    StX noX w r w' [.que i.2.2.2 3 1 i.2.1.length (ints i.2.1),.cell b5 (kF i.2.2.1) 188]) (fun i=>(zg ss x).length - i.1) (0,W,met,v') rfl ⟨Nat.zero_le _,hq.pop,Nat.le_refl _,S⟩ ?_
   clear S
   rintro ⟨i,W',met',vq'⟩ d w4 ⟨hi,hq',hme,S⟩ K7 hK7
   simp only at hi hq' hme S ⊢
   rw [List.getD_cons_zero,List.getD_cons_succ,List.getD_cons_zero]
   refine gP_ ?_
   refine c_b (fun hlt2=>?_) (fun hge=>?_)
   ·have hlt2 : i<ss[x.toNat].fs.length:=by simpa using hlt2
    have hlt3 : i<(zg ss x).length:=by omega
    have hel : (zg ss x)[i]=ss[x.toNat].fs[i].2:=by simp only [htl,List.getElem_map]
    refine zq (fun s w'=>∃ W2 met2 v2,s = [v2]∧QI ss k 32 W2 met2 (some (x,i+1))∧2*cf met2+W2.length≤2*cf met'+W'.length∧StX noX w r w' [.que v2 3 1 W2.length (ints W2),.cell b5 (kF met2) 188]) (fun K11 hK11=>?_) ?_
    ·obtain ⟨b2,off2,c,rfl,hcl,hcc,hty⟩:=Ji hf hlt2
     refine gP_ ?_
     refine zH (n:=6) (c:=.string ss[x.toNat].fs[i].1::c) (by simp [hcl]) (fun j v hj=>by rw [Int.toNat_natCast];exact S.at (hcc j v hj)) ?_
     refine S.al fun b9 w5 S=>?_
     refine S.stB (cs:=(Value.string ss[x.toNat].fs[i].1::c).toArray) (fun w6 S=>?_) rfl (by simp [hcl]) (QG hty)
     obtain ⟨pt,capt,rfl,_⟩:=QE hty
     have S : StX noX w r w6 [.cell b9 [.string ss[x.toNat].fs[i].1,.int .u8 ss[x.toNat].fs[i].2.k,.bool ss[x.toNat].fs[i].2.m,.int .i64 ss[x.toNat].fs[i].2.re,.int .i64 ss[x.toNat].fs[i].2.st,.slice pt ss[x.toNat].fs[i].2.of.length capt] 154,.que vq' 3 1 W'.length (ints W'),.cell b5 (kF met') 188]:=S
     refine gG_ ?_
     rw [← hel]
     by_cases h5 : (zg ss x)[i].k=5
     ·have hkid : Kid ss x (zg ss x)[i].st:=⟨_,List.getElem_mem hlt3,h5,rfl⟩
      have hin:=vI hg hkid
      have hml:=hq'.len
      refine zo (c:=mt met' (zg ss x)[i].st) (fun _ K2 hK2=>?_) ?_
      ·refine gG_ ?_
       rw [← hel]
       refine gP_ ?_
       refine S.ld (b:=b5) ?_ (by rw [Nat.zero_add,Nat.mul_one];exact aaW (by omega))
       exact hK2
      rw [show decide ((zg ss x)[i].k≠5)=false by simp [h5],Bool.false_or]
      refine c_b (fun hm=>?_) (fun hm=>?_)
      ·exact hK11 _ _ ⟨W',met',vq',rfl,hq'.skip hlt3 fun _=>hm,Nat.le_refl _,S.tl⟩
      ·refine gG_ ?_
       rw [← hel]
       refine gP_ ?_
       refine S.st (b:=b5) (fun w7 S=>?_) (by rw [adZ];omega)
       refine gG_ ?_
       rw [← hel]
       refine S.lit (e:=3) (cs:=[.int .i64 (zg ss x)[i].st]) (by kernel_rfl) fun b49 w8 S=>?_
       simp only [List.length_cons] at h65
       refine S.apQ (m:=1) (Sl.blk (S.blk b49)) (fun v50 w9 S=>?_) (by omega)
       have hset : mt met' (zg ss x)[i].st=false:=hm
       have hcf:=adY (l:=met') (i:=(zg ss x)[i].st.toNat) (by
        unfold mt at hset
        rw [List.getD_eq_getElem?_getD,List.getElem?_eq_getElem (by omega)] at hset
        rw [List.getElem?_eq_getElem (by omega)]
        simpa using hset)
       refine hK11 _ _ ⟨W' ++ [(zg ss x)[i].st],met'.set (zg ss x)[i].st.toNat true,v50,rfl,hq'.push hg hlt3 h5,by rw [List.length_append,List.length_singleton];omega,?_⟩
       have e1 : (kF met').set (0+(zg ss x)[i].st.toNat*1) (.bool true)=kF (met'.set (zg ss x)[i].st.toNat true):=by
        rw [Nat.zero_add,Nat.mul_one,kF,kF,List.map_set]
       rw [e1] at S
       rw [List.length_append,abV]
       exact S.tl.tl
     ·refine zo (c:=true) (fun hn=>absurd hn (by simp [h5])) ?_
      rw [Bool.or_true]
      refine c_t rfl ?_
      exact hK11 _ _ ⟨W',met',vq',rfl,hq'.skip hlt3 fun e=>absurd e h5,Nat.le_refl _,S.tl⟩
    ·rintro _ w5 ⟨W2,met2,v2,rfl,hq2,hme2,S⟩ d5
     rw [List.getD_cons_zero]
     refine gP_ ?_
     rw [show ((i : Int)+1)=((i+1 : Nat) : Int) by omega]
     exact hK7 (i+1,W2,met2,v2) _ ⟨hlt3,hq2,by simp only;omega,S⟩ (by simp only;omega)
   ·have hge : (zg ss x).length≤i:=by
     have : ¬ i<ss[x.toNat].fs.length:=by simpa using hge
     omega
    exact hK3 (W',met',vq') _ ⟨hq'.done hge,by simp only [List.length_cons] at h65 ⊢;omega,S⟩ (by simp only [List.length_cons];omega)
 ·have hz : W = []:=List.eq_nil_of_length_eq_zero (by
   have : ¬ 0<W.length:=by simpa using hz
   omega)
  subst hz
  have hml:=hq.len
  refine gP_ ?_
  refine S.ld (b:=b5) ?_ (by rw [Nat.zero_add,Nat.mul_one];exact aaW (by omega))
  have e : mt met (k : Int)=jK ss k:=agB (hq.s1 _ (by omega)) (hq.all hg (by omega))
  rw [e]
  exact h _ S.ext
end Go.Proofs
end
section
namespace Go.Proofs
open Go.Sh
set_option maxRecDepth 100000
set_option linter.unusedSimpArgs false
set_option linter.unusedVariables false
theorem jL {X : Nat→Prop} {w0 : World} {r : Gh} {L : List Asr} {n : Nat} {q : Nat→Bool} {fv : Value} (hn : n≤1000)
  (hf : ∀ (i : Nat),i<n→∀ {w : World} {K : Value→World→Prop},StX X w0 r w L→(∀ w',StX X w0 r w' L→K (.bool (q i)) w')→zB Tryz.prog fv #[.int .i64 i] w K) {w : World} {K : Value→World→Prop} (S : StX X w0 r w L)
  (h : ∀ w',StX X w0 r w' L→K (.int .i64 (xu n q)) w') : zd Tryz.prog Tryz.jF #[.int .i64 n,fv] w K:=by
 refine Tryz.JU ?_
 unfold Tryz.Yx
 refine zj (ι:=Nat) (fun i=>[.int .i64 i]) (fun i w'=>i≤n∧(∀ j,j<i→q j=false)∧StX X w0 r w' L) (fun i=>n - i) 0 rfl ⟨Nat.zero_le _,fun j hj=>by omega,S⟩ ?_
 clear S
 rintro i d w1 ⟨hi,hq,S⟩ K6 hK6
 rw [List.getD_cons_zero]
 refine gP_ ?_
 refine c_b (fun hlt=>?_) (fun hge=>?_)
 ·have hlt : i<n:=by simpa using hlt
  refine hf i hlt S fun w2 S=>?_
  refine c_b (fun hy=>?_) (fun hno=>?_)
  ·have:=h _ S
   rwa [adW hlt hy hq] at this
  ·refine gP_ ?_
   rw [show ((i : Int)+1)=((i+1 : Nat) : Int) by omega]
   refine hK6 (i+1) _ ⟨hlt,fun j hj=>?_,S⟩ (by omega)
   by_cases hji : j=i
   ·rw [hji];exact hno
   ·exact hq j (by omega)
 ·have hge : i=n:=by
   have : ¬ i<n:=by simpa using hge
   omega
  have:=h _ S
  rwa [adV (fun j hj=>hq j (by omega))] at this
theorem jC {X : Nat→Prop} {w0 : World} {r s : Gh} {L : List Asr} {p : Option Addr} {cap : Nat} {fs : List (ByteArray × TyD)} {g : TyD→Bool} {fv : Value} (hfl : FlG s p fs) [Le s r] (hb : fs.length≤1000000000)
  (hf : ∀ f ∈ fs,∀ {c : List Value} {w : World} {K : Value→World→Prop},c.length=5→TyG s (.agg c.toArray) f.2→StX X w0 r w L→(∀ w',StX X w0 r w' L→K (.bool (g f.2)) w')→zB Tryz.prog fv #[.agg (.string f.1::c).toArray] w K)
  {w : World} {K : Value→World→Prop} (S : StX X w0 r w L) (h : ∀ w',StX X w0 r w' L→K (.bool ((fs.map (·.2)).any g)) w') : zd Tryz.prog Tryz.zE #[.slice p fs.length cap,fv] w K:=by
 refine Tryz.xt ?_
 unfold Tryz.yl
 refine Tryz.xQ ?_
 unfold Tryz.yv
 refine gP_ ?_
 refine zj (ι:=Nat) (fun i=>[.int .i64 i]) (fun i w'=>i≤fs.length∧((fs.take i).map (·.2)).any g=false∧StX X w0 r w' L) (fun i=>fs.length - i) 0 rfl ⟨Nat.zero_le _,by simp,S⟩ ?_
 clear S
 rintro i d w1 ⟨hi,hq,S⟩ K6 hK6
 rw [List.getD_cons_zero]
 refine gP_ ?_
 refine c_b (fun hlt=>?_) (fun hge=>?_)
 ·have hlt : i<fs.length:=by simpa using hlt
  obtain ⟨b2,off2,c,rfl,hcl,hcc,hty⟩:=Ji hfl hlt
  refine gP_ ?_
  refine zH (n:=6) (c:=.string fs[i].1::c) (by simp [hcl]) (fun j v hj=>by rw [Int.toNat_natCast];exact S.at (hcc j v hj)) ?_
  refine hf fs[i] (List.getElem_mem hlt) hcl hty S fun w2 S=>?_
  refine c_b (fun hy=>?_) (fun hno=>?_)
  ·refine gP_ ?_
   have:=h _ S
   have e : (fs.map (·.2)).any g=true:=List.any_eq_true.2 ⟨fs[i].2,List.mem_map.2 ⟨_,List.getElem_mem hlt,rfl⟩,hy⟩
   rw [e] at this
   rw [show decide ((i : Int)≥0)=true by simp]
   exact this
  ·refine gP_ ?_
   rw [show ((i : Int)+1)=((i+1 : Nat) : Int) by omega]
   refine hK6 (i+1) _ ⟨hlt,?_,S⟩ (by omega)
   rw [List.take_succ_eq_append_getElem hlt,List.map_append,List.any_append,hq]
   simp [hno]
 ·have hge : i=fs.length:=by
   have : ¬ i<fs.length:=by simpa using hge
   omega
  rw [hge,List.take_length] at hq
  refine gP_ ?_
  have:=h _ S
  rw [hq] at this
  exact this
theorem ZX {ss : List StD} (h : ∀ k,k<ss.length→qJ ss k=false) (k : Int) : (zg ss k).length≤8:=by
 by_cases hk : k.toNat<ss.length
 ·have:=h k.toNat hk
  have e : zg ss (k.toNat : Int)=zg ss k:=by rw [zg,zg,Int.toNat_natCast]
  rw [qJ,e,Bool.or_eq_false_iff,Bool.or_eq_false_iff] at this
  simp only [decide_eq_false_iff_not] at this
  omega
 ·rw [Vz hk];simp
section
variable {X : Nat→Prop} {w0 w : World} {r : Gh} {L : List Asr} {ss : List StD} {p : Option Addr} {cap b1 b4 : Nat} {f1 f4 : List Value→List Asr} {K : Value→World→Prop}
theorem XP {k : Nat} (hk : k<ss.length) (hs : StG r p ss) (S : StX X w0 r w L) [At b1 L [.slice p ss.length cap] 22 f1] [At b4 L [.int .i64 (ss.length : Nat)] 3 f4] (h : ∀ w',StX X w0 r w' L→K (.bool (qJ ss k)) w') :
  zB Tryz.prog (.func (.func Tryz.xk) #[] #[.pointer (some ⟨b1,0,none⟩),.pointer (some ⟨b4,0,none⟩)]) #[.int .i64 k] w K:=by
 refine xo (by kernel_rfl) ?_
 refine Tryz.Y1 (t0:=.int .i64 k) (t1:=.pointer (some ⟨b1,0,none⟩)) (t2:=.pointer (some ⟨b4,0,none⟩)) ?_
 unfold Tryz.jV
 refine gL_ ?_
 obtain ⟨b,off,q,capq,rfl,hcell,hq0,hqc,hf⟩:=Zp hs hk
 refine gP_ ?_
 refine gP_ ?_
 refine zh (by rw [Int.toNat_natCast];exact S.at hcell) ?_
 refine gP_ ?_
 refine gP_ ?_
 have hlen:=Vy hk
 refine zo (c:=decide (8<(zg ss k).length)) (fun _ K2 hK2=>?_) ?_
 ·refine gP_ ?_
  refine gP_ ?_
  rw [show decide ((8 : Int)<(ss[k].fs.length : Int))=decide (8<(zg ss k).length) from decide_eq_decide.2 (by omega)]
  exact hK2
 refine adR (fun w'=>StX X w0 r w' L) (c:=(zg ss k).any fun t=>!zU ss.length 48 t||decide (0<t.regs.length)) (fun _=>S) (fun hsm2 K2 hK2=>?_) fun w9 S=>?_
 ·have hsm2 : ss[k].fs.length≤8:=by
   simp only [Bool.or_eq_false_iff,decide_eq_false_iff_not] at hsm2;omega
  refine gP_ ?_
  refine jC (g:=fun t=>!zU ss.length 48 t||decide (0<t.regs.length)) hf (by omega) (fun f hfm {c} {w7} {K} hcl hty S hK=>?_) S fun w8 S=>?_
  ·refine Yc (by kernel_rfl) ?_
   refine Tryz.Yb ?_
   unfold Tryz.qR
   refine S.box fun b2 w8 S=>?_
   have S : StX X w0 r w8 (.cell b2 (.string f.1::c) 154::L):=S
   refine gP_ ?_
   refine S.fty hcl ?_
   refine S.ld (b:=b4) ?_ rfl
   refine vH 48 (by decide) S.holds hty fun w9 e9=>?_
   have S:=S.go e9
   refine gP_ ?_
   refine xp (c:=decide (0<f.2.regs.length)) (fun hl K2 hK2=>?_) fun w10 e10=>?_
   ·have hl : zU ss.length 48 f.2=true:=by simpa using hl
    refine gP_ ?_
    refine S.fty hcl ?_
    refine Zn S.holds hty (by have:=XH hl;omega) fun v11 w11 e11 o11=>?_
    obtain ⟨p11,cap11,rfl,_⟩:=YU o11
    refine gP_ ?_
    refine gP_ ?_
    rw [show decide ((f.2.regs.length : Int) > 0)=decide (0<f.2.regs.length) from decide_eq_decide.2 (by omega)]
    exact hK2 _ e11
   exact hK _ (S.go e10).tl
  ·rw [← qe hk]
   exact hK2 _ S
 ·have:=h _ S
  rw [qJ] at this
  rw [show decide ((ss[k].fs.length : Int)<1)=decide ((zg ss k).length<1) from decide_eq_decide.2 (by omega)]
  exact this
theorem XQ {k : Nat} (hk : k<ss.length) (h32 : ss.length≤32) (h1 : ¬ xu ss.length (qJ ss)<ss.length) (hs : StG r p ss) (S : StX X w0 r w L) [At b1 L [.slice p ss.length cap] 22 f1] (h : ∀ w',StX X w0 r w' L→K (.bool (jK ss k)) w') :
  zB Tryz.prog (.func (.func Tryz.xm) #[] #[.pointer (some ⟨b1,0,none⟩)]) #[.int .i64 k] w K:=by
 refine xo (by kernel_rfl) ?_
 refine Tryz.Y2 (t0:=.int .i64 k) (t1:=.pointer (some ⟨b1,0,none⟩)) ?_
 unfold Tryz.jW
 refine gL_ ?_
 exact Jj (J3 (kE h1)) h32 hk (fun k=>ZX (kE h1) k) S.holds hs fun w9 e9=>h _ (S.go e9)
theorem XR {k : Nat} (hk : k<ss.length) (h32 : ss.length≤32) (h1 : ¬ xu ss.length (qJ ss)<ss.length) (h2 : ¬ xu ss.length (jK ss)<ss.length) (hs : StG r p ss) (S : StX X w0 r w L) [At b1 L [.slice p ss.length cap] 22 f1] (h : ∀ w',StX X w0 r w' L→K (.bool (QF ss k)) w') :
  zB Tryz.prog (.func (.func Tryz.xn) #[] #[.pointer (some ⟨b1,0,none⟩)]) #[.int .i64 k] w K:=by
 refine xo (by kernel_rfl) ?_
 refine Tryz.Y3 (t0:=.int .i64 k) (t1:=.pointer (some ⟨b1,0,none⟩)) ?_
 unfold Tryz.jX
 refine gL_ ?_
 refine zu (cs:=#[.int .u8 5,.bool false,.int .i64 0,.int .i64 k,.slice none 0 0]) (by kernel_rfl) ?_
 have hg:=J3 (kE h1)
 refine V4 hg (acs hg (kE h2)) 40 (t:=.mk 5 false 0 k []) (by decide) (by have:=af9 ss (.mk 5 false 0 k []);omega) ?_ (by omega) (fun k=>ZX (kE h1) k) S.holds hs (ZV (r:=r)) fun w9 e9=>?_
 ·rw [j6]
  simp [TyD.k,TyD.m,TyD.re,TyD.of,TyD.st]
  omega
 ·refine gP_ ?_
  have:=h _ (S.go e9)
  rw [QF] at this
  rw [show decide ((((min (wF ss 40 (.mk 5 false 0 k [])) 17 : Nat) : Int)) > 16)=decide (16<wF ss 40 (.mk 5 false 0 k [])) from decide_eq_decide.2 (by omega)]
  exact this
end
theorem Zq {ss : List StD} {p : Option Addr} {cap : Nat} {w : World} {r : Gh} {K : Value→World→Prop} (hr : Holds r w) (hs : StG r p ss)
  (h : ∀ w',Ext w w'→K (.tuple #[.int .i64 (zZ ss).1,.int .i64 (zZ ss).2]) w') : zd Tryz.prog Tryz.kh #[.slice p ss.length cap] w K:=by
 refine Tryz.QA ?_
 unfold Tryz.Zj
 have S:=St.start hr
 refine S.box fun b1 w1 S=>?_
 refine gL_ ?_
 refine gP_ ?_
 refine S.al fun b4 w2 S=>?_
 refine S.st fun w3 S=>?_
 refine gL_ ?_
 refine gP_ ?_
 refine c_b (fun hbig=>?_) (fun hsm=>?_)
 ·have hbig : 32<ss.length:=by have:=of_decide_eq_true hbig;omega
  rw [zZ,if_pos hbig] at h
  exact h _ S.ext
 have hsm : ¬ 32<ss.length:=by have:=of_decide_eq_false hsm;omega
 rw [zZ,if_neg hsm] at h
 refine gP_ ?_
 refine gP_ ?_
 refine gP_ ?_
 refine S.lit (e:=71) (cs:=[.func (.func Tryz.xk) #[] #[.pointer (some ⟨b1,0,none⟩),.pointer (some ⟨b4,0,none⟩)],.func (.func Tryz.xm) #[] #[.pointer (some ⟨b1,0,none⟩)],.func (.func Tryz.xn) #[] #[.pointer (some ⟨b1,0,none⟩)]]) (by kernel_rfl) fun b16 w4 S=>?_
 refine gP_ ?_
 have S : StX noX w r w4 [.cell b16 [.func (.func Tryz.xk) #[] #[.pointer (some ⟨b1,0,none⟩),.pointer (some ⟨b4,0,none⟩)],.func (.func Tryz.xm) #[] #[.pointer (some ⟨b1,0,none⟩)],.func (.func Tryz.xn) #[] #[.pointer (some ⟨b1,0,none⟩)]] 71,
  .cell b4 [.int .i64 (ss.length : Nat)] 3,.cell b1 [.slice p ss.length cap] 22]:=S
 refine zj (ι:=Nat) (fun i=>[.int .i64 i]) (fun i w'=>i≤3∧(0<i→¬ xu ss.length (qJ ss)<ss.length)∧(1<i→¬ xu ss.length (jK ss)<ss.length)∧(2<i→¬ xu ss.length (QF ss)<ss.length)∧StX noX w r w' _) (fun i=>3 - i) 0 rfl
  ⟨by decide,fun h=>by omega,fun h=>by omega,fun h=>by omega,S⟩ ?_
 clear S
 rintro i d w5 ⟨hi,h1,h2,h3,S⟩ K6 hK6
 rw [List.getD_cons_zero]
 refine gP_ ?_
 match i,hi,h1,h2,h3 with
 |0,_,_,_,_=>
  refine c_t (by decide) ?_
  refine gP_ ?_
  refine S.ld (b:=b16) ?_ rfl
  refine S.ld (b:=b4) ?_ rfl
  refine jL (q:=qJ ss) (by omega) (fun i hi {w} {K} S k=>XP hi hs S k) S fun w9 S=>?_
  refine S.ld (b:=b4) ?_ rfl
  refine gP_ ?_
  refine c_b (fun hl=>?_) (fun hl=>?_)
  ·rw [if_pos (by have:=of_decide_eq_true hl;omega)] at h
   exact h _ S.ext
  ·refine gP_ ?_
   exact hK6 1 _ ⟨by decide,fun _=>by have:=of_decide_eq_false hl;omega,fun h=>by omega,fun h=>by omega,S⟩ (by decide)
 |1,_,h1,_,_=>
  have h1:=h1 (by decide)
  rw [if_neg h1] at h
  refine c_t (by decide) ?_
  refine gP_ ?_
  refine S.ld (b:=b16) ?_ rfl
  refine S.ld (b:=b4) ?_ rfl
  refine jL (q:=jK ss) (by omega) (fun i hi {w} {K} S k=>XQ hi (by omega) h1 hs S k) S fun w9 S=>?_
  refine S.ld (b:=b4) ?_ rfl
  refine gP_ ?_
  refine c_b (fun hl=>?_) (fun hl=>?_)
  ·rw [if_pos (by have:=of_decide_eq_true hl;omega)] at h
   exact h _ S.ext
  ·refine gP_ ?_
   exact hK6 2 _ ⟨by decide,fun _=>h1,fun _=>by have:=of_decide_eq_false hl;omega,fun h=>by omega,S⟩ (by decide)
 |2,_,h1,h2,_=>
  have h1:=h1 (by decide)
  have h2:=h2 (by decide)
  rw [if_neg h1,if_neg h2] at h
  refine c_t (by decide) ?_
  refine gP_ ?_
  refine S.ld (b:=b16) ?_ rfl
  refine S.ld (b:=b4) ?_ rfl
  refine jL (q:=QF ss) (by omega) (fun i hi {w} {K} S k=>XR hi (by omega) h1 h2 hs S k) S fun w9 S=>?_
  refine S.ld (b:=b4) ?_ rfl
  refine gP_ ?_
  refine c_b (fun hl=>?_) (fun hl=>?_)
  ·rw [if_pos (by have:=of_decide_eq_true hl;omega)] at h
   exact h _ S.ext
  ·refine gP_ ?_
   exact hK6 3 _ ⟨by decide,fun _=>h1,fun _=>h2,fun _=>by have:=of_decide_eq_false hl;omega,S⟩ (by decide)
 |3,_,h1,h2,h3=>
  have h1:=h1 (by decide)
  have h2:=h2 (by decide)
  have h3:=h3 (by decide)
  rw [if_neg h1,if_neg h2,if_neg h3] at h
  refine c_f (by decide) ?_
  exact h _ S.ext
noncomputable def mayB (ss : List StD) (t : TyD) : Bool:=decide ((zZ ss).2=0)&&zU ss.length 48 t
theorem aaX {ss : List StD} {t : TyD} (h : mayB ss t=true) : (zZ ss).2=0∧zU ss.length 48 t=true:=by
 simpa [mayB] using h
theorem ZC {ss : List StD} {t : TyD} {p : Option Addr} {cap : Nat} {w : World} {r : Gh} {v : Value} {K : Value→World→Prop} (hr : Holds r w) (hs : StG r p ss) (hv : TyG r v t)
  (h : ∀ w',Ext w w'→K (.bool (mayB ss t)) w') : zd Tryz.prog Tryz.kU #[.slice p ss.length cap,v] w K:=by
 refine Tryz.aaR ?_
 unfold Tryz.X7
 have hv0:=hv
 obtain ⟨p1,cap1,rfl,_⟩:=hv
 have S:=St.start hr
 refine S.box fun b3 w1 S=>?_
 refine Zq S.holds hs fun w2 e2=>?_
 have S:=S.go e2
 refine gP_ ?_
 refine gP_ ?_
 refine gP_ ?_
 refine zT (c:=zU ss.length 48 t) (fun _ K2 hK2=>?_) fun w3 e3=>h _ (S.go e3).ext
 refine gL_ ?_
 refine gP_ ?_
 exact vH 48 (by decide) S.holds hv0 fun w3 e3=>hK2 _ e3
theorem V5 {ss : List StD} {p : Option Addr} {cap : Nat} (hg : qI ss) (hac : ∀ k,¬ Rch ss k k) : ∀ (m : Nat) {t : TyD} {w : World} {r : Gh} {v : Value} {K : Value→World→Prop},m≤100→rkT ss t≤m→zU ss.length 48 t=true→ss.length≤32→(∀ k,(zg ss k).length≤8)→
  Holds r w→StG r p ss→TyG r v t→(∀ w',Ext w w'→K (.bool (dF ss m t)) w')→zd Tryz.prog Tryz.k8 #[.slice p ss.length cap,v] w K:=by
 intro m
 induction m with
 |zero=>
  intro t w r v K _ hrk hl h32 h8 hr hs hv h
  have h5 : ¬ t.k=5:=fun h=>by unfold rkT at hrk;rw [if_pos h] at hrk;omega
  refine Tryz.ZT ?_
  unfold Tryz.jJ
  obtain ⟨p1,cap1,rfl,_⟩:=hv
  have S:=St.start hr
  refine S.box fun b2 w1 S=>?_
  refine S.box fun b3 w2 S=>?_
  refine gG_ ?_
  refine c_b (fun h3=>?_) (fun h3=>?_)
  ·have:=h _ S.ext
   rwa [dF,h3] at this
  ·refine gG_ ?_
   refine c_b (fun h5'=>absurd (of_decide_eq_true h5') h5) (fun _=>?_)
   have:=h _ S.ext
   rwa [dF,h3] at this
 |succ m ih=>
  intro t w r v K hm hrk hl h32 h8 hr hs hv h
  refine Tryz.ZT ?_
  unfold Tryz.jJ
  obtain ⟨p1,cap1,rfl,_⟩:=hv
  have S:=St.start hr
  refine S.box fun b2 w1 S=>?_
  refine S.box fun b3 w2 S=>?_
  refine gG_ ?_
  refine c_b (fun h3=>?_) (fun h3=>?_)
  ·have:=h _ S.ext
   have h3':=of_decide_eq_true h3
   rwa [dF,if_neg (by omega),h3] at this
  refine gG_ ?_
  refine c_b (fun h5=>?_) (fun h5=>?_)
  ·have h5 : t.k=5:=of_decide_eq_true h5
   obtain ⟨hst0,hst1,_⟩:=ZW hl h5
   have hlt : t.st.toNat<ss.length:=by omega
   obtain ⟨b,off,q,capq,rfl,hcell,_,_,hf⟩:=Zp hs hlt
   refine gG_ ?_
   refine zh (S.at hcell) ?_
   have htl : zg ss t.st=ss[t.st.toNat].fs.map (·.2):=by
    rw [← qe hlt];simp only [zg,Int.toNat_natCast]
   have hlen : (zg ss t.st).length=ss[t.st.toNat].fs.length:=by rw [htl,List.length_map]
   have h88:=h8 t.st
   refine gP_ ?_
   refine jC (g:=dF ss m) hf (by omega) (fun f hfm {c} {w7} {K} hcl hty S hK=>?_) S fun w8 S=>?_
   ·refine Yc (by kernel_rfl) ?_
    refine Tryz.QD ?_
    unfold Tryz.Zm
    refine S.box fun b4 w8 S=>?_
    have S : StX noX w r w8 (.cell b4 (.string f.1::c) 154::_):=S
    refine S.ld (b:=b2) ?_ rfl
    refine gP_ ?_
    refine S.fty hcl ?_
    have hmem : f.2 ∈ zg ss t.st:=by rw [htl];exact List.mem_map.2 ⟨f,hfm,rfl⟩
    have hrk2:=aga hg hac h5 hmem
    exact ih (by omega) (by omega) (hg _ _ hmem) h32 h8 S.holds hs hty fun w5 e5=>hK _ (S.go e5).tl
   ·rw [dF,if_pos h5,htl] at h
    exact h _ S.ext
  ·have:=h _ S.ext
   rwa [dF,if_neg (of_decide_eq_false h5),h3] at this
noncomputable def vJ (ss : List StD) (t : TyD) : Bool × Int:=if mayB ss t then (dF ss 40 t,0) else (false,2)
theorem V6 {ss : List StD} {t : TyD} {p : Option Addr} {cap : Nat} {w : World} {r : Gh} {v : Value} {K : Value→World→Prop} (hr : Holds r w) (hs : StG r p ss) (hv : TyG r v t)
  (h : ∀ w',Ext w w'→K (.tuple #[.bool (vJ ss t).1,.int .i64 (vJ ss t).2]) w') : zd Tryz.prog Tryz.jG #[.slice p ss.length cap,v] w K:=by
 refine Tryz.JW ?_
 unfold Tryz.Yz
 have hv0:=hv
 obtain ⟨p1,cap1,rfl,_⟩:=hv
 have S:=St.start hr
 refine S.box fun b3 w1 S=>?_
 refine gL_ ?_
 refine ZC S.holds hs hv0 fun w2 e2=>?_
 have S:=S.go e2
 refine gP_ ?_
 refine c_b (fun hn=>?_) (fun hn=>?_)
 ·have hn : mayB ss t=false:=by simpa using hn
  rw [vJ,hn] at h
  exact h _ S.ext
 have hn : mayB ss t=true:=by simpa using hn
 rw [vJ,if_pos hn] at h
 obtain ⟨hok,hl⟩:=aaX hn
 obtain ⟨h32,hb1,hg,hac,_,_⟩:=j7 hok
 refine gL_ ?_
 refine V5 hg hac 40 (by decide) (by have:=af9 ss t;omega) hl h32 (ZX hb1) S.holds hs hv0 fun w3 e3=>h _ (S.go e3).ext
end Go.Proofs
end
section
namespace Go.Proofs
open Go.Sh
set_option maxRecDepth 100000
set_option linter.unusedSimpArgs false
set_option linter.unusedVariables false
end Go.Proofs
end
section
namespace Go.Proofs
open Go.Sh
set_option maxRecDepth 100000
set_option linter.unusedSimpArgs false
set_option linter.unusedVariables false
end Go.Proofs
end
section
namespace Go.Proofs
open Go.Sh
set_option maxRecDepth 100000
set_option linter.unusedSimpArgs false
set_option linter.unusedVariables false
def un (gs : Nat→Gh) (i n : Nat) : Gh:=fun b o=>∃ j,i≤j∧j<n∧gs j b o
structure ahx (top : Gh) (gs : Nat→Gh) (q : Option Addr) (ts : List TyD) : Prop where
 at' : ∀ (i : Nat) (hi : i<ts.length),∃ (b off : Nat) (c : List Value),q=some ⟨b,off,none⟩∧c.length=5∧(∀ j v,c[j]? = some v→Ob top fun w=>w.cell? ⟨b,off+i*5+j,none⟩=some v)∧TyG (gs i) (.agg c.toArray) ts[i]∧J1 (gs i) (.agg c.toArray) ts[i]
 dis : ∀ i j,i≠j→i<ts.length→j<ts.length→Dis (gs i) (gs j)
 dtop : ∀ i,i<ts.length→Dis (gs i) top
def TysG (s : Gh) (q : Option Addr) (ts : List TyD) : Prop:=
 ∀ (i : Nat) (hi : i<ts.length),∃ (b off : Nat) (c : List Value),q=some ⟨b,off,none⟩∧c.length=5∧(∀ j v,c[j]? = some v→Ob s fun w=>w.cell? ⟨b,off+i*5+j,none⟩=some v)∧TyG s (.agg c.toArray) ts[i]
theorem ChnL.frz2 {X : Nat→Prop} {w0 w : World} {c : List Value} {t : TyD} {N : List Asr} (h : ChnL c t N) : ∀ {r : Gh} {L : List Asr},StX X w0 r w (N++L)→
  ∃ sn,StX X w0 (r.or sn) w L∧TyG sn (.agg c.toArray) t∧J1 sn (.agg c.toArray) t∧(∀ b o,sn b o→w0.heap.size≤b∨X b)∧Dis sn r:=by
 induction h with
 |nil=>
  intro r L S
  exact ⟨nothing,S.to _,ZV,.nil,fun _ _ h=>h.elim,fun _ _ _ h=>h.elim⟩
 |@one b c k re st m u N hu ih=>
  intro r L S
  have S : StX X w0 r w (N++(.cell b c 83::L)):=S.perm List.perm_middle.symm
  have hm0:=S.mine (.cell b c 83) (by simp) b rfl
  obtain ⟨sn,S,ht,hg,hf,hd⟩:=ih S
  have hm:=S.mine (.cell b c 83) (by simp) b rfl
  have S:=S.frz
  refine ⟨sn.or (Go.Sh.one b c 83),S.to _,adT ht,.one (fun o ho=>hm.2 o (.inr ho)) hu.len ht hg,fun b' o ho=>?_,fun b' o o' ho hr=>?_⟩
  ·rcases ho with ho|⟨rfl,_⟩
   ·exact hf b' o ho
   ·exact hm.1
  ·rcases ho with ho|⟨rfl,_⟩
   ·exact hd b' o o' ho hr
   ·exact hm0.2 o' hr
theorem agC {c : List Value} {t : TyD} {N : List Asr} (h : ChnL c t N) : JR Tryz.prog 44 1 #[(0,.agg c.toArray)]=some (83,c):=by
 cases h<;>kernel_rfl
noncomputable def xd (ss : List StD) (t : TyD) : List TyD × Int:=if mayB ss t&&decide (t.k=5) then (zg ss t.st,0) else ([],2)
theorem J4 {ss : List StD} {t : TyD} {p : Option Addr} {cap : Nat} {w : World} {r : Gh} {v : Value} {K : Value→World→Prop} (hr : Holds r w) (hs : StG r p ss) (hv : TyG r v t)
  (h : ∀ q cp top gs w',Ext w w'→New w (top.or (un gs 0 (xd ss t).1.length)) w'→ahx top gs q (xd ss t).1→(xd ss t).1.length≤cp→K (.tuple #[.slice q (xd ss t).1.length cp,.int .i64 (xd ss t).2]) w') : zd Tryz.prog Tryz.qX #[.slice p ss.length cap,v] w K:=by
 refine Tryz.Jf ?_
 unfold Tryz.ZR
 have hv0:=hv
 obtain ⟨p1,cap1,rfl,_⟩:=hv
 have S:=St.start hr
 refine S.box fun b3 w1 S=>?_
 refine gL_ ?_
 refine ZC S.holds hs hv0 fun w2 e2=>?_
 have S:=S.go e2
 refine gP_ ?_
 refine zo (c:=decide (t.k≠5)) (fun _ K2 hK2=>?_) ?_
 ·refine gG_ ?_
  exact hK2
 refine c_b (fun hn=>?_) (fun hn=>?_)
 ·have hn : (mayB ss t&&decide (t.k=5))=false:=by
   cases hm : mayB ss t
   ·rfl
   ·rw [hm] at hn;simpa using hn
  rw [xd,hn] at h
  exact h none 0 nothing (fun _=>nothing) _ S.ext ⟨fun b o ho=>by rcases ho with ho|⟨_,_,_,ho⟩<;>exact ho.elim,fun b o ho=>by rcases ho with ho|⟨_,_,_,ho⟩<;>exact ho.elim⟩
   ⟨fun i hi=>by simp at hi,fun i j _ hi=>by simp at hi,fun i hi=>by simp at hi⟩ (Nat.le_refl _)
 have hn : mayB ss t=true∧t.k=5:=by
  cases hm : mayB ss t
  ·rw [hm] at hn;simp at hn
  ·rw [hm] at hn;exact ⟨rfl,by simpa using hn⟩
 obtain ⟨hm,h5⟩:=hn
 rw [xd,hm,decide_eq_true h5] at h
 simp only [Bool.and_true,if_true] at h
 obtain ⟨hok,hl⟩:=aaX hm
 obtain ⟨h32,hb1,hg,hac,_,_⟩:=j7 hok
 obtain ⟨hst0,hst1,_⟩:=ZW hl h5
 have hlt : t.st.toNat<ss.length:=by omega
 obtain ⟨b,off,q,capq,rfl,hcell,_,_,hf⟩:=Zp hs hlt
 have htl : zg ss t.st=ss[t.st.toNat].fs.map (·.2):=by
  rw [← qe hlt];simp only [zg,Int.toNat_natCast]
 have hlen : (zg ss t.st).length=ss[t.st.toNat].fs.length:=by rw [htl,List.length_map]
 have h88:=ZX hb1 t.st
 refine gG_ ?_
 refine zh (S.at hcell) ?_
 refine gP_ ?_
 have S:=S.tl
 have S:=S.ownNil 83 5
 have S:=S.to (r.or (un (fun _=>nothing) 0 0)) (l:=⟨fun b o ho=>by rcases ho with ho|⟨_,_,h2,_⟩;exact ho;omega⟩)
 refine zj (ι:=Nat × Value × List Value × (Nat→Gh)) (fun i=>[i.2.1,.int .i64 i.1]) (fun i w'=>i.1≤(zg ss t.st).length∧i.2.2.1.length=i.1*5∧
   (∀ j (hj : j<(zg ss t.st).length),j<i.1→((i.2.2.1.drop (j*5)).take 5).length=5∧TyG (i.2.2.2 j) (.agg ((i.2.2.1.drop (j*5)).take 5).toArray) (zg ss t.st)[j]∧J1 (i.2.2.2 j) (.agg ((i.2.2.1.drop (j*5)).take 5).toArray) (zg ss t.st)[j])∧
   (∀ j,j<i.1→∀ b o,i.2.2.2 j b o→w.heap.size≤b)∧(∀ j k,j≠k→j<i.1→k<i.1→Dis (i.2.2.2 j) (i.2.2.2 k))∧StX noX w (r.or (un i.2.2.2 0 i.1)) w' [.row i.2.1 83 5 i.1 i.2.2.1])
  (fun i=>(zg ss t.st).length - i.1) (0,.slice none 0 0,[],fun _=>nothing) rfl ⟨Nat.zero_le _,rfl,fun j _ hj=>by omega,fun j hj=>by omega,fun j k _ hj=>by omega,S⟩ ?_
 clear S
 rintro ⟨i,v,xs,gs⟩ d w3 ⟨hi,hxl,hel,hfr,hdis,S⟩ K7 hK7
 simp only at hi hxl hel hfr hdis S ⊢
 rw [List.getD_cons_zero,List.getD_cons_succ,List.getD_cons_zero]
 refine gP_ ?_
 refine c_b (fun hlt2=>?_) (fun hge=>?_)
 ·have hlt2 : i<ss[t.st.toNat].fs.length:=by simpa using hlt2
  have hlt3 : i<(zg ss t.st).length:=by omega
  have hel2 : (zg ss t.st)[i]=ss[t.st.toNat].fs[i].2:=by simp only [htl,List.getElem_map]
  have hmem : ss[t.st.toNat].fs[i].2 ∈ zg ss t.st:=by rw [← hel2];exact List.getElem_mem hlt3
  obtain ⟨b2,off2,c,rfl,hcl,hcc,hty⟩:=Ji hf hlt2
  refine gP_ ?_
  refine zH (n:=6) (c:=.string ss[t.st.toNat].fs[i].1::c) (by simp [hcl]) (fun j v hj=>by rw [Int.toNat_natCast];exact S.at (hcc j v hj)) ?_
  refine S.al fun b8 w4 S=>?_
  refine S.stB (b:=b8) (cs:=(Value.string ss[t.st.toNat].fs[i].1::c).toArray) (fun w5 S=>?_) rfl (by simp [hcl]) (QG hty)
  refine gP_ ?_
  refine S.fty hcl ?_
  refine abW (s:=ss.length) 48 (by decide) (hg _ _ hmem) S.tl hty.up fun c' N w6 hch S=>?_
  have hcl':=hch.len
  have hone':=hch.ones
  obtain ⟨sn,S,ht,hcg,hfn,hdn⟩:=hch.frz2 S
  refine S.lit (e:=83) (cs:=c') (agC hch) fun b33 w7 S=>?_
  refine S.ap (m':=1) (Sl.blk (S.blk b33)) (fun v34 w8 S=>?_) (by omega) (by omega) (by simp) hone'
  have S:=S.tl
  refine gP_ ?_
  rw [show ((i : Int)+1)=((i+1 : Nat) : Int) by omega]
  refine hK7 (i+1,v34,xs++c',fun j=>if j=i then sn else gs j) _ ⟨hlt3,by simp only [List.length_append];omega,fun j hj hji=>?_,fun j hj b o ho=>?_,fun j k hjk hj hk=>?_,?_⟩ (by simp only;omega)
  ·by_cases hji' : j=i
   ·subst hji'
    simp only [if_true]
    have e : ((xs++c').drop (j*5)).take 5=c':=by
     rw [← hxl,List.drop_left',List.take_of_length_le (by omega)];rfl
    rw [e,hel2]
    exact ⟨hcl',ht,hcg⟩
   ·simp only [if_neg hji']
    have e : ((xs++c').drop (j*5)).take 5=(xs.drop (j*5)).take 5:=by
     rw [List.drop_append_of_le_length (by omega),List.take_append_of_le_length (by rw [List.length_drop];omega)]
    rw [e]
    exact hel j hj (by omega)
  ·simp only at ho
   split at ho
   ·exact (hfn b o ho).elim id fun h=>h.elim
   ·exact hfr j (by omega) b o ho
  ·simp only
   by_cases h1 : j=i
   ·rw [if_pos h1,if_neg (by omega)]
    exact fun b o o' ho ho'=>hdn b o o' ho (.inr ⟨k,Nat.zero_le _,by omega,ho'⟩)
   ·rw [if_neg h1]
    by_cases h2 : k=i
    ·rw [if_pos h2]
     exact fun b o o' ho ho'=>hdn b o' o ho' (.inr ⟨j,Nat.zero_le _,by omega,ho⟩)
    ·rw [if_neg h2]
     exact hdis j k hjk (by omega) (by omega)
  ·simp only
   exact S.to _ (l:=⟨fun b o ho=>by
    rcases ho with ho|⟨j,_,hj,ho⟩
    ·exact .inl (.inl ho)
    ·split at ho
     ·exact .inr ho
     ·exact .inl (.inr ⟨j,Nat.zero_le _,by omega,ho⟩)⟩)
 ·have hge : i=(zg ss t.st).length:=by
   have : ¬ i<ss[t.st.toNat].fs.length:=by simpa using hge
   omega
  subst hge
  have hpos : (zg ss t.st).length≠0:=by
   have:=hb1 t.st.toNat hlt
   have e : zg ss (t.st.toNat : Int)=zg ss t.st:=by rw [zg,zg,Int.toNat_natCast]
   rw [qJ,e,Bool.or_eq_false_iff,Bool.or_eq_false_iff] at this
   simp only [decide_eq_false_iff_not] at this
   omega
  obtain ⟨b9,cap9,c9,rfl,hc9,hcl9,htk9,S⟩:=S.rowCell v hpos
  have hm9:=S.mine (.cell b9 c9 83) (by simp) b9 rfl
  have S:=S.frz
  refine h _ _ (Go.Sh.one b9 c9 83) gs _ S.ext ⟨S.holds.le (h:=⟨fun b o ho=>by
   rcases ho with ho|ho
   ·exact .inr ho
   ·exact .inl (.inr ho)⟩),fun b o ho=>?_⟩ ⟨fun j hj=>?_,fun j k hjk hj hk=>hdis j k hjk hj hk,fun j hj b o o' ho ho'=>?_⟩ hc9
  ·rcases ho with ⟨rfl,_⟩|⟨j,_,hj,ho⟩
   ·exact hm9.1.resolve_right id
   ·exact hfr j hj b o ho
  ·obtain ⟨h1,h2,h3⟩:=hel j hj hj
   refine ⟨b9,0,_,rfl,h1,fun k v hk w' hw=>?_,h2,h3⟩
   have B:=zF (b:=b9) (c:=c9) (T:=83) w' hw
   show w'.cell? _=some v
   rw [Nat.zero_add,B.cell]
   have hk5 : k<5:=by have:=(List.getElem?_eq_some_iff.1 hk).1;omega
   rw [List.getElem?_take,if_pos hk5,List.getElem?_drop,← htk9,List.getElem?_take] at hk
   split at hk
   ·exact hk
   ·cases hk
  ·obtain ⟨rfl,_⟩:=ho'
   exact hm9.2 o (.inr ⟨j,Nat.zero_le _,hj,ho⟩)
end Go.Proofs
end
section
namespace Go.Sh
open Go.ChangeShapes Go.WideShapes Go.ChangeAt Go.RowKit
section
variable {H : Type} {enc : TypeId × Value→H} {P : Program}
theorem ae8 {W W' : World} (e : Ext W W') {p : MemPlace} (hp : p.block<W.heap.size) : W.sameAt W' p:=Below.same e hp
theorem X8 {W W' : World} (e : Ext W W') (K : Kids P (· < P.types.size)) (hz : ∀ t e,t<P.types.size→P.underlying t=some (.slice e)→0<P.cellsOf e) {sp : Nat→Bool} :
  ∀ {ts : List TypeId} {vs : List Value} {ds : List (DataW H)} {ps : List MemPlace},(∀ t ∈ ts,t<P.types.size)→DataW.TrodAll enc P W 0 (fun _=>true) true ts vs ds ps→(∀ p ∈ ps,p.block<W.heap.size)→(∀ p ∈ ps,sp p.block=true)→
   DataW.TrodAll enc P W' 0 sp true ts vs ds ps
 |[],[],[],_,_,h,_,_=>h
 |_::_,_::_,_::_,_,hT,⟨p,q,⟨n,h1⟩,h2,he⟩,hl,hs=>
  ⟨p,q,⟨n,DataW.trod_stays K (fun {t e}=>hz t e) (fun h=>by cases h) (hT _ (List.mem_cons.2 (Or.inl rfl))) h1 (fun x hx=>ae8 e (hl x (by rw [he];exact List.mem_append_left _ hx))) (fun x hx=>hs x (by rw [he];exact List.mem_append_left _ hx))⟩,
   X8 e K hz (fun t ht=>hT t (List.mem_cons.2 (Or.inr ht))) h2 (fun x hx=>hl x (by rw [he];exact List.mem_append_right _ hx)) (fun x hx=>hs x (by rw [he];exact List.mem_append_right _ hx)),he⟩
theorem ad0 {f : Func} {s : ChangeSpec} {W W' : World} {args : Array Value} {ds gs : List (DataW H)} {before : List MemPlace} {tb : TypeId} {fr ho : Bool}
  (hl : laidOutB P=true) (hm : mapsRowed P=true) (hz : ((List.range P.types.size).all fun t=>match P.underlying t with|some (.slice e)=>decide (0<P.cellsOf e)|_=>true)=true)
  (hts : ∀ t ∈ f.params.toList,t<P.types.size) (hv : s.vars = []) (hrt : f.resultTypes=#[tb]) (htb : P.underlying tb=some .bool)
  (hW : DataW.Whole enc P f.params.toList s.vars false W args.toList ds gs before) (hs : s.fn H (ds++gs) = { results:=[.lit (.bool true)],args:=ds }) (e : Ext W W') :
  s.post enc P f false fr ho false W args (.bool true) W':=by
 have hW':=hW
 obtain ⟨p,q,hA,hV,rfl,hfz,hnd⟩:=hW
 rw [hv] at hV
 obtain ⟨rfl,rfl⟩:=trodVars_none hV
 have hlt:=hW'.lt
 refine ⟨ds,[],p ++ [],[],p,[],hW',?_,?_,?_,Below.frame e _,fun h=>by cases h⟩
 ·rw [hs,hrt]
  exact trodAll_mk1 (shut_bool htb _)
 ·rw [hs]
  exact X8 e (kids_rows hl hm) (slices_full_of P hz) hts hA (fun x hx=>hlt x (by simpa using hx)) (fun x hx=>by simpa using hlt x (by simpa using hx))
 ·rw [hv,hs];rfl
end
end Go.Sh
end
section
namespace Go.Sh
open Go.RowKit
mutual
def Dat.ok (P : Program) : Dat→TypeId→Prop
 |.int k n,t=>P.underlying t=some (.int k)∧(Lit.int k n).wf=true
 |.bool _,t=>P.underlying t=some .bool
 |.str s,t=>P.underlying t=some .string∧s.size≤maxLen
 |.agg ds,t=>∃ fs,P.underlying t=some (.struct fs)∧Dat.okF P ds (fs.toList.map (·.type))
 |.sl sz es,t=>∃ e,P.underlying t=some (.slice e)∧sz=P.cellsOf e∧es.length≤maxLen∧Dat.okS P es e
def Dat.okF (P : Program) : List Dat→List TypeId→Prop
 |[],ts=>ts = []
 |d::ds,ts=>∃ t r,ts=t::r∧Dat.ok P d t∧Dat.okF P ds r
def Dat.okS (P : Program) : List Dat→TypeId→Prop
 |[],_=>True
 |d::ds,t=>Dat.ok P d t∧Dat.okS P ds t
end
theorem ad1 {P : Program} {t : TypeId} : ∀ {es : List Dat},(∀ (i : Nat) (d : Dat),es[i]? = some d→d.ok P t)→Dat.okS P es t
 |[],_=>trivial
 |d::es,h=>⟨h 0 d rfl,ad1 fun i d hi=>h (i+1) d (by simpa using hi)⟩
theorem acu {P : Program} {t : TypeId} : ∀ {es : List Dat},Dat.okS P es t→∀ d ∈ es,d.ok P t
 |[],_,d,hd=>by cases hd
 |e::es,h,d,hd=>by
  rcases List.mem_cons.1 hd with rfl|hd
  ·exact h.1
  ·exact acu h.2 d hd
def aaY (P : Program) (total : Nat) : Nat→List Field→Bool
 |off,[]=>off == total
 |off,f::fs=>f.offset == off&&aaY P total (off+P.cellsOf f.type) fs
def aaZ (P : Program) (ts : List TypeId) : Bool:=
 ts.all fun t=>match P.underlying t with
  |some (.int _)=>true
  |some .bool=>true
  |some .string=>true
  |some (.struct fs)=>aaY P (P.cellsOf t) 0 fs.toList&&fs.toList.all (fun f=>ts.contains f.type)
  |some (.slice e)=>decide (0<P.cellsOf e)&&ts.contains e
  |_=>false
theorem X9 {Q : Nat→Dat→Prop} : ∀ n : Nat,(∀ i,i<n→∃ d,Q i d)→∃ es : List Dat,es.length=n∧∀ i d,es[i]? = some d→Q i d
 |0,_=>⟨[],rfl,fun i d h=>by cases h⟩
 |n+1,h=>by
  obtain ⟨es,h1,h2⟩:=X9 n fun i hi=>h i (by omega)
  obtain ⟨d,hd⟩:=h n (by omega)
  refine ⟨es ++ [d],by simp [h1],fun i x hx=>?_⟩
  rcases Nat.lt_or_ge i es.length with hi|hi
  ·rw [List.getElem?_append_left hi] at hx;exact h2 i x hx
  ·rw [List.getElem?_append_right hi] at hx
   have hl:=(List.getElem?_eq_some_iff.1 hx).1
   have : i=n:=by simp at hl;omega
   subst this
   rw [h1,Nat.sub_self] at hx
   cases hx;exact hd
section
variable {H : Type} {enc : TypeId × Value→H} {P : Program} {W : World}
theorem Jk {cs : List Value} {total : Nat} (hcs : cs.length=total) : ∀ (fl : List Field) (off : Nat),aaY P total off fl=true→
  (∀ f ∈ fl,∃ d,Rep (all W) d ((cs.drop f.offset).take (P.cellsOf f.type))∧d.ok P f.type)→∃ ds,RepA (all W) ds (cs.drop off)∧Dat.okF P ds (fl.map (·.type))
 |[],off,hl,_=>⟨[],by
  have : off=total:=by simpa [aaY] using hl
  rw [RepA,List.drop_eq_nil_iff];omega,rfl⟩
 |f::fl,off,hl,h=>by
  simp only [aaY,Bool.and_eq_true,beq_iff_eq] at hl
  obtain ⟨d,h1,h2⟩:=h f List.mem_cons_self
  obtain ⟨ds,h3,h4⟩:=Jk hcs fl _ hl.2 fun g hg=>h g (List.mem_cons_of_mem _ hg)
  refine ⟨d::ds,⟨_,_,?_,h1,h3⟩,_,_,rfl,h2,h4⟩
  rw [hl.1,← List.drop_drop,List.take_append_drop]
theorem jq {ts : List TypeId} (hp : aaZ P ts=true) {sp : Nat→Bool} : ∀ (fuel : Nat) (t : TypeId) (cs : List Value) (x : DataW H × List MemPlace),t ∈ ts→
  DataW.trod enc P W 0 sp true fuel t cs=some x→∃ d,Rep (all W) d cs∧d.ok P t
 |0,_,_,_,_,h=>by simp [DataW.trod] at h
 |fuel+1,t,cs,x,ht,h=>by
  have hpt:=List.all_eq_true.1 hp t ht
  cases hu : P.underlying t with
  |none=>rw [hu] at hpt;cases hpt
  |some k=>
   rw [hu] at hpt
   cases k with
   |int k=>obtain ⟨n,rfl,_,hw⟩:=DataW.trod_int hu h;exact ⟨.int k n,rfl,hu,hw⟩
   |bool=>obtain ⟨b,rfl,_⟩:=DataW.trod_bool hu h;exact ⟨.bool b,rfl,hu⟩
   |string=>obtain ⟨s,rfl,_,hs⟩:=DataW.trod_string hu h;exact ⟨.str s,rfl,hu,hs⟩
   |struct fs=>
    simp only [Bool.and_eq_true] at hpt
    obtain ⟨xs,n,hn,_,hl,hxl,hx⟩:=DataW.trod_struct hu h
    obtain rfl : fuel=n:=by omega
    obtain ⟨ds,h1,h2⟩:=Jk (P:=P) (W:=W) hl fs.toList 0 hpt.1 (fun f hf=>by
     obtain ⟨i,hi,rfl⟩:=List.getElem_of_mem hf
     have hi' : i<fs.size:=by simpa using hi
     have h1:=hx i fs[i] (Array.getElem?_eq_getElem hi')
     rw [List.getElem?_eq_getElem (by omega)] at h1
     have hmem : fs[i].type ∈ ts:=by
      have:=List.all_eq_true.1 hpt.2 _ hf
      simpa using this
     exact jq hp fuel _ _ _ hmem h1)
    rw [List.drop_zero] at h1
    exact ⟨.agg ds,h1,fs,hu,h2⟩
   |slice e=>
    simp only [Bool.and_eq_true,decide_eq_true_eq] at hpt
    have he : e ∈ ts:=by simpa using hpt.2
    rcases DataW.trod_slice hu h with ⟨rfl,_⟩|⟨a,len,cap,elems,rest,n,hn,rfl,_,_,hlc,hcm,hel,hget,_,_⟩
    ·exact ⟨.sl (P.cellsOf e) [],⟨none,0,rfl,fun _=>rfl,Nat.le_refl _,trivial⟩,e,hu,rfl,Nat.zero_le _,trivial⟩
    obtain rfl : fuel=n:=by omega
    have hspot : 0<len→a.spot=none:=fun h0=>by
     have h1:=hget 0 h0
     rw [List.getElem?_eq_getElem (by omega)] at h1
     obtain ⟨c,hc,_⟩:=Option.bind_eq_some_iff.1 h1
     obtain ⟨_,hcl,hcc⟩:=World.cells?_some hc
     have hcell:=(hcc 0 hpt.1).trans (List.getElem?_eq_getElem (by omega))
     have:=World.cell?_spot hcell
     simpa [Addr.add] using this
    obtain ⟨es,h1,h2⟩:=X9 (Q:=fun i d=>d.ok P e∧∃ c,c.length=P.cellsOf e∧CellsAt (all W) (some a) (i*P.cellsOf e) c∧Rep (all W) d c) len (fun i hi=>by
     have h1:=hget i hi
     rw [List.getElem?_eq_getElem (by omega)] at h1
     obtain ⟨c,hc,ht⟩:=Option.bind_eq_some_iff.1 h1
     obtain ⟨_,hcl,hcc⟩:=World.cells?_some hc
     obtain ⟨d,hd,hok⟩:=jq hp fuel e c _ he ht
     refine ⟨d,hok,c,hcl,fun j v hj=>?_,hd⟩
     have hjl:=(List.getElem?_eq_some_iff.1 hj).1
     have hcell : W.cell? ((a.add (i*P.cellsOf e)).add j)=some v:=(hcc j (by omega)).trans hj
     obtain ⟨b,off,sp⟩:=a
     have hsp : sp=none:=hspot (by omega)
     subst hsp
     rw [YS,YS] at hcell
     exact ⟨b,off,rfl,aaL hcell⟩)
    refine ⟨.sl (P.cellsOf e) es,⟨some a,cap,by rw [h1],by simp,by omega,RepS.of fun i d hi=>?_⟩,e,hu,rfl,by omega,ad1 fun i d hi=>(h2 i d hi).1⟩
    rw [Nat.zero_add];exact (h2 i d hi).2
   |_=>cases hpt
end
end Go.Sh
end
section
namespace Go.Sh
open Go.RowKit
set_option linter.unusedVariables false
def SlG {α : Type} (sz : Nat) (r : Gh) (R : List Value→α→Prop) (v : Value) (l : List α) : Prop:=
 ∃ p cap,v = .slice p l.length cap∧(p=none→cap=0)∧l.length≤cap∧∀ (i : Nat) (h : i<l.length),∃ c,c.length=sz∧CellsAt r p (i*sz) c∧R c l[i]
def RowOf {α : Type} (sz : Nat) (R : List Value→α→Prop) (xs : List Value) (l : List α) : Prop:=
 xs.length=l.length*sz∧∀ (i : Nat) (h : i<l.length),R ((xs.drop (i*sz)).take sz) l[i]
section
variable {α : Type} {sz : Nat} {r s : Gh} {R Q : List Value→α→Prop} {v : Value} {l : List α}
theorem SlG.up' (h : SlG sz r R v l) (le : Le r s) (hR : ∀ c x,R c x→Q c x) : SlG sz s Q v l:=by
 obtain ⟨p,cap,h1,h2,h3,h4⟩:=h
 refine ⟨p,cap,h1,h2,h3,fun i hi=>?_⟩
 obtain ⟨c,h5,h6,h7⟩:=h4 i hi
 exact ⟨c,h5,h6.up le,hR _ _ h7⟩
theorem SlG.mono (h : SlG sz r R v l) (hR : ∀ c x,R c x→Q c x) : SlG sz r Q v l:=h.up' inferInstance hR
theorem SlG.cells (h : SlG sz r R v l) [le : Le r s] : SlG sz s R v l:=h.up' le fun _ _ h=>h
theorem SlG.nil : SlG sz r R (.slice none 0 0) ([] : List α):=⟨none,0,rfl,fun _=>rfl,Nat.le_refl _,fun i hi=>absurd hi (Nat.not_lt_zero _)⟩
theorem SlG.shape (h : SlG sz r R v l) : ∃ p cap,v = .slice p l.length cap∧(p=none→cap=0)∧l.length≤cap:=by
 obtain ⟨p,cap,h1,h2,h3,_⟩:=h;exact ⟨p,cap,h1,h2,h3⟩
theorem SlG.len {p : Option Addr} {n cap : Nat} (h : SlG sz r R (.slice p n cap) l) : n=l.length:=by
 obtain ⟨p',cap',h1,_⟩:=h;cases h1;rfl
theorem SlG.get (hz : 0<sz) {p : Option Addr} {n cap : Nat} (h : SlG sz r R (.slice p n cap) l) {i : Nat} (hi : i<l.length) :
  ∃ b off c,p=some ⟨b,off,none⟩∧c.length=sz∧R c l[i]∧∀ j v,c[j]? = some v→Ob r fun w=>w.cell? ⟨b,off+i*sz+j,none⟩=some v:=by
 obtain ⟨p',cap',h1,h2,h3,h4⟩:=h
 cases h1
 obtain ⟨c,h5,h6,h7⟩:=h4 i hi
 obtain ⟨b,off,hp,_⟩:=h6 0 c[0] (List.getElem?_eq_getElem (by omega))
 subst hp
 refine ⟨b,off,c,rfl,h5,h7,fun j v hj=>?_⟩
 obtain ⟨b',off',hp,ho⟩:=h6 j v hj
 cases hp;exact ho
theorem RowOf.nil : RowOf sz R [] ([] : List α):=⟨by simp,fun i hi=>absurd hi (Nat.not_lt_zero _)⟩
theorem RowOf.mono {xs : List Value} (h : RowOf sz R xs l) (hR : ∀ c x,R c x→Q c x) : RowOf sz Q xs l:=⟨h.1,fun i hi=>hR _ _ (h.2 i hi)⟩
theorem RowOf.snoc {xs c : List Value} {x : α} (h : RowOf sz R xs l) (hc : c.length=sz) (hx : R c x) : RowOf sz R (xs++c) (l ++ [x]):=by
 obtain ⟨h1,h2⟩:=h
 refine ⟨by rw [List.length_append,List.length_append,h1,hc,List.length_singleton,Nat.add_mul,Nat.one_mul],fun i hi=>?_⟩
 rw [List.length_append,List.length_singleton] at hi
 rcases Nat.lt_or_ge i l.length with h|h
 ·have hm : i*sz+sz≤xs.length:=by rw [h1,← Nat.succ_mul];exact Nat.mul_le_mul_right _ h
  rw [List.getElem_append_left h,List.drop_append_of_le_length (by omega),List.take_append_of_le_length (by rw [List.length_drop];omega)]
  exact h2 i h
 ·obtain rfl : i=l.length:=by omega
  rw [List.getElem_append_right (Nat.le_refl _),← h1,List.drop_left',List.take_of_length_le (by omega)]
  ·simpa using hx
  ·rfl
theorem RowOf.sl {xs : List Value} (h : RowOf sz R xs l) {p : Option Addr} {cap : Nat} (hp : p=none→cap=0) (hc : l.length≤cap) (ho : Ob r fun w=>Sl w p xs) (hz : 0<sz) (hk : ∃ w,Holds r w) : SlG sz r R (.slice p l.length cap) l:=by
 refine ⟨p,cap,rfl,hp,hc,fun i hi=>⟨(xs.drop (i*sz)).take sz,?_,?_,h.2 i hi⟩⟩
 ·have : i*sz+sz≤xs.length:=by rw [h.1,← Nat.succ_mul];exact Nat.mul_le_mul_right _ hi
  rw [List.length_take,List.length_drop];omega
 ·intro j v hj
  rw [List.getElem?_take] at hj
  split at hj
  ·rw [List.getElem?_drop] at hj
   obtain ⟨w,hw⟩:=hk
   obtain ⟨b,off,rfl,_⟩:=ho w hw _ _ hj
   refine ⟨b,off,rfl,fun w' hw'=>?_⟩
   obtain ⟨b',off',hp',hc'⟩:=ho w' hw' _ _ hj
   cases hp'
   rw [← Nat.add_assoc] at hc';exact hc'
  ·cases hj
end
section
variable {P : Program} {X : Nat→Prop} {w0 w : World} {r : Gh} {L : List Asr} {α : Type} {sz n : Nat} {R : List Value→α→Prop} {v : Value} {l : List α} {e : TypeId} {xs : List Value}
theorem StX.doneRow (S : StX X w0 r w (.row v e sz n xs::L)) (h : RowOf sz R xs l) (hz : 0<sz) (hn : n=l.length) :
  ∃ s,StX X w0 (r.or s) w L∧SlG sz s R v l∧(∀ b o,s b o→∃ c,o = .cells c e (0,0))∧(∀ b o,s b o→w0.heap.size≤b∨X b):=by
 subst hn
 have hm:=S.mine _ (List.mem_cons_self ..)
 have hr : w.ownsRow 0 e sz v l.length xs:=S.has _ (List.mem_cons_self ..)
 rcases xW hr with ⟨rfl,h1,h2⟩|⟨g,cap,c,rfl,hg,B,h1,_,h3,h4⟩
 ·have hl : l = []:=List.eq_nil_of_length_eq_zero h1
  subst hl
  exact ⟨nothing,S.tl.new (Ext.refl _) New.nothing,SlG.nil,fun b o h=>h.elim,fun b o h=>h.elim⟩
 ·have S':=S.turn (p:=[]) (x:=.row _ e sz l.length xs) (y:=.cell g c e) (ExtBut.refl _ _) B fun k hk=>.inl (by cases hk;rfl)
  refine ⟨one g c e,S'.frz,?_,fun b o h=>⟨_,h.2⟩,fun b o h=>(hm b (by rw [h.1];rfl)).1⟩
  refine h.sl (by simp) h1 (fun w k=>?_) hz ⟨w,xC B⟩
  rw [← h4];exact (Sl.blk (zF w k)).take _
theorem StX.litSl {b : Nat} (S : StX X w0 r w (.cell b xs e::L)) (h : RowOf sz R xs l) (hz : 0<sz) : StX X w0 (r.or (Go.Sh.one b xs e)) w L∧SlG sz (Go.Sh.one b xs e) R (.slice (some ⟨b,0,none⟩) l.length l.length) l:=
 ⟨S.frz,h.sl (by simp) (Nat.le_refl _) (fun w k=>Sl.blk (zF w k)) hz ⟨w,xC (S.has _ (List.mem_cons_self ..))⟩⟩
theorem StX.d2 {x y : Asr} (S : StX X w0 r w (x::y::L)) : StX X w0 r w (x::L):=S.less (fun _ _ h=>h) (.cons_cons _ (List.sublist_cons_self _ _))
theorem StX.reGh {s t : Gh} (S : StX X w0 ((r.or s).or t) w L) : StX X w0 (r.or (s.or t)) w L:=
 S.less (fun b o h=>h.elim (fun h=>.inl (.inl h)) fun h=>h.elim (fun h=>.inl (.inr h)) .inr) (List.Sublist.refl _)
theorem Above.or' {s t : Gh} (h : Above w0 s) (k : Above w0 t) : Above w0 (s.or t):=fun b o x=>x.elim (h b o) (k b o)
theorem Above.no : Above w0 nothing:=fun b o h=>h.elim
theorem StX.newOf {q : Gh} (S : StX X w0 r w L) (h : Above w0 q) [Le q r] : New w0 q w:=⟨S.holds.le (h:=inferInstance),h⟩
end
section
variable {w : World} {A : (List Value→World→Prop)→Prop} {Z : Value→World→Prop} {b : Bool}
end
end Go.Sh
end
section
namespace Go.Sh
open Go.RowKit
set_option linter.unusedSimpArgs false
set_option linter.unusedVariables false
section
variable {P : Program}
theorem zY {d : Dat} {t : TypeId} {k : IntKind} (u : P.underlying t=some (.int k)) (h : d.ok P t) : ∃ n,d = .int k n∧(Lit.int k n).wf=true:=by
 cases d<;>simp only [Dat.ok,u] at h<;>try simp at h
 obtain ⟨rfl,h⟩:=h
 exact ⟨_,rfl,h⟩
theorem aa0 {d : Dat} {t : TypeId} (u : P.underlying t=some .bool) (h : d.ok P t) : ∃ b,d = .bool b:=by
 cases d<;>simp only [Dat.ok,u] at h<;>try simp at h
 exact ⟨_,rfl⟩
theorem agD {d : Dat} {t : TypeId} (u : P.underlying t=some .string) (h : d.ok P t) : ∃ s,d = .str s∧s.size≤maxLen:=by
 cases d<;>simp only [Dat.ok,u] at h<;>try simp at h
 exact ⟨_,rfl,h⟩
theorem ahy {d : Dat} {t e : TypeId} (u : P.underlying t=some (.slice e)) (h : d.ok P t) : ∃ es,d = .sl (P.cellsOf e) es∧es.length≤maxLen∧∀ x ∈ es,x.ok P e:=by
 cases d<;>simp only [Dat.ok,u] at h<;>try simp at h
 obtain ⟨rfl,h1,h2⟩:=h
 exact ⟨_,rfl,h1,acu h2⟩
theorem xY {d : Dat} {t : TypeId} {ts : List TypeId} (u : ∃ fs,P.underlying t=some (.struct fs)∧fs.toList.map (·.type)=ts) (h : d.ok P t) : ∃ ds,d = .agg ds∧Dat.okF P ds ts:=by
 obtain ⟨fs,u,rfl⟩:=u
 cases d<;>simp only [Dat.ok,u] at h<;>try simp at h
 exact ⟨_,rfl,by simpa using h⟩
theorem zp {ds : List Dat} {t : TypeId} {ts : List TypeId} (h : Dat.okF P ds (t::ts)) : ∃ d r,ds=d::r∧d.ok P t∧Dat.okF P r ts:=by
 cases ds with
 |nil=>cases h
 |cons d r=>obtain ⟨t',r',h1,h2,h3⟩:=h;cases h1;exact ⟨d,r,rfl,h2,h3⟩
theorem xZ {ds : List Dat} (h : Dat.okF P ds []) : ds = []:=by
 cases ds with
 |nil=>rfl
 |cons d r=>obtain ⟨t',r',h1,_⟩:=h;cases h1
noncomputable def acv (P : Program) (t : TypeId) (ts : List TypeId) : Bool:=match P.underlying t with|some (.struct fs)=>decide (fs.toList.map (·.type)=ts)|_=>false
theorem yR {t : TypeId} {ts : List TypeId} (h : acv P t ts=true) : ∃ fs,P.underlying t=some (.struct fs)∧fs.toList.map (·.type)=ts:=by
 unfold acv at h
 split at h
 ·rename_i fs hu;exact ⟨fs,hu,of_decide_eq_true h⟩
 ·cases h
end
theorem ad2 {n : Int} (h : (Lit.int .i64 n).wf=true) : -9223372036854775808≤n∧n≤9223372036854775807:=by
 simp only [Lit.wf,Bool.and_eq_true,decide_eq_true_eq] at h
 exact ⟨h.1,h.2⟩
theorem ahz {n : Int} (h : (Lit.int .u64 n).wf=true) : ∃ x : BitVec 64,n=(x.toNat : Int):=by
 simp only [Lit.wf,Bool.and_eq_true,decide_eq_true_eq] at h
 have h1 : 0≤n:=h.1
 have h2 : n≤18446744073709551615:=h.2
 refine ⟨BitVec.ofNat 64 n.toNat,?_⟩
 rw [BitVec.toNat_ofNat]
 omega
theorem aa1 {α : Type} {f : α→Dat} {G : α→Prop} : ∀ es : List Dat,(∀ d ∈ es,∃ t,d=f t∧G t)→∃ l : List α,es=l.map f∧∀ t ∈ l,G t
 |[],_=>⟨[],rfl,fun t h=>by cases h⟩
 |d::es,h=>by
  obtain ⟨t,rfl,ht⟩:=h d List.mem_cons_self
  obtain ⟨l,rfl,hq⟩:=aa1 es fun x hx=>h x (List.mem_cons_of_mem _ hx)
  refine ⟨t::l,rfl,fun x hx=>?_⟩
  rcases List.mem_cons.1 hx with rfl|hx
  ·exact ht
  ·exact hq x hx
end Go.Sh
end
section
namespace Go.Proofs
open Go.Sh
set_option maxRecDepth 100000
set_option linter.unusedSimpArgs false
set_option linter.unusedVariables false
structure PlD where
 l : Int
 ps : List Int
structure OpD where
 k : Int
 n : Int
 pl : PlD
structure PtD where
 op : Int
 to : PlD
 a : OpD
 b : OpD
 args : List OpD
 sign : ByteArray
 fr : PlD
 mu : Bool
 fn : Int
 st : Int
 nx : Int
 el : Int
 tx : Int
structure GrD where
 name : ByteArray
 lv : Int
 outs : List (Int × Int)
 pn : Int
 tys : List TyD
 nms : List ByteArray
 pts : List PtD
structure UnD where
 ss : List StD
 fs : List GrD
 mn : Int
def z6 (c : List Value) (x : Int) : Prop:=c = [.int .i64 x]
def J5 (x : Int) : Prop:=-9223372036854775808≤x∧x<9223372036854775808
def jM (c : List Value) (x : Int) : Prop:=c = [.int .i64 x]∧J5 x
structure SlB {α : Type} (sz : Nat) (r : Gh) (R : List Value→α→Prop) (v : Value) (l : List α) : Prop where
 sl : SlG sz r R v l
 few : l.length≤maxLen
theorem SlB.cells {α : Type} {sz : Nat} {r s : Gh} {R : List Value→α→Prop} {v : Value} {l : List α} (h : SlB sz r R v l) [le : Le r s] : SlB sz s R v l:=⟨h.sl.cells,h.few⟩
theorem SlB.up' {α : Type} {sz : Nat} {r s : Gh} {R Q : List Value→α→Prop} {v : Value} {l : List α} (h : SlB sz r R v l) (le : Le r s) (hR : ∀ c x,R c x→Q c x) : SlB sz s Q v l:=⟨h.sl.up' le hR,h.few⟩
theorem yO {α : Type} {D : α→Dat} {r : Gh} {R : List Value→α→Prop} {sz : Nat} {cs : List Value} {l : List α} (hR : ∀ c x,x ∈ l→Rep r (D x) c→R c x) (h : Rep r (.sl sz (l.map D)) cs) (hl : l.length≤maxLen) : ∃ v,cs = [v]∧SlB sz r R v l:=by
 obtain ⟨p,cap,rfl,h1,h2,h3⟩:=h
 rw [List.length_map] at h2 ⊢
 refine ⟨_,rfl,⟨p,cap,rfl,h1,h2,fun i hi=>?_⟩,hl⟩
 obtain ⟨c,h4,h5,h6⟩:=h3.get (i:=i) (d:=D l[i]) (by rw [List.getElem?_map,List.getElem?_eq_getElem hi];rfl)
 rw [Nat.zero_add] at h5
 exact ⟨c,h4,h5,hR _ _ (List.getElem_mem hi) h6⟩
def PlD.ok (p : PlD) : Prop:=p.ps.length≤maxLen∧∀ k ∈ p.ps,J5 k
def OpD.ok (o : OpD) : Prop:=o.pl.ok
def PtD.ok (p : PtD) : Prop:=p.to.ok∧p.a.ok∧p.b.ok∧(p.args.length≤maxLen∧∀ o ∈ p.args,o.ok)∧p.fr.ok
def GrD.ok (g : GrD) : Prop:=g.outs.length≤maxLen∧g.tys.length≤maxLen∧g.nms.length≤maxLen∧g.pts.length≤maxLen∧∀ p ∈ g.pts,p.ok
def UnD.ok (u : UnD) : Prop:=u.ss.length≤maxLen∧u.fs.length≤maxLen∧∀ g ∈ u.fs,g.ok
def ae9 (c : List Value) (x : ByteArray) : Prop:=c = [.string x]
def afa (c : List Value) (x : Int × Int) : Prop:=c = [.int .i64 x.1,.int .i64 x.2]
def TyC (r : Gh) (c : List Value) (t : TyD) : Prop:=TyG r (.agg c.toArray) t
def PlG (r : Gh) (c : List Value) (p : PlD) : Prop:=∃ v,c = [.int .i64 p.l,v]∧SlB 1 r jM v p.ps
def OpG (r : Gh) (c : List Value) (o : OpD) : Prop:=∃ v,c = [.int .u8 o.k,.int .i64 o.n,.int .i64 o.pl.l,v]∧SlB 1 r jM v o.pl.ps
def PtG (r : Gh) (c : List Value) (p : PtD) : Prop:=∃ vt va vb vl vf,
 c = [.int .u8 p.op,.int .i64 p.to.l,vt,.int .u8 p.a.k,.int .i64 p.a.n,.int .i64 p.a.pl.l,va,.int .u8 p.b.k,.int .i64 p.b.n,.int .i64 p.b.pl.l,vb,vl,.string p.sign,.int .i64 p.fr.l,vf,.bool p.mu,.int .i64 p.fn,.int .i64 p.st,.int .i64 p.nx,.int .i64 p.el,.int .i64 p.tx]∧
 SlB 1 r jM vt p.to.ps∧SlB 1 r jM va p.a.pl.ps∧SlB 1 r jM vb p.b.pl.ps∧SlB 4 r (OpG r) vl p.args∧SlB 1 r jM vf p.fr.ps
def GrG (r : Gh) (c : List Value) (g : GrD) : Prop:=∃ vo vt vn vp,c = [.string g.name,.int .i64 g.lv,vo,.int .i64 g.pn,vt,vn,vp]∧
 SlB 2 r afa vo g.outs∧SlB 5 r (TyC r) vt g.tys∧SlB 1 r ae9 vn g.nms∧SlB 21 r (PtG r) vp g.pts
def UnG (r : Gh) (v : Value) (u : UnD) : Prop:=∃ p cap vf,v = .agg #[.slice p u.ss.length cap,vf,.int .i64 u.mn]∧(p=none→cap=0)∧u.ss.length≤cap∧StG r p u.ss∧u.ss.length≤maxLen∧SlB 7 r (GrG r) vf u.fs
theorem OpG.up {r s : Gh} {c : List Value} {p : OpD} (h : OpG r c p) [l : Le r s] : OpG s c p:=by
 obtain ⟨v,h1,h2⟩:=h;exact ⟨v,h1,h2.cells⟩
theorem PtG.up {r s : Gh} {c : List Value} {p : PtD} (h : PtG r c p) [l : Le r s] : PtG s c p:=by
 obtain ⟨vt,va,vb,vl,vf,h0,h1,h2,h3,h4,h5⟩:=h
 exact ⟨vt,va,vb,vl,vf,h0,h1.cells,h2.cells,h3.cells,h4.up' l fun _ _ h=>h.up,h5.cells⟩
theorem GrG.up {r s : Gh} {c : List Value} {g : GrD} (h : GrG r c g) [l : Le r s] : GrG s c g:=by
 obtain ⟨vo,vt,vn,vp,h0,h1,h2,h3,h4⟩:=h
 exact ⟨vo,vt,vn,vp,h0,h1.cells,h2.up' l fun _ _ h=>TyG.up h,h3.cells,h4.up' l fun _ _ h=>h.up⟩
theorem UnG.up {r s : Gh} {v : Value} {u : UnD} (h : UnG r v u) [l : Le r s] : UnG s v u:=by
 obtain ⟨p,cap,vf,h0,h1,h2,h3,h5,h4⟩:=h
 exact ⟨p,cap,vf,h0,h1,h2,h3.up,h5,h4.up' l fun _ _ h=>h.up⟩
def PlD.dat (p : PlD) : Dat:=.agg [.int .i64 p.l,.sl 1 (p.ps.map (Dat.int .i64))]
def OpD.dat (o : OpD) : Dat:=.agg [.int .u8 o.k,.int .i64 o.n,o.pl.dat]
def PtD.dat (p : PtD) : Dat:=.agg [.int .u8 p.op,p.to.dat,p.a.dat,p.b.dat,.sl 4 (p.args.map OpD.dat),.str p.sign,p.fr.dat,.bool p.mu,.int .i64 p.fn,.int .i64 p.st,.int .i64 p.nx,.int .i64 p.el,.int .i64 p.tx]
def ada (x : Int × Int) : Dat:=.agg [.int .i64 x.1,.int .i64 x.2]
def GrD.dat (g : GrD) : Dat:=.agg [.str g.name,.int .i64 g.lv,.sl 2 (g.outs.map ada),.int .i64 g.pn,.sl 5 (g.tys.map TyD.dat),.sl 1 (g.nms.map Dat.str),.sl 21 (g.pts.map PtD.dat)]
def UnD.dat (u : UnD) : Dat:=.agg [.sl 2 (u.ss.map StD.dat),.sl 7 (u.fs.map GrD.dat),.int .i64 u.mn]
theorem Y4 {r : Gh} {c : List Value} {p : PlD} (h : Rep r p.dat c) (k : p.ok) : PlG r c p:=by
 obtain ⟨a1,b1,rfl,e1,a2,b2,rfl,e2,e3⟩:=h
 obtain rfl : a1=_:=e1
 obtain rfl : b2 = []:=e3
 obtain ⟨v,rfl,hv⟩:=yO (D:=Dat.int .i64) (R:=jM) (fun c x hx h=>⟨h,k.2 x hx⟩) e2 k.1
 exact ⟨v,rfl,hv⟩
theorem Y5 {r : Gh} {c : List Value} {o : OpD} (h : Rep r o.dat c) (k : o.ok) : OpG r c o:=by
 obtain ⟨a1,b1,rfl,e1,a2,b2,rfl,e2,a3,b3,rfl,e3,e4⟩:=h
 obtain rfl : a1=_:=e1
 obtain rfl : a2=_:=e2
 obtain rfl : b3 = []:=e4
 obtain ⟨v,rfl,hv⟩:=Y4 e3 k
 exact ⟨v,rfl,hv⟩
theorem ad3 {r : Gh} {c : List Value} {p : PtD} (h : Rep r p.dat c) (k : p.ok) : PtG r c p:=by
 obtain ⟨a1,b1,rfl,e1,a2,b2,rfl,e2,a3,b3,rfl,e3,a4,b4,rfl,e4,a5,b5,rfl,e5,a6,b6,rfl,e6,a7,b7,rfl,e7,a8,b8,rfl,e8,a9,b9,rfl,e9,a10,b10,rfl,e10,a11,b11,rfl,e11,a12,b12,rfl,e12,a13,b13,rfl,e13,e14⟩:=h
 obtain rfl : a1=_:=e1
 obtain rfl : a6=_:=e6
 obtain rfl : a8=_:=e8
 obtain rfl : a9=_:=e9
 obtain rfl : a10=_:=e10
 obtain rfl : a11=_:=e11
 obtain rfl : a12=_:=e12
 obtain rfl : a13=_:=e13
 obtain rfl : b13 = []:=e14
 obtain ⟨v2,rfl,h2⟩:=Y4 e2 k.1
 obtain ⟨v3,rfl,h3⟩:=Y5 e3 k.2.1
 obtain ⟨v4,rfl,h4⟩:=Y5 e4 k.2.2.1
 obtain ⟨v5,rfl,h5⟩:=yO (R:=OpG r) (fun c x hx h=>Y5 h (k.2.2.2.1.2 x hx)) e5 k.2.2.2.1.1
 obtain ⟨v7,rfl,h7⟩:=Y4 e7 k.2.2.2.2
 exact ⟨v2,v3,v4,v5,v7,rfl,h2,h3,h4,h5,h7⟩
theorem adb {r : Gh} {c : List Value} {x : Int × Int} (h : Rep r (ada x) c) : afa c x:=by
 obtain ⟨a1,b1,rfl,e1,a2,b2,rfl,e2,e3⟩:=h
 obtain rfl : a1=_:=e1
 obtain rfl : a2=_:=e2
 obtain rfl : b2 = []:=e3
 rfl
theorem ad4 {r : Gh} {c : List Value} {g : GrD} (h : Rep r g.dat c) (k : g.ok) : GrG r c g:=by
 obtain ⟨a1,b1,rfl,e1,a2,b2,rfl,e2,a3,b3,rfl,e3,a4,b4,rfl,e4,a5,b5,rfl,e5,a6,b6,rfl,e6,a7,b7,rfl,e7,e8⟩:=h
 obtain rfl : a1=_:=e1
 obtain rfl : a2=_:=e2
 obtain rfl : a4=_:=e4
 obtain rfl : b7 = []:=e8
 obtain ⟨v3,rfl,h3⟩:=yO (R:=afa) (fun c x _ h=>adb h) e3 k.1
 obtain ⟨v5,rfl,h5⟩:=yO (R:=TyC r) (fun c x _ h=>TyG.of_rep h) e5 k.2.1
 obtain ⟨v6,rfl,h6⟩:=yO (D:=Dat.str) (R:=ae9) (fun c x _ h=>h) e6 k.2.2.1
 obtain ⟨v7,rfl,h7⟩:=yO (R:=PtG r) (fun c x hx h=>ad3 h (k.2.2.2.2 x hx)) e7 k.2.2.2.1
 exact ⟨v3,v5,v6,v7,rfl,h3,h5,h6,h7⟩
theorem ad5 {r : Gh} {c : List Value} {u : UnD} (h : Rep r u.dat c) (k : u.ok) : UnG r (.agg c.toArray) u:=by
 obtain ⟨a1,b1,rfl,e1,a2,b2,rfl,e2,a3,b3,rfl,e3,e4⟩:=h
 obtain rfl : a3=_:=e3
 obtain rfl : b3 = []:=e4
 obtain ⟨q,cap,rfl,h1,h2,h3⟩:=e1
 obtain ⟨vf,rfl,hf⟩:=yO (R:=GrG r) (fun c x hx h=>ad4 h (k.2.2 x hx)) e2 k.2.1
 rw [List.length_map] at h2 ⊢
 exact ⟨q,cap,vf,rfl,h1,h2,h3,k.1,hf⟩
end Go.Proofs
end
section
namespace Go.Sh
theorem p_id {P : Program} {s : Sem Value} {K : Value→Prop} (h : opP P s K) : opP P s K:=h
theorem q_id {P : Program} {w : World} {s : Sem Value} {K : Value→Prop} (h : opQ P w s K) : opQ P w s K:=h
end Go.Sh
end
section
namespace Go.Proofs
open Go.Sh
set_option maxRecDepth 100000
set_option linter.unusedSimpArgs false
set_option linter.unusedVariables false
end Go.Proofs
end
section
namespace Go.Proofs
open Go.Shelf
set_option maxRecDepth 100000
end Go.Proofs
end
section
namespace Go.Proofs.Tryz
open Go.Sh
set_option maxRecDepth 100000
end Go.Proofs.Tryz
end
section
namespace Go.Proofs
open Go.Sh Go.RowKit
set_option maxRecDepth 100000
set_option linter.unusedSimpArgs false
set_option linter.unusedVariables false
end Go.Proofs
end
section
namespace Go.Proofs.Tryz
open Go.Sh
set_option maxRecDepth 100000
end Go.Proofs.Tryz
end
section
namespace Go.Proofs
open Go.Sh
set_option maxRecDepth 100000
set_option linter.unusedSimpArgs false
set_option linter.unusedVariables false
end Go.Proofs
end
section
namespace Go.Proofs
open Go.Sh
set_option maxRecDepth 100000
set_option linter.unusedSimpArgs false
set_option linter.unusedVariables false
end Go.Proofs
end
section
namespace Go.Proofs
open Go.Sh
set_option linter.unusedVariables false
def stepG (ss : List StD) (s : TyD × Int) (k : Int) : Option (TyD × Int):=
 if k = -1∧s.1.k=3 then s.1.of.head?.map fun u=>(u,max s.2 1)
 else if k = -1∧s.1.k=4 then s.1.of.head?.map fun u=>(u,max s.2 (if s.1.m then 2 else 3))
 else if 0≤k∧s.1.k=5 then (zg ss s.1.st)[k.toNat]?.map fun u=>(u,s.2)
 else none
def goG (ss : List StD) : List Int→TyD × Int→Option (TyD × Int)
 |[],s=>some s
 |k::l,s=>(stepG ss s k).bind (goG ss l)
def zJ (ss : List StD) (tys : List TyD) (p : PlD) : TyD × Int × Bool:=
 match (if p.l<0 then none else tys[p.l.toNat]?).bind fun t=>goG ss p.ps (t,0) with
 |some s=>(s.1,s.2,decide (p.ps.length≤8))
 |none=>(yr,0,false)
def qK : TyD:=⟨1,false,0,0,[]⟩
def aak : TyD:=⟨2,false,0,0,[]⟩
def kG (p : PlD) : Bool:=decide (p.l=0)&&decide (p.ps.length=0)
def Ye (o : OpD) : Bool:=(decide (o.k=0)&&decide (o.n=0))&&kG o.pl
def yc (ss : List StD) (tys : List TyD) (o : OpD) : TyD × Bool:=
 if o.k=1 then (qK,kG o.pl)
 else if o.k=2 then (aak,kG o.pl&&(decide (o.n=0)||decide (o.n=1)))
 else if o.k=3 then ((zJ ss tys o.pl).1,((zJ ss tys o.pl).2.2&&decide (o.n=0))&&qw (zJ ss tys o.pl).1)
 else if o.k=4 then ((zJ ss tys o.pl).1,(((zJ ss tys o.pl).2.2&&decide (o.n=0)) && !qw (zJ ss tys o.pl).1)&&decide ((zJ ss tys o.pl).2.1<2))
 else (yr,false)
structure adc where
 to : Bool:=false
 a : Bool:=false
 b : Bool:=false
 args : Bool:=false
 sign : Bool:=false
 fr : Bool:=false
 mu : Bool:=false
 fn : Bool:=false
 st : Bool:=false
 el : Bool:=false
def kj (p : PtD) (h : adc) : List Bool:=
 [h.to||kG p.to,h.a||Ye p.a,h.b||Ye p.b,h.args||decide (p.args.length=0),h.sign||(p.sign.toList == []),h.fr||kG p.fr,h.mu || !p.mu,h.fn||decide (p.fn=0),h.st||decide (p.st=0),h.el||decide (p.el=0)]
def zz (p : PtD) (h : adc) : Bool:=(kj p h).all id
def xJ (ss : List StD) (tys : List TyD) : List OpD→List TyD→Bool
 |[],[]=>true
 |o::l,t::r=>((yc ss tys o).2&&yh yV (yc ss tys o).1 t)&&xJ ss tys l r
 |_,_=>false
def Yf (g : GrD) (q : Int) : Bool:=decide (0≤q)&&decide (q<g.pts.length)
def isK (t : TyD) (k : Int) : Bool:=decide (t.k=k)
def yP (s : ByteArray) (l : List (List UInt8)) : Bool:=l.any fun x=>s.toList == x
noncomputable def ptG (u : UnD) (g : GrD) (p : PtD) : Bool:=
 let to:=zJ u.ss g.tys p.to
 let fr:=zJ u.ss g.tys p.fr
 let laid:=to.2.2&&decide (to.2.1<3)
 let a:=yc u.ss g.tys p.a
 let b:=yc u.ss g.tys p.b
 let ints:=isK a.1 1&&isK b.1 1
 if p.op=1 then ((zz p { to:=true,a:=true } && laid)&&a.2)&&yh yV a.1 to.1
 else if p.op=2 then
  (zz p { to:=true,a:=true,b:=true,sign:=true } && (laid&&(a.2&&b.2))) &&
   (if yP p.sign [[43],[45],[42],[47],[37]] then isK to.1 1&&ints
    else if yP p.sign [[60],[60,61],[62],[62,61]] then isK to.1 2&&ints
    else if yP p.sign [[61,61],[33,61]] then isK to.1 2&&(ints||(isK a.1 2&&isK b.1 2)) else false)
 else if p.op=3 then
  ((zz p { to:=true,a:=true,sign:=true } && laid)&&a.2) &&
   (if yP p.sign [[45]] then isK to.1 1&&isK a.1 1 else if yP p.sign [[33]] then isK to.1 2&&isK a.1 2 else false)
 else if p.op=4 then
  ((((zz p { to:=true,fr:=true,mu:=true } && laid)&&fr.2.2)&&isK to.1 4)&&decide (to.1.m=p.mu))&&(yh yV (to.1.of.headD yr) fr.1 && !(p.mu&&decide (fr.2.1=3)))
 else if p.op=5 then (((zz p { to:=true,a:=true } && laid)&&a.2)&&isK to.1 3)&&yh yV (to.1.of.headD yr) a.1
 else if p.op=6 then
  (((zz p { to:=true,args:=true,st:=true } && laid)&&isK to.1 5)&&decide (to.1.st=p.st))&&xJ u.ss g.tys p.args (xd u.ss to.1).1
 else if p.op=7 then
  ((zz p { to:=true,args:=true,fn:=true } && laid)&&(decide (0≤p.fn)&&decide (p.fn<u.fs.length))) &&
   (match u.fs[p.fn.toNat]? with
    |some f=>yh yV to.1 (f.tys.headD yr)&&xJ u.ss g.tys p.args ((f.tys.drop 1).take f.pn.toNat)
    |none=>false)
 else if p.op=8 then (zz p { to:=true } && laid)&&isK to.1 1
 else if p.op=9 then (zz p { a:=true } && a.2)&&isK a.1 1
 else if p.op=10 then ((zz p { fr:=true } && fr.2.2)&&(vJ u.ss fr.1).1)&&decide (fr.2.1<2)
 else if p.op=11 then ((zz p { fr:=true } && fr.2.2)&&decide (0<p.fr.l))&&decide (p.fr.ps.length=0)
 else if p.op=12 then ((zz p { a:=true,el:=true } && a.2)&&isK a.1 2)&&Yf g p.el
 else if p.op=13∨p.op=14 then zz p {}
 else false
noncomputable def zV (u : UnD) (g : GrD) (p : PtD) : Bool:=
 !((decide (p.tx<0)||(!decide (p.op=14) && !Yf g p.nx))||(decide (p.op=14) && !decide (p.nx=0)))&&ptG u g p
def qL (x y : Int) : List Int→Bool
 |[]=>false
 |a::l=>(decide (a=y)&&l.contains x)||qL x y l
def qM (tys : List TyD) (x y : Int) : Bool:=tys.any fun t=>qL x y (yN t)
def jr (outs : List (Int × Int)) (x y : Int) : Bool:=outs.contains (x,y)
def kk (lv : Int) (o : Int × Int) : Bool:=!((decide (min o.1 o.2<0)||decide (lv≤max o.1 o.2))||decide (o.1=o.2))
def js (o w : Int × Int) : Bool:=decide (o.1<w.1)||(decide (o.1=w.1)&&decide (o.2<w.2))
def Jl : List (Int × Int)→Bool
 |a::b::l=>js a b&&Jl (b::l)
 |_=>true
def ade (n : Nat) (must says : Int→Int→Bool) : Bool:=
 (List.range n).all fun a : Nat=>(List.range n).all fun b : Nat=>
  ((List.range n).all fun c : Nat=>!((says a b&&says b c)&&(!decide (a=c) && !says a c))) && !(!decide (a=b)&&(must a b && !says a b))
def Yg (g : GrD) : Bool:=
 (g.outs.all (kk g.lv)&&Jl g.outs)&&ade g.lv.toNat (qM (g.tys.take (g.pn.toNat+1))) (jr g.outs)
noncomputable def tyG (u : UnD) (g : GrD) (i : Nat) (t : TyD) : Bool:=
 mayB u.ss t&&(yN t).all fun r=>!(decide (r<(if (i : Int)≤g.pn then 0 else -1))||decide (g.lv≤r))
noncomputable def jc (u : UnD) (g : GrD) : Nat→List TyD→Bool
 |_,[]=>true
 |i,t::l=>tyG u g i t&&jc u g (i+1) l
def yK (l : List PtD) : Nat:=l.countP fun p=>decide (p.op=4)
noncomputable def xK (u : UnD) (fn : Nat) (g : GrD) : Bool:=
 ((((((decide (0≤g.lv)&&decide (g.lv≤8))&&(decide (0≤g.pn)&&decide (g.pn≤8)))&&(decide (g.pn<g.tys.length)&&decide (g.tys.length≤512)))&&decide (g.nms.length=g.tys.length)) &&
  jc u g 0 g.tys)&&((decide (1≤g.pts.length)&&decide (g.pts.length≤1024))&&Yg g)) &&
  (decide (yK g.pts≤256)&&(!decide ((fn : Int)=u.mn)||((decide (g.lv=0)&&decide (g.pn=0))&&isK (g.tys.headD yr) 1)))
noncomputable def kV (u : UnD) : Nat→List GrD→Option Nat
 |_,[]=>none
 |i,g::l=>if xK u i g then kV u (i+1) l else some i
noncomputable def j8 (u : UnD) (g : GrD) : Nat→List PtD→Option Nat
 |_,[]=>none
 |q,p::l=>if zV u g p then j8 u g (q+1) l else some q
noncomputable def vK (u : UnD) : Nat→List GrD→Option (Nat × Nat)
 |_,[]=>none
 |i,g::l=>match j8 u g 0 g.pts with|some q=>some (i,q)|none=>vK u (i+1) l
noncomputable def kW (u : UnD) : Int × Int × Int:=
 if !decide ((zZ u.ss).2=0)||(decide (u.fs.length<1)||decide (32<u.fs.length))||(decide (u.mn<0)||decide ((u.fs.length : Int)≤u.mn)) then (-1,-1,100)
 else match kV u 0 u.fs with
  |some i=>(i,-1,100)
  |none=>match vK u 0 u.fs with
   |some (i,q)=>(i,q,100)
   |none=>(0,0,0)
noncomputable def J6 (u : UnD) : Bool:=decide ((kW u).2.2=0)
end Go.Proofs
end
section
namespace Go.Proofs
open Go.Sh
set_option linter.unusedVariables false
theorem ad6 : ∀ {n : Nat} {s s' : Int} {m : Nat} {t : TyD},zU s n t=true→n≤m→s≤s'→zU s' m t=true:=by
 intro n
 induction n with
 |zero=>intro s s' m t h;cases h
 |succ n ih=>
  intro s s' m t h hm hs
  obtain ⟨m,rfl⟩ : ∃ k,m=k+1:=⟨m - 1,by omega⟩
  have inn : inB s n t=true→inB s' m t=true:=by
   intro hi
   cases t with
   |mk k mm re st of=>
    cases of with
    |nil=>cases hi
    |cons u l=>exact ih (t:=u) hi (by omega) hs
  rw [j6] at h ⊢
  split
  ·rename_i h1;rw [if_pos h1] at h;exact h
  ·rename_i h1;rw [if_neg h1] at h
   split
   ·rename_i h2;rw [if_pos h2] at h
    simp only [Bool.and_eq_true,decide_eq_true_eq] at h ⊢
    exact ⟨h.1,by omega⟩
   ·rename_i h2;rw [if_neg h2] at h
    split
    ·rename_i h3;rw [if_pos h3] at h
     simp only [Bool.and_eq_true,decide_eq_true_eq] at h ⊢
     exact ⟨h.1,h.2.1,inn h.2.2⟩
    ·rename_i h3;rw [if_neg h3] at h
     split
     ·rename_i h4;rw [if_pos h4] at h
      simp only [Bool.and_eq_true,decide_eq_true_eq] at h ⊢
      exact ⟨h.1,h.2.1,inn h.2.2⟩
     ·rename_i h4;rw [if_neg h4] at h;cases h
def Fine (ss : List StD) (t : TyD) : Prop:=zU ss.length 48 t=true
theorem Fine.cases {ss : List StD} {t : TyD} (h : Fine ss t) : (t.of = []∧(t.k=1∨t.k=2∨t.k=5))∨∃ u,t.of = [u]∧Fine ss u∧(t.k=3∨t.k=4):=by
 rcases qH h with h|⟨u,h1,h2,h3⟩
 ·exact .inl h
 ·exact .inr ⟨u,h1,ad6 h2 (by omega) (Int.le_refl _),h3⟩
theorem Fine.st {ss : List StD} {t : TyD} (h : Fine ss t) (hk : t.k=5) : 0≤t.st∧t.st<ss.length:=by
 have:=ZW h hk
 exact ⟨this.1,this.2.1⟩
theorem ad7 {ss : List StD} (hg : qI ss) {s : TyD × Int} {k : Int} {s' : TyD × Int} (h : Fine ss s.1) (e : stepG ss s k=some s') : Fine ss s'.1:=by
 have inside : ∀ {f : TyD→TyD × Int},(∀ u,(f u).1=u)→s.1.of.head?.map f=some s'→Fine ss s'.1:=by
  intro f hf e
  rcases h.cases with ⟨h1,_⟩|⟨u,h1,h2,_⟩
  ·rw [h1] at e;cases e
  ·rw [h1] at e
   obtain rfl:=Option.some.inj e
   rw [hf];exact h2
 unfold stepG at e
 split at e
 ·exact inside (fun _=>rfl) e
 split at e
 ·exact inside (fun _=>rfl) e
 split at e
 ·rename_i h3
  cases hu : (zg ss s.1.st)[k.toNat]? with
  |none=>rw [hu] at e;cases e
  |some u=>
   rw [hu] at e
   obtain rfl:=Option.some.inj e
   exact hg _ u (List.mem_of_getElem? hu)
 ·cases e
theorem J7 {ss : List StD} (hg : qI ss) : ∀ {l : List Int} {s s' : TyD × Int},Fine ss s.1→goG ss l s=some s'→Fine ss s'.1
 |[],s,s',h,e=>by obtain rfl:=Option.some.inj e;exact h
 |k::l,s,s',h,e=>by
  rw [goG] at e
  cases hs : stepG ss s k with
  |none=>rw [hs] at e;cases e
  |some s2=>rw [hs] at e;exact J7 hg (ad7 hg h hs) e
structure Yh (ss : List StD) (tys : List TyD) : Prop where
 few : ss.length≤32
 good : qI ss
 acy : ∀ k,¬ Rch ss k k
 all : ∀ t ∈ tys,Fine ss t
theorem ad8 {ss : List StD} {tys : List TyD} (h : Yh ss tys) {p : PlD} (ho : (zJ ss tys p).2.2=true) : Fine ss (zJ ss tys p).1:=by
 unfold zJ at ho ⊢
 cases hb : (if p.l<0 then none else tys[p.l.toNat]?).bind fun t=>goG ss p.ps (t,0) with
 |none=>rw [hb] at ho;cases ho
 |some s=>
  show Fine ss s.1
  split at hb
  ·cases hb
  ·cases ht : tys[p.l.toNat]? with
   |none=>rw [ht] at hb;cases hb
   |some t=>
    rw [ht] at hb
    exact J7 h.good (h.all t (List.mem_of_getElem? ht)) hb
end Go.Proofs
end
section
namespace Go.Proofs
open Go.Sh
set_option linter.unusedVariables false
end Go.Proofs
end
section
namespace Go.Proofs
open Go.Sh
set_option linter.unusedVariables false
end Go.Proofs
end
section
namespace Go.Proofs
open Go.Sh
set_option maxRecDepth 100000
set_option linter.unusedSimpArgs false
set_option linter.unusedVariables false
instance {P : Program} {t e ty : TypeId} {a b : Int} : PStep P (Builtin.max_ #[t,e] ty #[.int .i64 a,.int .i64 b]) (.int .i64 (max a b)):=⟨fun w=>Lib.run_max_ints w _ _ _ _ _ _⟩
instance (priority:=low) {P : Program} {t : TypeId} {c : Bool} {x : ByteArray} {m : List UInt8} : PStep P (zA .eql t c (.string x) (.string (bs m))) (.bool (x.toList == m)):=.of fun _ k=>
 zO (fun w=>by rw [ae6 trivial,binOp_string_eql,Vu m];rfl) k
theorem ahA {P : Program} {w : World} {s : Sem Value} {K : Value→World→Prop} (h : opQ P w s fun v=>K v w) : opW P w s K:=w_q (by
 obtain ⟨v,h1,h2⟩:=h
 exact ⟨v,h1,h2⟩)
theorem SlB.lt {α : Type} {sz : Nat} {r : Gh} {R : List Value→α→Prop} {v : Value} {l : List α} (h : SlB sz r R v l) : l.length≤9223372036854775807:=h.few
theorem ZD {a : Nat} : decide ((a : Int)=0)=decide (a=0):=decide_eq_decide.2 (by omega)
theorem kx {p : PlD} {c : List Value} {w : World} {r : Gh} {K : Value→World→Prop} (hr : Holds r w) (hp : PlG r c p) (h : ∀ w',Ext w w'→K (.bool (kG p)) w') :
  zd Tryz.prog Tryz.yU #[.agg c.toArray] w K:=by
 obtain ⟨v,rfl,hl⟩:=hp
 obtain ⟨q,cap,rfl,_,_⟩:=hl.sl.shape
 refine Tryz.V1 ?_
 unfold Tryz.YY
 have S:=St.start hr
 refine S.box fun b1 w1 S=>?_
 refine gG_ ?_
 refine zi (c:=decide (p.ps.length=0)) (fun _ K2 hK2=>?_) ?_
 ·refine gG_ ?_
  rw [ZD]
  exact hK2
 exact h _ S.ext
def AskG (r : Gh) (v : Value) (u : UnD) (g : GrD) : Prop:=∃ p cap vf vo vt vn vp,v = .agg #[.slice p u.ss.length cap,vf,.int .i64 u.mn,.string g.name,.int .i64 g.lv,vo,.int .i64 g.pn,vt,vn,vp]∧
 UnG r (.agg #[.slice p u.ss.length cap,vf,.int .i64 u.mn]) u∧GrG r [.string g.name,.int .i64 g.lv,vo,.int .i64 g.pn,vt,vn,vp] g
theorem AskG.up {r s : Gh} {v : Value} {u : UnD} {g : GrD} (h : AskG r v u g) [l : Le r s] : AskG s v u g:=by
 obtain ⟨p,cap,vf,vo,vt,vn,vp,h0,h1,h2⟩:=h
 exact ⟨p,cap,vf,vo,vt,vn,vp,h0,h1.up,h2.up⟩
abbrev tyL (t : TyD) (q : Option Addr) (cap : Nat) : List Value:=[.int .u8 t.k,.bool t.m,.int .i64 t.re,.int .i64 t.st,.slice q t.of.length cap]
abbrev tyV (t : TyD) (q : Option Addr) (cap : Nat) : Value:=.agg #[.int .u8 t.k,.bool t.m,.int .i64 t.re,.int .i64 t.st,.slice q t.of.length cap]
abbrev spL (t : TyD) (q : Option Addr) (cap : Nat) (m : Int) (ok : Bool) : List Value:=[.int .u8 t.k,.bool t.m,.int .i64 t.re,.int .i64 t.st,.slice q t.of.length cap,.int .i64 m,.bool ok]
abbrev spV (t : TyD) (q : Option Addr) (cap : Nat) (m : Int) (ok : Bool) : Value:=.agg #[.int .u8 t.k,.bool t.m,.int .i64 t.re,.int .i64 t.st,.slice q t.of.length cap,.int .i64 m,.bool ok]
theorem qx {r : Gh} {c : List Value} {t : TyD} (h : TyG r (.agg c.toArray) t) : ∃ q cap,c=tyL t q cap∧TyG r (tyV t q cap) t:=by
 obtain ⟨p,cap,h1,_⟩:=QE h
 subst h1
 exact ⟨p,cap,rfl,h⟩
theorem aal {r : Gh} {s uu : TyD} {q : Option Addr} {cap : Nat} (h : TyG r (tyV s q cap) s) (hof : s.of = [uu]) : ∃ b off q2 cap2,q=some ⟨b,off,none⟩∧TyG r (tyV uu q2 cap2) uu∧∀ j v,(tyL uu q2 cap2)[j]? = some v→Ob r fun w=>w.cell? ⟨b,off+j,none⟩=some v:=by
 obtain ⟨_,_,hE,_,_,hreps⟩:=h
 cases hE
 obtain ⟨b,off,rfl,c,h1,h2,h3⟩:=NdG.of hreps (i:=0) (by rw [hof];exact Nat.one_pos)
 have h3 : TyG r (.agg c.toArray) uu:=by simpa [hof] using h3
 obtain ⟨q2,cap2,rfl,ht⟩:=qx h3
 exact ⟨b,off,q2,cap2,rfl,ht,by simpa using h2⟩
theorem Jm (ss : List StD) : ∀ (l : List Int) (k : Int) (s : TyD × Int),goG ss (l ++ [k]) s=(goG ss l s).bind fun s'=>stepG ss s' k
 |[],k,s=>by
  show (stepG ss s k).bind (goG ss [])=stepG ss s k
  cases stepG ss s k<;>rfl
 |x::l,k,s=>by
  rw [List.cons_append,goG,goG]
  cases h : stepG ss s x with
  |none=>rfl
  |some s'=>exact Jm ss l k s'
theorem aa2 {ss : List StD} : ∀ {l m : List Int} {s : TyD × Int},goG ss l s=none→goG ss (l++m) s=none
 |[],m,s,h=>by cases h
 |x::l,m,s,h=>by
  rw [List.cons_append,goG]
  rw [goG] at h
  cases hs : stepG ss s x with
  |none=>rfl
  |some s'=>rw [hs] at h;exact aa2 (l:=l) (m:=m) h
theorem ad9 {ss : List StD} {tys : List TyD} {p : PlD} {t : TyD} {i : Nat} (h0 : 0≤p.l) (ht : tys[p.l.toNat]? = some t) (h : goG ss (p.ps.take i) (t,0)=none) : zJ ss tys p=(yr,0,false):=by
 have:=aa2 (m:=p.ps.drop i) h
 rw [List.take_append_drop] at this
 unfold zJ
 rw [if_neg (by omega),ht]
 show (match goG ss p.ps (t,0) with|some s=>(s.1,s.2,decide (p.ps.length≤8))|none=>(yr,0,false))=_
 rw [this]
theorem aea {ss : List StD} {tys : List TyD} {p : PlD} {t : TyD} {s : TyD × Int} (h0 : 0≤p.l) (ht : tys[p.l.toNat]? = some t) (h : goG ss p.ps (t,0)=some s) : zJ ss tys p=(s.1,s.2,decide (p.ps.length≤8)):=by
 unfold zJ
 rw [if_neg (by omega),ht]
 show (match goG ss p.ps (t,0) with|some s=>(s.1,s.2,decide (p.ps.length≤8))|none=>(yr,0,false))=_
 rw [h]
theorem afb {ss : List StD} {tys : List TyD} {p : PlD} (h : p.l<0∨(tys.length : Int)≤p.l) : zJ ss tys p=(yr,0,false):=by
 unfold zJ
 by_cases h0 : p.l<0
 ·rw [if_pos h0];rfl
 ·rw [if_neg h0,List.getElem?_eq_none (by omega)];rfl
set_option maxHeartbeats 1000000 in
theorem yD {u : UnD} {g : GrD} {p : PlD} {c : List Value} {v : Value} {w : World} {r : Gh} {K : Value→World→Prop} {t : TyD} {m : Int} {ok : Bool} (hr : Holds r w) (hx : AskG r v u g) (hf : Yh u.ss g.tys) (hp : PlG r c p) (hsp : zJ u.ss g.tys p=(t,m,ok))
  (h : ∀ q cap w',Ext w w'→TyG r (tyV t q cap) t→K (spV t q cap m ok) w') : zd Tryz.prog Tryz.zn #[v,.agg c.toArray] w K:=by
 obtain ⟨p0,cap0,vf,vo,vt,vn,vp,rfl,hu,hg⟩:=hx
 obtain ⟨_,_,_,_,hE,_,htys,_,_⟩:=hg
 cases hE
 obtain ⟨_,_,_,hE,_,_,hst,_,_⟩:=hu
 cases hE
 obtain ⟨qt,capt,rfl,_,_⟩:=htys.sl.shape
 obtain ⟨v,rfl,hl⟩:=hp
 obtain ⟨qs,caps,rfl,_,_⟩:=hl.sl.shape
 have hbl:=hl.lt
 refine Tryz.YJ ?_
 unfold Tryz.jA
 have S:=St.start hr
 refine S.box fun b2 w1 S=>?_
 refine S.box fun b3 w2 S=>?_
 refine S.al fun b4 w3 S=>?_
 refine gG_ ?_
 refine zo (c:=decide ((g.tys.length : Int)≤p.l)) (fun _ K2 hK2=>?_) ?_
 ·refine gG_ ?_
  exact hK2
 refine c_b (fun ho=>?_) (fun hi=>?_)
 ·have hz:=afb (ss:=u.ss) (tys:=g.tys) (p:=p) (by simpa using ho)
  rw [hz] at hsp;cases hsp
  refine zu (cs:=#[.int .u8 0,.bool false,.int .i64 0,.int .i64 0,.slice none 0 0,.int .i64 0,.bool false]) (by kernel_rfl) ?_
  refine S.stB (b:=b4) fun w5 S=>?_
  refine gG_ ?_
  exact h none 0 _ S.ext ZV
 have hlo : 0≤p.l∧p.l<g.tys.length:=by
  simp only [Bool.or_eq_false_iff,decide_eq_false_iff_not] at hi;omega
 clear hi
 have hlt0 : p.l.toNat<g.tys.length:=by omega
 obtain ⟨bt,ot,ct,rfl,hct,htc,hcell⟩:=htys.sl.get (by decide) hlt0
 obtain ⟨t0,hti⟩ : ∃ t0,g.tys[p.l.toNat]=t0:=⟨_,rfl⟩
 rw [hti] at htc
 have hq : g.tys[p.l.toNat]? = some t0:=by rw [List.getElem?_eq_getElem hlt0,hti]
 have hfi : Fine u.ss t0:=hf.all _ (List.mem_of_getElem? hq)
 obtain ⟨q0,cap1,rfl,ht0⟩:=qx htc
 have S:=S.go (Ext.drew _)
 refine gG_ ?_
 refine zH (n:=5) hct (fun j v hj=>S.at (hcell j v hj)) ?_
 refine gG_ ?_
 refine S.alU fun b5 w10 S=>?_
 refine S.stB (b:=b5) fun w11 S=>?_
 refine gG_ ?_
 have hok : decide (p.ps.length≤8)=decide ((p.ps.length : Int)≤8):=decide_eq_decide.2 (by omega)
 refine zj (ι:=Nat × TyD × Int × Option Addr × Nat) (fun i=>[.int .i64 (i.1 : Nat)]) (fun i w'=>i.1≤p.ps.length∧goG u.ss (p.ps.take i.1) (t0,0)=some (i.2.1,i.2.2.1)∧TyG r (tyV i.2.1 i.2.2.2.1 i.2.2.2.2) i.2.1∧
  StX noX w r w' [.cell b5 (spL i.2.1 i.2.2.2.1 i.2.2.2.2 i.2.2.1 (decide ((p.ps.length : Int)≤8))) 165,.cell b4 [.int .u8 0,.bool false,.int .i64 0,.int .i64 0,.slice none 0 0,.int .i64 0,.bool false] 165,.cell b3 [.int .i64 p.l,.slice qs p.ps.length caps] 80,
   .cell b2 [.slice p0 u.ss.length cap0,vf,.int .i64 u.mn,.string g.name,.int .i64 g.lv,vo,.int .i64 g.pn,.slice (some ⟨bt,ot,none⟩) g.tys.length capt,vn,vp] 143]) (fun i=>p.ps.length - i.1) (0,t0,0,q0,cap1) rfl ⟨Nat.zero_le _,rfl,ht0,S⟩ ?_
 clear S
 rintro ⟨i,s,m',q,cap⟩ d w15 ⟨hi,hgo,hs,S⟩ K6 hK6
 simp only at hi hgo hs S ⊢
 rw [List.getD_cons_zero]
 refine gG_ ?_
 refine c_b (fun hlt=>?_) (fun hge=>?_)
 rotate_left
 ·have hie : i=p.ps.length:=by
   have:=of_decide_eq_false hge;omega
  rw [hie,List.take_length] at hgo
  rw [aea hlo.1 hq hgo,hok] at hsp
  cases hsp
  refine gG_ ?_
  refine S.stB (b:=b4) fun w16 S=>?_
  refine gG_ ?_
  exact h _ _ _ S.ext hs
 have hlt : i<p.ps.length:=by simpa using hlt
 have hsf : Fine u.ss s:=J7 hf.good hfi hgo
 obtain ⟨k,hke⟩ : ∃ k,p.ps[i]=k:=⟨_,rfl⟩
 obtain ⟨bs,os,cs,rfl,hcs,hck,hcl⟩:=hl.sl.get (by decide) hlt
 rw [hke] at hck
 obtain ⟨rfl,hin⟩:=hck
 have hstep : goG u.ss (p.ps.take (i+1)) (t0,0)=stepG u.ss (s,m') k:=by
  rw [List.take_succ_eq_append_getElem hlt,Jm,hgo,hke];rfl
 refine zq (fun _ w'=>∃ s' m2 q' cap',stepG u.ss (s,m') k=some (s',m2)∧TyG r (tyV s' q' cap') s'∧
  StX noX w r w' [.cell b5 (spL s' q' cap' m2 (decide ((p.ps.length : Int)≤8))) 165,.cell b4 [.int .u8 0,.bool false,.int .i64 0,.int .i64 0,.slice none 0 0,.int .i64 0,.bool false] 165,.cell b3 [.int .i64 p.l,.slice (some ⟨bs,os,none⟩) p.ps.length caps] 80,
   .cell b2 [.slice p0 u.ss.length cap0,vf,.int .i64 u.mn,.string g.name,.int .i64 g.lv,vo,.int .i64 g.pn,.slice (some ⟨bt,ot,none⟩) g.tys.length capt,vn,vp] 143]) (fun K16 hK16=>?_) ?_
 rotate_left
 ·rintro _ w19 ⟨s',m2,q',cap',h1,h2,S⟩ d2
  refine gG_ ?_
  rw [show ((i : Int)+1)=((i+1 : Nat) : Int) by omega]
  exact hK6 (i+1,s',m2,q',cap') _ ⟨hlt,hstep.trans h1,h2,S⟩ (by show p.ps.length - (i+1)<p.ps.length - i;omega)
 refine gG_ ?_
 refine zh (v:=.int .i64 k) (by simpa using S.at (hcl 0 _ rfl)) ?_
 refine gP_ ?_
 refine S.ldN (b:=b5) ?_
 refine S.al fun b8 w20 S=>?_
 refine S.stB (b:=b8) fun w21 S=>?_
 refine gG_ ?_
 refine zi (c:=decide (s.k=3)) (fun _ K2 hK2=>?_) ?_
 ·refine gG_ ?_
  exact hK2
 have down : (s.k=3∨s.k=4)→∃ uu,s.of = [uu]:=by
  intro hk
  rcases hsf.cases with ⟨_,h1⟩|⟨uu,h1,_⟩
  ·omega
  ·exact ⟨uu,h1⟩
 refine c_b (fun hB=>?_) (fun hB=>?_)
 ·obtain ⟨hk1,hk3⟩ : k = -1∧s.k=3:=by simpa using hB
  obtain ⟨uu,hof⟩:=down (.inl hk3)
  obtain ⟨bo,oo,q2,cap2,rfl,ht2,hcc⟩:=aal hs hof
  have hl1 : s.of.length=1:=by rw [hof];rfl
  refine gG_ ?_
  refine S.st (b:=b5) fun w26 S=>?_
  refine gG_ ?_
  refine zH (n:=5) (c:=tyL uu q2 cap2) rfl (fun j v hj=>by simpa using S.at (hcc j v hj)) ?_
  refine gG_ ?_
  refine S.stN (b:=b5) fun w27 S=>?_
  refine hK16 [] _ ⟨uu,max m' 1,q2,cap2,?_,ht2,S.drop b8⟩
  rw [stepG,if_pos ⟨hk1,hk3⟩,hof];rfl
 have hB : ¬ (k = -1∧s.k=3):=by simpa using hB
 refine gG_ ?_
 refine zi (c:=decide (s.k=4)) (fun _ K2 hK2=>?_) ?_
 ·refine gG_ ?_
  exact hK2
 refine c_b (fun hR=>?_) (fun hR=>?_)
 ·obtain ⟨hk1,hk3⟩ : k = -1∧s.k=4:=by simpa using hR
  obtain ⟨uu,hof⟩:=down (.inr hk3)
  obtain ⟨bo,oo,q2,cap2,rfl,ht2,hcc⟩:=aal hs hof
  have hl1 : s.of.length=1:=by rw [hof];rfl
  refine zq (fun s' w'=>s' = [.int .i64 (if s.m then 2 else 3)]∧w'=w21) (fun K7 hK7=>?_) ?_
  ·refine gG_ ?_
   refine c_b (fun hm=>hK7 _ _ ⟨by rw [hm];rfl,rfl⟩) (fun hm=>hK7 _ _ ⟨by rw [hm];rfl,rfl⟩)
  rintro _ _ ⟨rfl,rfl⟩ d3
  refine gG_ ?_
  refine S.st (b:=b5) fun w26 S=>?_
  refine gG_ ?_
  refine zH (n:=5) (c:=tyL uu q2 cap2) rfl (fun j v hj=>by simpa using S.at (hcc j v hj)) ?_
  refine gG_ ?_
  refine S.stN (b:=b5) fun w27 S=>?_
  refine hK16 [] _ ⟨uu,max m' (if s.m then 2 else 3),q2,cap2,?_,ht2,S.drop b8⟩
  rw [stepG,if_neg (by omega),if_pos ⟨hk1,hk3⟩,hof];rfl
 have hR : ¬ (k = -1∧s.k=4):=by simpa using hR
 refine gG_ ?_
 refine zi (c:=decide (s.k=5)) (fun _ K2 hK2=>?_) ?_
 ·refine gG_ ?_
  exact hK2
 refine zi (c:=decide (k<(zg u.ss s.st).length)) (fun h5 K2 hK2=>?_) ?_
 ·obtain ⟨hk0,hk5⟩ : 0≤k∧s.k=5:=by simpa using h5
  obtain ⟨hst0,hst1⟩:=hsf.st hk5
  have hslt : s.st.toNat<u.ss.length:=by omega
  obtain ⟨b,off,q9,capq,rfl,hcell9,_,_,hfl⟩:=Zp hst hslt
  have hlen : (zg u.ss s.st).length=u.ss[s.st.toNat].fs.length:=by
   rw [← Vy hslt];simp only [zg,Int.toNat_natCast]
  refine gG_ ?_
  refine zh (S.at hcell9) ?_
  refine gG_ ?_
  rw [← hlen]
  exact hK2
 refine c_b (fun hS=>?_) (fun hS=>?_)
 ·obtain ⟨⟨hk0,hk5⟩,hkl⟩ : (0≤k∧s.k=5)∧k<(zg u.ss s.st).length:=by simpa using hS
  obtain ⟨hst0,hst1⟩:=hsf.st hk5
  have hslt : s.st.toNat<u.ss.length:=by omega
  obtain ⟨b,off,q9,capq,rfl,hcell9,_,_,hfl⟩:=Zp hst hslt
  have htl : zg u.ss s.st=u.ss[s.st.toNat].fs.map (·.2):=by
   rw [← qe hslt];simp only [zg,Int.toNat_natCast]
  have hkf : k.toNat<u.ss[s.st.toNat].fs.length:=by
   rw [htl,List.length_map] at hkl;omega
  obtain ⟨b9,off9,c9,rfl,hc9,hcell8,ht9⟩:=Ji hfl hkf
  obtain ⟨q2,cap2,rfl,ht2⟩:=qx ht9
  refine gG_ ?_
  refine zh (S.at hcell9) ?_
  refine gG_ ?_
  refine zH (n:=5) (c:=tyL _ q2 cap2) rfl (fun j v hj=>by have:=S.at (hcell8 (j+1) v hj);rwa [show off9+k.toNat*6+(j+1)=off9+k.toNat*6+1+j by omega] at this) ?_
  refine gG_ ?_
  refine S.stN (b:=b5) fun w27 S=>?_
  refine hK16 [] _ ⟨_,m',q2,cap2,?_,ht2,S.drop b8⟩
  rw [stepG,if_neg (by omega),if_neg (by omega),if_pos ⟨hk0,hk5⟩,htl,List.getElem?_map,List.getElem?_eq_getElem hkf];rfl
 have hz : zJ u.ss g.tys p=(yr,0,false):=by
  refine ad9 hlo.1 hq (i:=i+1) (hstep.trans ?_)
  rw [stepG,if_neg hB,if_neg hR]
  split
  ·rename_i h5
   rw [List.getElem?_eq_none];· rfl
   have : ¬ k<(zg u.ss s.st).length:=by
    intro hh
    have : ((decide (0≤k)&&decide (s.k=5))&&decide (k<((zg u.ss s.st).length : Int)))=true:=by simp [h5,hh]
    rw [this] at hS;cases hS
   have h50 : 0≤k:=h5.1
   show (zg u.ss s.st).length≤k.toNat
   omega
  ·rfl
 rw [hz] at hsp;cases hsp
 refine gG_ ?_
 refine S.stB (b:=b4) fun w16 S=>?_
 refine gG_ ?_
 exact h none 0 _ S.ext ZV
end Go.Proofs
end
section
namespace Go.Proofs
open Go.Sh
set_option maxRecDepth 100000
set_option linter.unusedSimpArgs false
set_option linter.unusedVariables false
theorem vL {r : Gh} {k : Int} {m : Bool} {re st : Int} : TyG r (tyV (.mk k m re st []) none 0) (.mk k m re st []):=ZV
set_option maxHeartbeats 1000000 in
theorem xv {u : UnD} {g : GrD} {o : OpD} {c : List Value} {v : Value} {w : World} {r : Gh} {K : Value→World→Prop} {t : TyD} {ok : Bool} (hr : Holds r w) (hx : AskG r v u g) (hf : Yh u.ss g.tys) (ho : OpG r c o) (hop : yc u.ss g.tys o=(t,ok))
  (h : ∀ q cap w',Ext w w'→TyG r (tyV t q cap) t→K (.tuple #[tyV t q cap,.bool ok]) w') : zd Tryz.prog Tryz.yg #[v,.agg c.toArray] w K:=by
 obtain ⟨p0,cap0,vf,vo,vt,vn,vp,rfl,hu,hg⟩:=id hx
 obtain ⟨vq,rfl,hl⟩:=ho
 obtain ⟨qs,caps,rfl,_,_⟩:=hl.sl.shape
 have hpl : PlG r [.int .i64 o.pl.l,.slice qs o.pl.ps.length caps] o.pl:=⟨_,rfl,hl⟩
 refine Tryz.Zy ?_
 unfold Tryz.qr
 have S:=St.start hr
 refine S.box fun b2 w1 S=>?_
 refine S.box fun b3 w2 S=>?_
 refine S.al fun b4 w3 S=>?_
 refine gG_ ?_
 unfold yc at hop
 refine zm (fun h1=>?_) (fun h1=>?_)
 ·rw [if_pos h1] at hop;cases hop
  refine gG_ ?_
  refine S.ldN (b:=b3) ?_
  refine kx S.holds hpl fun w4 e4=>?_
  have S:=S.go e4
  refine S.stB (b:=b4) fun w5 S=>?_
  refine gG_ ?_
  exact h none 0 _ S.ext vL
 rw [if_neg h1] at hop
 refine gG_ ?_
 refine zm (fun h2=>?_) (fun h2=>?_)
 ·rw [if_pos h2] at hop;cases hop
  have S:=S.go (Ext.drew _)
  refine gG_ ?_
  refine S.ldN (b:=b3) ?_
  refine kx S.holds hpl fun w44 e4=>?_
  have S:=S.go e4
  have fin : ∀ {w9 : World},StX noX w r w9 [.cell b4 (tyL aak none 0) 83,.cell b3 [.int .u8 o.k,.int .i64 o.n,.int .i64 o.pl.l,.slice qs o.pl.ps.length caps] 89,.cell b2 (Value.agg #[.slice p0 u.ss.length cap0,vf,.int .i64 u.mn,.string g.name,.int .i64 g.lv,vo,.int .i64 g.pn,vt,vn,vp]).cells.toList 143]→∀ x,x=(kG o.pl&&(decide (o.n=0)||decide (o.n=1)))→
    K (.tuple #[tyV aak none 0,.bool x]) w9:=by
   intro w9 S x hx
   subst hx
   exact h none 0 _ S.ext vL
  have st : ∀ {w8 : World} {K : World→Prop},StX noX w r w8 [.cell b4 [.int .u8 0,.bool false,.int .i64 0,.int .i64 0,.slice none 0 0] 83,.cell b3 [.int .u8 o.k,.int .i64 o.n,.int .i64 o.pl.l,.slice qs o.pl.ps.length caps] 89,.cell b2 (Value.agg #[.slice p0 u.ss.length cap0,vf,.int .i64 u.mn,.string g.name,.int .i64 g.lv,vo,.int .i64 g.pn,vt,vn,vp]).cells.toList 143]→
    (∀ w9,StX noX w r w9 [.cell b4 (tyL aak none 0) 83,.cell b3 [.int .u8 o.k,.int .i64 o.n,.int .i64 o.pl.l,.slice qs o.pl.ps.length caps] 89,.cell b2 (Value.agg #[.slice p0 u.ss.length cap0,vf,.int .i64 u.mn,.string g.name,.int .i64 g.lv,vo,.int .i64 g.pn,vt,vn,vp]).cells.toList 143]→K w9)→
    opU Tryz.prog w8 (Instr.storeAt 83 (.pointer (some ⟨b4,0,none⟩)) (.agg #[.int .u8 2,.bool false,.int .i64 0,.int .i64 0,.slice none 0 0])) K:=by
   intro w8 K S hK
   exact S.stB (b:=b4) fun w9 S=>hK w9 S
  cases hz : kG o.pl with
  |false=>
   (intro K9 hK9;refine gD_ ?_;refine hK9 _ _ fun _=>?_;clear hK9 K9)
   (intro K9 hK9;refine gD_ ?_;refine hK9 _ _ fun _=>?_;clear hK9 K9)
   refine ⟨?_,?_⟩
   ·(intro K9 hK9;refine gD_ ?_;refine hK9 _ _ fun _=>?_;clear hK9 K9)
    (intro K9 hK9;refine gD_ ?_;refine hK9 _ _ fun _=>?_;clear hK9 K9)
    refine gD_ ?_
    refine st S fun w9 S=>?_
    refine gG_ ?_
    exact fin S _ (by rw [hz]<;>rfl)
   ·refine st S fun w9 S=>?_
    (intro K9 hK9;refine gD_ ?_;refine hK9 _ _ fun _=>?_;clear hK9 K9)
    (intro K9 hK9;refine gD_ ?_;refine hK9 _ _ fun _=>?_;clear hK9 K9)
    refine gD_ ?_
    exact fin S _ (by rw [hz]<;>rfl)
  |true=>
   by_cases hn0 : o.n=0
   ·refine zq (fun s w'=>s = [.bool true]∧w'=w44) (fun K9 hK9=>?_) ?_
    ·refine gD_ ?_
     rw [decide_eq_true hn0]
     exact hK9 _ _ ⟨rfl,rfl⟩
    rintro _ w44 ⟨rfl,rfl⟩ d1
    (intro K9 hK9;refine gD_ ?_;refine hK9 _ _ fun _=>?_;clear hK9 K9)
    refine ⟨?_,?_⟩
    ·(intro K9 hK9;refine gD_ ?_;refine hK9 _ _ fun _=>?_;clear hK9 K9)
     (intro K9 hK9;refine gD_ ?_;refine hK9 _ _ fun _=>?_;clear hK9 K9)
     refine gD_ ?_
     refine st S fun w9 S=>?_
     refine gG_ ?_
     exact fin S _ (by rw [hz,hn0]<;>rfl)
    ·refine st S fun w9 S=>?_
     (intro K9 hK9;refine gD_ ?_;refine hK9 _ _ fun _=>?_;clear hK9 K9)
     (intro K9 hK9;refine gD_ ?_;refine hK9 _ _ fun _=>?_;clear hK9 K9)
     refine gD_ ?_
     exact fin S _ (by rw [hz,hn0]<;>rfl)
   ·refine zq (fun s w'=>s = [.bool false]∧w'=w44) (fun K9 hK9=>?_) ?_
    ·refine gD_ ?_
     rw [decide_eq_false hn0]
     exact hK9 _ _ ⟨rfl,rfl⟩
    rintro _ w44 ⟨rfl,rfl⟩ d1
    (intro K9 hK9;refine gD_ ?_;refine hK9 _ _ fun _=>?_;clear hK9 K9)
    refine ⟨?_,?_⟩
    ·refine zq (fun s w'=>s = [.bool (decide (o.n=1))]∧w'=w44) (fun K9 hK9=>?_) ?_
     ·refine gD_ ?_
      refine ahA ?_
      refine gD_ ?_
      exact hK9 _ _ ⟨rfl,rfl⟩
     rintro _ w44 ⟨rfl,rfl⟩ d1
     (intro K9 hK9;refine gD_ ?_;refine hK9 _ _ fun _=>?_;clear hK9 K9)
     refine gD_ ?_
     refine st S fun w9 S=>?_
     refine gG_ ?_
     exact fin S _ (by rw [hz,decide_eq_false hn0];first|rfl|simp)
    ·refine st S fun w9 S=>?_
     refine zq (fun s w'=>s = [.bool (decide (o.n=1))]∧w'=w9) (fun K9 hK9=>?_) ?_
     ·refine gD_ ?_
      refine ahA ?_
      refine gD_ ?_
      exact hK9 _ _ ⟨rfl,rfl⟩
     rintro _ w44 ⟨rfl,rfl⟩ d1
     (intro K9 hK9;refine gD_ ?_;refine hK9 _ _ fun _=>?_;clear hK9 K9)
     refine gD_ ?_
     exact fin S _ (by rw [hz,decide_eq_false hn0];first|rfl|simp)
 rw [if_neg h2] at hop
 obtain ⟨sty,sm,sok,hsp⟩ : ∃ sty sm sok,zJ u.ss g.tys o.pl=(sty,sm,sok):=⟨_,_,_,rfl⟩
 simp only [hsp] at hop
 refine gG_ ?_
 refine S.ldN (b:=b3) ?_
 refine yD S.holds hx hf hpl hsp fun q cap w5 e5 ht=>?_
 have S:=S.go e5
 refine S.al fun b6 w6 S=>?_
 refine S.stB (b:=b6) fun w7 S=>?_
 refine gG_ ?_
 refine zi (c:=decide (o.n=0)) (fun _ K2 hK2=>?_) ?_
 ·refine gG_ ?_
  exact hK2
 refine gG_ ?_
 refine zm (fun h3=>?_) (fun h3=>?_)
 ·rw [if_pos h3] at hop;cases hop
  have S:=S.go (Ext.drew _)
  refine gP_ ?_
  refine S.ldN (b:=b6) ?_
  refine zT (c:=qw t) (fun _ K2 hK2=>?_) fun w9 e9=>?_
  ·refine gP_ ?_
   refine S.ldN (b:=b6) ?_
   exact ZU S.holds ht fun w9 e9=>⟨e9,hK2 _ e9⟩
  have S:=S.go e9
  refine S.stB (b:=b4) fun w10 S=>?_
  refine gG_ ?_
  exact h _ _ _ S.ext ht
 rw [if_neg h3] at hop
 refine gG_ ?_
 refine zm (fun h4=>?_) (fun h4=>?_)
 ·rw [if_pos h4] at hop;cases hop
  have S:=S.go (Ext.drew _)
  refine gP_ ?_
  refine S.ldN (b:=b6) ?_
  refine zT (c:=!qw t) (fun _ K2 hK2=>?_) fun w9 e9=>?_
  ·refine gP_ ?_
   refine S.ldN (b:=b6) ?_
   refine ZU S.holds ht fun w9 e9=>⟨e9,?_⟩
   refine gP_ ?_
   exact hK2 _ e9
  have S:=S.go e9
  cases hb : ((sok&&decide (o.n=0)) && !qw t) with
  |false=>
   (intro K9 hK9;refine gD_ ?_;refine hK9 _ _ fun _=>?_;clear hK9 K9)
   refine ⟨?_,?_⟩
   ·(intro K9 hK9;refine gD_ ?_;refine hK9 _ _ fun _=>?_;clear hK9 K9)
    refine gD_ ?_
    refine S.stB (b:=b4) fun w10 S=>?_
    refine gG_ ?_
    have:=h _ _ _ S.ext ht
    rwa [hb] at this
   ·refine S.stB (b:=b4) fun w10 S=>?_
    (intro K9 hK9;refine gD_ ?_;refine hK9 _ _ fun _=>?_;clear hK9 K9)
    refine gD_ ?_
    have:=h _ _ _ S.ext ht
    rwa [hb] at this
  |true=>
   (intro K9 hK9;refine gD_ ?_;refine hK9 _ _ fun _=>?_;clear hK9 K9)
   refine ⟨?_,?_⟩
   ·refine zq (fun s w'=>s = [.bool (decide (sm<2))]∧w'=w9) (fun K9 hK9=>?_) ?_
    ·refine gD_ ?_
     refine aht ?_
     refine gD_ ?_
     exact hK9 _ _ ⟨rfl,rfl⟩
    rintro _ _ ⟨rfl,rfl⟩ d1
    refine gD_ ?_
    refine S.stB (b:=b4) fun w10 S=>?_
    refine gG_ ?_
    have:=h _ _ _ S.ext ht
    rwa [hb] at this
   ·refine S.stB (b:=b4) fun w10 S=>?_
    refine zq (fun s w'=>s = [.bool (decide (sm<2))]∧w'=w10) (fun K9 hK9=>?_) ?_
    ·refine gD_ ?_
     refine aht ?_
     refine gD_ ?_
     exact hK9 _ _ ⟨rfl,rfl⟩
    rintro _ _ ⟨rfl,rfl⟩ d1
    refine gD_ ?_
    have:=h _ _ _ S.ext ht
    rwa [hb] at this
 rw [if_neg h4] at hop;cases hop
 refine gG_ ?_
 refine S.stB (b:=b4) fun w10 S=>?_
 refine gG_ ?_
 exact h none 0 _ S.ext vL
end Go.Proofs
end
section
namespace Go.Proofs
open Go.Sh
set_option maxRecDepth 100000
set_option linter.unusedSimpArgs false
set_option linter.unusedVariables false
theorem Jn {x : Bool} {w : World} {p : Option Addr} {l : List Bool} {cap : Nat} {K : Value→World→Prop} (hl : Sl w p (l.map Value.bool)) (hb : l.length≤1000000000) (h : K (.bool (l.contains x)) w) :
  zd Tryz.prog Tryz.yC #[.slice p l.length cap,.bool x] w K:=by
 refine Tryz.qY ?_
 unfold Tryz.xE
 refine Tryz.j5 ?_
 unfold Tryz.ku
 refine gP_ ?_
 refine zj (ι:=Nat) (fun i=>[.int .i64 (i : Nat)]) (fun i w'=>w'=w∧i≤l.length∧(l.take i).contains x=false) (fun i=>l.length - i) 0 rfl ⟨rfl,Nat.zero_le _,by simp⟩ ?_
 rintro i d w' ⟨rfl,hi,hn⟩ K6 hK6
 simp only [List.getD_cons_zero]
 refine gP_ ?_
 refine zm (fun hlt=>?_) (fun hge=>?_)
 ·have hlt : i<l.length:=by omega
  obtain ⟨b,off,rfl,hc⟩:=hl.at (i:=i) (by rw [List.length_map];exact hlt)
  refine gP_ ?_
  have hv : (l.map Value.bool)[i]'(by rw [List.length_map];exact hlt) = .bool l[i]:=by simp
  rw [hv] at hc
  refine zh (by simpa using hc) ?_
  refine gP_ ?_
  have ht : (l.take (i+1)).contains x=((l.take i).contains x||(x == l[i])):=by
   rw [List.take_succ_eq_append_getElem hlt];simp only [List.contains_eq_any_beq,List.any_append,List.any_cons,List.any_nil,Bool.or_false]
  refine c_b (fun hy=>?_) (fun hno=>?_)
  ·refine gP_ ?_
   rw [show decide ((i : Int)≥0)=true by simp]
   have : l.contains x=true:=List.contains_iff_mem.2 (by rw [eq_of_beq hy];exact List.getElem_mem hlt)
   rwa [this] at h
  ·refine gP_ ?_
   refine hK6 (i+1) _ ⟨rfl,hlt,?_⟩ (by omega)
   rw [ht,hn,hno];rfl
 ·have : i=l.length:=by omega
  subst this
  rw [List.take_length] at hn
  refine gP_ ?_
  rwa [hn] at h
theorem ZY {o : OpD} {c : List Value} {w : World} {r : Gh} {K : Value→World→Prop} (hr : Holds r w) (ho : OpG r c o) (h : ∀ w',Ext w w'→K (.bool (Ye o)) w') :
  zB Tryz.prog (.func (.func Tryz.ZN) #[] #[]) #[.agg c.toArray] w K:=by
 obtain ⟨vq,rfl,hl⟩:=ho
 obtain ⟨qs,caps,rfl,_,_⟩:=hl.sl.shape
 have hpl : PlG r [.int .i64 o.pl.l,.slice qs o.pl.ps.length caps] o.pl:=⟨_,rfl,hl⟩
 refine aic (by kernel_rfl) ?_
 refine Tryz.Je ?_
 unfold Tryz.ZP
 have S:=St.start hr
 refine S.box fun b1 w1 S=>?_
 refine gG_ ?_
 refine zi (c:=decide (o.n=0)) (fun _ K2 hK2=>?_) ?_
 ·refine gG_ ?_
  exact hK2
 refine zT (c:=kG o.pl) (fun _ K2 hK2=>?_) fun w3 e3=>h _ (S.go e3).ext
 refine gP_ ?_
 refine S.ldN (b:=b1) ?_
 exact kx S.holds hpl fun w3 e3=>hK2 _ e3
abbrev aiv (h : adc) : Value:=.agg #[.bool h.to,.bool h.a,.bool h.b,.bool h.args,.bool h.sign,.bool h.fr,.bool h.mu,.bool h.fn,.bool h.st,.bool h.el]
theorem aa3 (l : List Bool) : (!l.contains false)=l.all id:=by
 induction l with
 |nil=>rfl
 |cons x l ih=>
  rw [List.contains_cons,List.all_cons,← ih]
  cases x<;>simp
set_option maxHeartbeats 1000000 in
theorem zN {p : PtD} {f : adc} {c : List Value} {w : World} {r : Gh} {K : Value→World→Prop} (hr : Holds r w) (hp : PtG r c p) (h : ∀ w',Ext w w'→K (.bool (zz p f)) w') :
  zd Tryz.prog Tryz.zI #[.agg c.toArray,aiv f] w K:=by
 obtain ⟨vt,va,vb,vl,vf,rfl,h1,h2,h3,h4,h5⟩:=hp
 obtain ⟨qt,capt,rfl,_,_⟩:=h1.sl.shape
 obtain ⟨qa,capa,rfl,_,_⟩:=h2.sl.shape
 obtain ⟨qb,capb,rfl,_,_⟩:=h3.sl.shape
 obtain ⟨ql,capl,rfl,_,_⟩:=h4.sl.shape
 obtain ⟨qf,capf,rfl,_,_⟩:=h5.sl.shape
 refine Tryz.V0 ?_
 unfold Tryz.YX
 have S:=St.start hr
 refine S.box fun b2 w1 S=>?_
 refine S.box fun b3 w2 S=>?_
 have S:=S.go (Ext.drew _)
 refine gG_ ?_
 refine xp (c:=kG p.to) (fun _ K2 hK2=>?_) fun w4 e4=>?_
 ·refine gP_ ?_
  refine S.ldN (b:=b2) ?_
  exact kx S.holds ⟨_,rfl,h1⟩ fun w3 e3=>⟨e3,hK2 _ e3⟩
 have S:=S.go e4
 refine xp (c:=Ye p.a) (fun _ K2 hK2=>?_) fun w5 e5=>?_
 ·refine gP_ ?_
  refine S.ldN (b:=b2) ?_
  exact ZY S.holds ⟨_,rfl,h2⟩ fun w3 e3=>⟨e3,hK2 _ e3⟩
 have S:=S.go e5
 refine xp (c:=Ye p.b) (fun _ K2 hK2=>?_) fun w5 e5=>?_
 ·refine gP_ ?_
  refine S.ldN (b:=b2) ?_
  exact ZY S.holds ⟨_,rfl,h3⟩ fun w3 e3=>⟨e3,hK2 _ e3⟩
 have S:=S.go e5
 refine zo (c:=decide (p.args.length=0)) (fun _ K2 hK2=>?_) ?_
 ·refine gG_ ?_
  rw [ZD]
  exact hK2
 refine zo (c:=p.sign.toList == []) (fun _ K2 hK2=>?_) ?_
 ·refine gG_ ?_
  exact hK2
 refine xp (c:=kG p.fr) (fun _ K2 hK2=>?_) fun w4 e4=>?_
 ·refine gP_ ?_
  refine S.ldN (b:=b2) ?_
  exact kx S.holds ⟨_,rfl,h5⟩ fun w3 e3=>⟨e3,hK2 _ e3⟩
 have S:=S.go e4
 refine zo (c:=!p.mu) (fun _ K2 hK2=>?_) ?_
 ·refine gG_ ?_
  exact hK2
 refine zo (c:=decide (p.fn=0)) (fun _ K2 hK2=>?_) ?_
 ·refine gG_ ?_
  exact hK2
 refine zo (c:=decide (p.st=0)) (fun _ K2 hK2=>?_) ?_
 ·refine gG_ ?_
  exact hK2
 refine zo (c:=decide (p.el=0)) (fun _ K2 hK2=>?_) ?_
 ·refine gG_ ?_
  exact hK2
 refine S.lit (e:=4) (cs:=(kj p f).map Value.bool) (by kernel_rfl) fun b80 w80 S=>?_
 refine Jn (l:=kj p f) (x:=false) (Sl.blk (S.blk b80)) (by simp [kj]) ?_
 refine gP_ ?_
 rw [aa3]
 exact h _ S.ext
end Go.Proofs
end
section
namespace Go.Sh
section
variable {w : World} {Z : Value→World→Prop} {b c : Bool}
theorem J8 {g : Bool} {A : (List Value→World→Prop)→World→Prop} {G : (List Value→World→Prop)→Prop} (hG : b=false→∀ K : List Value→World→Prop,K [.bool g] w→G K) (hA : g=true→∀ K : List Value→World→Prop,K [.bool c] w→A K w) (hZ : Z (.bool (b||(g&&c))) w) :
  za (fun K1=>gIf (.bool b) false (G K1) (K1 [undef] w)) fun s1 _ w1=>
   za (fun K2=>gIf (s1.getD 0 undef) true (A K2 w1) (K2 [undef] w1)) fun s2 _ w2=>
    za (fun K3=>gIf (.bool b) false (zb (s1.getD 0 undef) (s2.getD 0 undef) (.bool false) fun t=>K3 [t] w2) (K3 [undef] w2)) fun s3 _ w3=>
     zb (.bool b) (.bool true) (s3.getD 0 undef) fun t=>Z t w3:=by
 intro K1 hK1
 cases b with
 |true=>
  refine hK1 _ _ fun _=>?_
  intro K2 hK2
  refine hK2 _ _ fun _=>?_
  intro K3 hK3
  refine hK3 _ _ fun _=>⟨true,rfl,?_⟩
  rw [Bool.true_or] at hZ;exact hZ
 |false=>
  refine hG rfl _ (hK1 _ _ fun _=>?_)
  intro K2 hK2
  cases g with
  |true=>
   refine hA rfl _ (hK2 _ _ fun _=>?_)
   intro K3 hK3
   refine ⟨true,rfl,hK3 _ _ fun _=>⟨false,rfl,?_⟩⟩
   rw [Bool.false_or,Bool.true_and] at hZ;exact hZ
  |false=>
   refine hK2 _ _ fun _=>?_
   intro K3 hK3
   refine ⟨false,rfl,hK3 _ _ fun _=>⟨false,rfl,?_⟩⟩
   rw [Bool.false_or,Bool.false_and] at hZ;exact hZ
end
theorem abX {P : Program} {K : Value→Prop} {t e : TypeId} {n : Nat} {p : Option Addr} {len cap : Nat} {kd kd' : IntKind} {a b : Int} (h : slT P t=some (e,n)) (h0 : 0≤a) (h1 : a≤b) (h2 : b≤cap)
  (k : K (.slice (if cap=a.toNat then p else p.map (·.add (a.toNat*n))) (b.toNat - a.toNat) (cap - a.toNat))) : opP P (Instr.sliceAt t (.slice p len cap) (some (.int kd a)) (some (.int kd' b)) none) K:=by
 refine zO (fun w=>?_) k
 unfold slT at h
 cases hu : P.underlying t with
 |none=>rw [hu] at h;cases h
 |some d=>
  rw [hu] at h
  cases d<;>first|cases h|skip
  rename_i e'
  simp only [Option.map_eq_some_iff,Prod.mk.injEq] at h
  obtain ⟨m,hs,rfl,rfl⟩:=h
  have h3 : 0≤b:=by omega
  have h5 : a≤max b 0:=by omega
  simp [Instr.sliceAt,Instr.slice,Instr.sliceBounds,Instr.sliceBound,asIntOf,Sem.run_bind,zw hu,Result.andThen,Sem.run,pure,h0,h2,h3,h5,zS hs]
instance {P : Program} {t e : TypeId} {n : Nat} {p : Option Addr} {len cap : Nat} {i j : IntKind} {a b : Int} [h : SlT P t e n] : PCond P (Instr.sliceAt t (.slice p len cap) (some (.int i a)) (some (.int j b)) none) (.slice (if cap=a.toNat then p else p.map (·.add (a.toNat*n))) (b.toNat - a.toNat) (cap - a.toNat)) (0≤a∧a≤b∧b≤cap):=
 .of fun x _ k=>abX (e:=e) (n:=n) h.h x.1 x.2.1 x.2.2 k
theorem StX.holdW {X : Nat→Prop} {w0 w : World} {r : Gh} {L : List Asr} (S : StX X w0 r w L) (b : Nat) {c : List Value} {T : TypeId} {f : List Value→List Asr} [h : At b L c T f] : Holds (r.or (Go.Sh.one b c T)) w:=S.holds.or (xC (S.blk b))
end Go.Sh
namespace Go.Proofs
open Go.Sh
set_option maxRecDepth 100000
set_option linter.unusedSimpArgs false
set_option linter.unusedVariables false
section
variable {X : Nat→Prop} {w0 w : World} {r : Gh} {L : List Asr}
theorem VA {x n : Int} {b : Nat} {f : List Value→List Asr} {K : Value→World→Prop} (S : StX X w0 r w L) [At b L [.int .i64 n] 3 f] (h : K (.bool (decide (0≤x)&&decide (x<n))) w) :
  zB Tryz.prog (.func (.func Tryz.qi) #[] #[.pointer (some ⟨b,0,none⟩)]) #[.int .i64 x] w K:=by
 refine Yc (by kernel_rfl) ?_
 refine Tryz.Zx ?_
 unfold Tryz.qm
 refine gP_ ?_
 refine zi (c:=decide (x<n)) (fun _ K2 hK2=>?_) h
 refine S.ld (b:=b) ?_ rfl
 refine gP_ ?_
 exact hK2
end
theorem z7 {t : TyD} {q : Option Addr} {cap : Nat} {k : Int} {w : World} {r : Gh} {K : Value→World→Prop} (hr : Holds r w) (h : ∀ w',Ext w w'→K (.bool (isK t k)) w') :
  zB Tryz.prog (.func (.func Tryz.qj) #[] #[]) #[tyV t q cap,.int .u8 k] w K:=by
 refine aid (by kernel_rfl) ?_
 refine Tryz.Zz ?_
 unfold Tryz.qu
 have S:=St.start hr
 refine S.box fun b1 w1 S=>?_
 refine gG_ ?_
 exact h _ S.ext
theorem abY {u : UnD} {g : GrD} {o : OpD} {t : TyD} {b2 : Nat} {c c2 : List Value} {q : Option Addr} {cap : Nat} {w : World} {r : Gh} {K : Value→World→Prop} (hr : Holds r w) (hb2 : Ob r fun w=>Blk w b2 c2 143) (hx : AskG r (.agg c2.toArray) u g)
  (hc2 : c2.length=10) (hf : Yh u.ss g.tys) (ho : OpG r c o) (hc : c.length=4) (ht : TyG r (tyV t q cap) t)
  (h : ∀ w',Ext w w'→K (.bool ((yc u.ss g.tys o).2&&yh yV (yc u.ss g.tys o).1 t)) w') :
  zB Tryz.prog (.func (.func Tryz.kL) #[] #[.pointer (some ⟨b2,0,none⟩)]) #[.agg c.toArray,tyV t q cap] w K:=by
 refine aie (by kernel_rfl) ?_
 refine Tryz.vF ?_
 unfold Tryz.kM
 have S:=St.start hr
 refine S.box fun b3 w1 S=>?_
 refine S.box fun b4 w2 S=>?_
 refine zH (n:=10) (c:=c2) hc2 (fun j v hj=>by rw [Nat.zero_add,(S.at hb2).cell];exact hj) ?_
 refine S.ldB (b:=b3) ?_ hc
 obtain ⟨t1,ok,hop⟩ : ∃ t1 ok,yc u.ss g.tys o=(t1,ok):=⟨_,_,rfl⟩
 rw [hop] at h
 refine xv S.holds hx hf ho hop fun q1 cap1 w3 e3 ht1=>?_
 have S:=S.go e3
 refine gP_ ?_
 refine gP_ ?_
 refine S.al fun b6 w4 S=>?_
 refine S.stB (b:=b6) fun w5 S=>?_
 refine zT (c:=yh yV t1 t) (fun _ K2 hK2=>?_) fun w9 e9=>h _ (S.go e9).ext
 refine S.ldB (b:=b6) ?_ rfl
 refine S.ldB (b:=b4) ?_ rfl
 exact xR S.holds ht1 ht fun w9 e9=>hK2 _ e9
theorem Yi {ss : List StD} {tys : List TyD} {o : OpD} {l : List OpD} {t : TyD} {r : List TyD} : xJ ss tys (o::l) (t::r)=(((yc ss tys o).2&&yh yV (yc ss tys o).1 t)&&xJ ss tys l r):=rfl
theorem VB {ss : List StD} {tys : List TyD} : ∀ {l : List OpD} {r : List TyD},l.length≠r.length→xJ ss tys l r=false
 |[],[],h=>absurd rfl h
 |[],_::_,_=>rfl
 |_::_,[],_=>rfl
 |o::l,t::r,h=>by rw [Yi,VB (by simpa using h),Bool.and_false]
theorem TysG.up {s t : Gh} {q : Option Addr} {ts : List TyD} (h : TysG s q ts) [l : Le s t] : TysG t q ts:=fun i hi=>by
 obtain ⟨b,off,c,h1,h2,h3,h4⟩:=h i hi
 exact ⟨b,off,c,h1,h2,fun j v hj=>(h3 j v hj).up,h4.up⟩
theorem acw {r : Gh} {q : Option Addr} {n cap : Nat} {ts : List TyD} (h : SlG 5 r (TyC r) (.slice q n cap) ts) : TysG r q ts:=fun i hi=>by
 obtain ⟨b,off,c,h1,h2,h3,h4⟩:=h.get (by decide) hi
 exact ⟨b,off,c,h1,h2,h4,h3⟩
theorem afc {top : Gh} {gs : Nat→Gh} {q : Option Addr} {ts : List TyD} (h : ahx top gs q ts) : TysG (top.or (un gs 0 ts.length)) q ts:=fun i hi=>by
 obtain ⟨b,off,c,h1,h2,h3,h4,_⟩:=h.at' i hi
 exact ⟨b,off,c,h1,h2,fun j v hj=>(h3 j v hj).up,TyG.up h4 (l:=⟨fun b o hb=>.inr ⟨i,Nat.zero_le _,hi,hb⟩⟩)⟩
theorem TysG.sub {s : Gh} {q : Option Addr} {ts : List TyD} (h : TysG s q ts) {a n cap : Nat} (hc : ts.length≤cap) : TysG s (if cap=a then q else q.map (·.add (a*5))) ((ts.drop a).take n):=fun i hi=>by
 rw [List.length_take,List.length_drop] at hi
 obtain ⟨b,off,c,h1,h2,h3,h4⟩:=h (a+i) (by omega)
 refine ⟨b,off+a*5,c,?_,h2,fun j v hj=>?_,?_⟩
 ·rw [if_neg (by omega),h1,Option.map_some,xI]
 ·have:=h3 j v hj
  rwa [show off+(a+i)*5+j=off+a*5+i*5+j by omega] at this
 ·rw [List.getElem_take,List.getElem_drop];exact h4
theorem VC {u : UnD} {g : GrD} {p : PtD} {l : List TyD} {b2 b3 : Nat} {c2 c3 : List Value} {ql : Option Addr} {capl : Nat} {w : World} {r : Gh} {K : Value→World→Prop} (hr : Holds r w) (hb2 : Ob r fun w=>Blk w b2 c2 143) (hb3 : Ob r fun w=>Blk w b3 c3 92) (hx : AskG r (.agg c2.toArray) u g)
  (hc2 : c2.length=10) (hf : Yh u.ss g.tys) (hp : PtG r c3 p) (hl : TysG r ql l)
  (h : ∀ w',Ext w w'→K (.bool (xJ u.ss g.tys p.args l)) w') :
  zB Tryz.prog (.func (.func Tryz.qk) #[] #[.pointer (some ⟨b3,0,none⟩),.pointer (some ⟨b2,0,none⟩)]) #[.slice ql l.length capl] w K:=by
 refine Jh (by kernel_rfl) ?_
 refine Tryz.ZA ?_
 unfold Tryz.qv
 obtain ⟨vt,va,vb,va',vf,rfl,h1,h2,h3,h4,h5⟩:=hp
 obtain ⟨qa,capa,rfl,_,_⟩:=h4.sl.shape
 have S:=St.start hr
 have hlen:=h4.lt
 refine gP_ ?_
 refine zh (by rw [(S.at hb3).cell];rfl) ?_
 refine gP_ ?_
 refine Tryz.ym ?_
 unfold Tryz.zM
 refine gG_ ?_
 refine zm (fun hne=>?_) (fun heq=>?_)
 ·rw [VB (by omega)] at h
  exact h _ S.ext
 have heq : p.args.length=l.length:=by omega
 refine gG_ ?_
 refine zj (ι:=Nat) (fun i=>[.int .i64 (i : Nat)]) (fun i w'=>i≤p.args.length∧xJ u.ss g.tys (p.args.drop i) (l.drop i)=xJ u.ss g.tys p.args l∧StX noX w r w' []) (fun i=>p.args.length - i) 0 rfl ⟨Nat.zero_le _,rfl,S⟩ ?_
 clear S
 rintro i d w1 ⟨hi,hd,S⟩ K6 hK6
 rw [List.getD_cons_zero]
 refine gP_ ?_
 refine zm (fun hlt=>?_) (fun hge=>?_)
 ·have hlt : i<p.args.length:=by omega
  have hlt2 : i<l.length:=by omega
  obtain ⟨ba,oa,ca,rfl,hca,hao,hac⟩:=h4.sl.get (by decide) hlt
  obtain ⟨bt,ot,ct,rfl,hct,htc,hto⟩:=hl i hlt2
  obtain ⟨q2,cap2,rfl,ht2⟩:=qx hto
  rw [List.drop_eq_getElem_cons hlt,List.drop_eq_getElem_cons hlt2,Yi] at hd
  refine gP_ ?_
  refine zH (n:=4) hca (fun j v hj=>by rw [Int.toNat_natCast];exact S.at (hac j v hj)) ?_
  refine S.al fun b8 w2 S=>?_
  obtain ⟨vq,hca',hlq⟩:=id hao
  subst hca'
  obtain ⟨qs,caps,rfl,_⟩:=hlq.sl.shape
  refine S.stB (b:=b8) fun w3 S=>?_
  refine gP_ ?_
  refine zH (n:=5) hct (fun j v hj=>by rw [Int.toNat_natCast];exact S.at (htc j v hj)) ?_
  refine S.al fun b9 w4 S=>?_
  refine S.stB (b:=b9) fun w5 S=>?_
  refine S.ldB (b:=b8) ?_ rfl
  refine S.ldB (b:=b9) ?_ rfl
  refine abY S.holds hb2 hx hc2 hf hao rfl ht2 fun w6 e6=>?_
  have S:=S.go e6
  refine gP_ ?_
  refine c_b (fun hno=>?_) (fun hy=>?_)
  ·have hno : ((yc u.ss g.tys p.args[i]).2&&yh yV (yc u.ss g.tys p.args[i]).1 l[i])=false:=by rw [← Bool.not_eq_true'];exact hno
   rw [hno,Bool.false_and] at hd
   rw [← hd] at h
   exact h _ S.ext
  ·have hy : ((yc u.ss g.tys p.args[i]).2&&yh yV (yc u.ss g.tys p.args[i]).1 l[i])=true:=by rw [← Bool.not_eq_false'];exact hy
   rw [hy,Bool.true_and] at hd
   refine gP_ ?_
   rw [show ((i : Int)+1)=((i+1 : Nat) : Int) by omega]
   exact hK6 (i+1) _ ⟨hlt,hd,S.to r |>.less (fun _ _ h=>h) (List.nil_sublist _)⟩ (by omega)
 ·have hie : i=p.args.length:=by omega
  rw [hie,List.drop_length,heq,List.drop_length] at hd
  rw [← hd] at h
  exact h _ S.ext
end Go.Proofs
end
section
namespace Go.Proofs.Tryz
open Go.Sh
set_option maxRecDepth 100000
end Go.Proofs.Tryz
end
section
namespace Go.Proofs
open Go.Sh
set_option maxRecDepth 100000
set_option linter.unusedSimpArgs false
set_option linter.unusedVariables false
theorem QH {f : Int→Bool} {fv : Value} {w : World} (hf : ∀ (x : Int) (K : Value→World→Prop),K (.bool (f x)) w→zB Tryz.prog fv #[.int .i64 x] w K) {p : Option Addr} {l : List Int} {cap : Nat} {K : Value→World→Prop}
  (hl : Sl w p (ints l)) (hb : l.length≤1000000000) (h : ∀ i : Int,(0≤i↔l.any f=true)→K (.int .i64 i) w) : zd Tryz.prog Tryz.ye #[.slice p l.length cap,fv] w K:=by
 refine Tryz.xD ?_
 unfold Tryz.yI
 refine gP_ ?_
 refine zj (ι:=Nat) (fun i=>[.int .i64 i]) (fun i w'=>w'=w∧i≤l.length∧(l.take i).any f=false) (fun i=>l.length - i) 0 rfl ⟨rfl,Nat.zero_le _,by simp⟩ ?_
 rintro i d w' ⟨rfl,hi,hn⟩ K6 hK6
 simp only [List.getD_cons_zero]
 refine gP_ ?_
 refine zm (fun hlt=>?_) (fun hge=>?_)
 ·have hlt : i<l.length:=by omega
  obtain ⟨b,off,rfl,hc⟩:=hl.at (i:=i) (by rw [qZ];exact hlt)
  refine gP_ ?_
  have hv : (ints l)[i]'(by rw [qZ];exact hlt) = .int .i64 l[i]:=by simp [ints]
  rw [hv] at hc
  refine zh (by simpa using hc) ?_
  refine hf _ _ ?_
  have ht : (l.take (i+1)).any f=((l.take i).any f||f l[i]):=by
   rw [List.take_succ_eq_append_getElem hlt,List.any_append];simp only [List.any_cons,List.any_nil,Bool.or_false]
  refine c_b (fun hy=>?_) (fun hno=>?_)
  ·refine h _ ⟨fun _=>?_,fun _=>Int.natCast_nonneg _⟩
   exact List.any_eq_true.2 ⟨l[i],List.getElem_mem hlt,hy⟩
  ·refine gP_ ?_
   refine hK6 (i+1) _ ⟨rfl,hlt,?_⟩ (by omega)
   rw [ht,hn,hno];rfl
 ·have : i=l.length:=by omega
  subst this
  rw [List.take_length] at hn
  exact h _ ⟨fun h=>by omega,fun h=>by rw [hn] at h;cases h⟩
theorem qS {f : Int→Bool} {fv : Value} {w : World} (hf : ∀ (x : Int) (K : Value→World→Prop),K (.bool (f x)) w→zB Tryz.prog fv #[.int .i64 x] w K) {p : Option Addr} {l : List Int} {cap : Nat} {K : Value→World→Prop}
  (hl : Sl w p (ints l)) (hb : l.length≤1000000000) (h : K (.bool (l.any f)) w) : zd Tryz.prog Tryz.zG #[.slice p l.length cap,fv] w K:=by
 refine Tryz.xg ?_
 unfold Tryz.yq
 refine QH hf hl hb fun i hi=>?_
 refine gP_ ?_
 have e : decide (i≥0)=l.any f:=by
  by_cases hh : l.any f=true
  ·rw [hh];exact decide_eq_true (hi.2 hh)
  ·rw [Bool.eq_false_iff.2 hh];exact decide_eq_false fun h=>hh (hi.1 h)
 rw [e];exact h
end Go.Proofs
end
section
namespace Go.Proofs
open Go.Sh
set_option maxRecDepth 100000
set_option linter.unusedSimpArgs false
set_option linter.unusedVariables false
end Go.Proofs
end
section
namespace Go.Proofs
open Go.Sh
set_option linter.unusedVariables false
end Go.Proofs
end
section
namespace Go.Proofs
open Go.Sh
set_option linter.unusedVariables false
def yj (f : Nat→Nat→Bool) : List Value:=(List.range 64).map fun k=>.bool (f (k / 8) (k % 8))
theorem vM {f : Nat→Nat→Bool} : (yj f).length=64:=by rw [yj,List.length_map,List.length_range]
theorem J9 {f : Nat→Nat→Bool} {k : Nat} (h : k<64) : (yj f)[k]? = some (.bool (f (k / 8) (k % 8))):=by
 rw [yj,List.getElem?_map,List.getElem?_range h];rfl
theorem afd {f : Nat→Nat→Bool} {x y : Nat} (hx : x<8) (hy : y<8) : (yj f)[x*8+y]? = some (.bool (f x y)):=by
 rw [J9 (by omega),show (x*8+y) / 8=x by omega,show (x*8+y) % 8=y by omega]
theorem xL {f g : Nat→Nat→Bool} (h : ∀ x y,x<8→y<8→f x y=g x y) : yj f=yj g:=by
 refine List.map_congr_left fun k hk=>?_
 have:=List.mem_range.1 hk
 rw [h _ _ (by omega) (by omega)]
theorem aa4 {f : Nat→Nat→Bool} {x y : Nat} (hx : x<8) (hy : y<8) : (yj f).set (x*8+y) (.bool true)=yj fun a b=>f a b||(decide (a=x)&&decide (b=y)):=by
 refine List.ext_getElem? fun k=>?_
 by_cases hk : k<64
 ·rw [List.getElem?_set,J9 hk,J9 hk]
  by_cases e : x*8+y=k
  ·rw [if_pos e,if_pos (by rw [vM];omega)]
   subst e
   rw [show (x*8+y) / 8=x by omega,show (x*8+y) % 8=y by omega];simp
  ·rw [if_neg e]
   by_cases e1 : k / 8=x
   ·rw [decide_eq_false (show ¬ k % 8=y by omega),Bool.and_false,Bool.or_false]
   ·rw [decide_eq_false e1,Bool.false_and,Bool.or_false]
 ·rw [List.getElem?_eq_none (by rw [List.length_set,vM];omega),List.getElem?_eq_none (by rw [vM];omega)]
theorem aeb {x y : Int} {a : Int} {l : List Int} : qL x y (a::l)=((decide (a=y)&&l.contains x)||qL x y l):=rfl
theorem afe {l : List Int} {i : Nat} {x : Int} (h : i<l.length) : (l.take (i+1)).contains x=((l.take i).contains x||decide (x=l[i])):=by
 rw [List.take_succ_eq_append_getElem h,List.contains_eq_any_beq,List.any_append,← List.contains_eq_any_beq]
 simp only [List.any_cons,List.any_nil,Bool.or_false]
 congr 1
theorem aec {x y : Int} {l : List TyD} {i : Nat} (h : i<l.length) : qM (l.take (i+1)) x y=(qM (l.take i) x y||qL x y (yN l[i])):=by
 rw [List.take_succ_eq_append_getElem h,qM,List.any_append,qM]
 simp only [List.any_cons,List.any_nil,Bool.or_false]
theorem aed {x y : Int} {l : List (Int × Int)} {i : Nat} (h : i<l.length) : jr (l.take (i+1)) x y=(jr (l.take i) x y||(decide (x=l[i].1)&&decide (y=l[i].2))):=by
 rw [jr,List.take_succ_eq_append_getElem h,List.contains_eq_any_beq,List.any_append,← List.contains_eq_any_beq,← jr]
 simp only [List.any_cons,List.any_nil,Bool.or_false]
 congr 1
def jd (lv : Int) : Option (Int × Int)→List (Int × Int)→Bool
 |_,[]=>true
 |w,o::l=>(kk lv o&&(match w with|none=>true|some w=>js w o))&&jd lv (some o) l
theorem VD (lv : Int) : ∀ (l : List (Int × Int)) (w : Int × Int),jd lv (some w) l=(l.all (kk lv)&&Jl (w::l))
 |[],w=>rfl
 |o::l,w=>by
  rw [jd,VD lv l o,List.all_cons,Jl]
  cases kk lv o<;>cases js w o<;>cases l.all (kk lv)<;>simp
theorem aee (lv : Int) (l : List (Int × Int)) : jd lv none l=(l.all (kk lv)&&Jl l):=by
 cases l with
 |nil=>rfl
 |cons o l=>
  rw [jd,VD lv l o,List.all_cons]
  cases kk lv o<;>cases l.all (kk lv)<;>simp
theorem agE {lv : Int} {w : Option (Int × Int)} {l : List (Int × Int)} {i : Nat} (h : i<l.length) : jd lv w (l.drop i)=((kk lv l[i]&&(match w with|none=>true|some w=>js w l[i]))&&jd lv (some l[i]) (l.drop (i+1))):=by
 rw [List.drop_eq_getElem_cons h];rfl
theorem not_lt {o w : Int × Int} : (decide (o.1<w.1)||(decide (w.1=o.1)&&decide (o.2≤w.2))) = !js w o:=by
 unfold js
 rcases Int.lt_trichotomy o.1 w.1 with h|h|h
 ·rw [decide_eq_true h,decide_eq_false (show ¬ w.1<o.1 by omega),decide_eq_false (show ¬ w.1=o.1 by omega)];rfl
 ·rw [decide_eq_false (show ¬ o.1<w.1 by omega),decide_eq_false (show ¬ w.1<o.1 by omega),decide_eq_true (show w.1=o.1 by omega)]
  by_cases h2 : o.2≤w.2
  ·rw [decide_eq_true h2,decide_eq_false (show ¬ w.2<o.2 by omega)];rfl
  ·rw [decide_eq_false h2,decide_eq_true (show w.2<o.2 by omega)];rfl
 ·rw [decide_eq_false (show ¬ o.1<w.1 by omega),decide_eq_true (show w.1<o.1 by omega),decide_eq_false (show ¬ w.1=o.1 by omega)];rfl
theorem adf {n i : Nat} (h : i<n) : (List.range n).drop i=i::(List.range n).drop (i+1):=by
 rw [List.drop_eq_getElem_cons (by rwa [List.length_range]),List.getElem_range]
theorem Y6 {n i : Nat} {f : Nat→Bool} (h : i<n) : ((List.range n).drop i).all f=(f i&&((List.range n).drop (i+1)).all f):=by rw [adf h,List.all_cons]
theorem Y7 {n : Nat} {f : Nat→Bool} : ((List.range n).drop n).all f=true:=by rw [List.drop_of_length_le (by rw [List.length_range];exact Nat.le_refl _)];rfl
theorem VE {u : UnD} {g : GrD} {i : Nat} {t : TyD} {l : List TyD} : jc u g i (t::l)=(tyG u g i t&&jc u g (i+1) l):=rfl
theorem aef {u : UnD} {g : GrD} {i j : Nat} {l : List TyD} (h : i<l.length) : jc u g j (l.drop i)=(tyG u g j l[i]&&jc u g (j+1) (l.drop (i+1))):=by rw [List.drop_eq_getElem_cons h];rfl
theorem aa5 {u : UnD} {g : GrD} : ∀ {l : List TyD} {i : Nat},jc u g i l=true→∀ t ∈ l,mayB u.ss t=true
 |[],i,_,t,ht=>by cases ht
 |x::l,i,h,t,ht=>by
  rw [VE,Bool.and_eq_true] at h
  rcases List.mem_cons.1 ht with rfl|ht
  ·have:=h.1
   rw [tyG,Bool.and_eq_true] at this
   exact this.1
  ·exact aa5 h.2 t ht
theorem aa6 {u : UnD} {g : GrD} : ∀ {l : List TyD} {i : Nat},jc u g i l=true→∀ {j : Nat} (hj : j<l.length),((i+j : Nat) : Int)≤g.pn→∀ x ∈ yN l[j],0≤x∧x<g.lv
 |[],i,_,j,hj,_=>absurd hj (Nat.not_lt_zero _)
 |y::l,i,h,j,hj,hle=>by
  rw [VE,Bool.and_eq_true] at h
  cases j with
  |zero=>
   have:=h.1
   rw [tyG,Bool.and_eq_true,List.all_eq_true] at this
   intro x hx
   have:=this.2 x hx
   rw [if_pos (by omega)] at this
   simp only [Bool.not_eq_true',Bool.or_eq_false_iff,decide_eq_false_iff_not] at this
   omega
  |succ j=>exact aa6 h.2 (j:=j) (by simpa using hj) (by omega)
theorem Jo {l : List PtD} {i : Nat} (h : i<l.length) : yK (l.take (i+1))=yK (l.take i)+(if l[i].op=4 then 1 else 0):=by
 rw [List.take_succ_eq_append_getElem h,yK,List.countP_append,yK]
 congr 1
 rw [List.countP_singleton]
 by_cases e : l[i].op=4<;>simp [e]
end Go.Proofs
end
section
namespace Go.Proofs
open Go.Sh
set_option maxRecDepth 100000
set_option linter.unusedSimpArgs false
set_option linter.unusedVariables false
theorem Sl.tail {w : World} {p : Option Addr} {a : Int} {l : List Int} {cap : Nat} (h : Sl w p (ints (a::l))) (hc : (a::l).length≤cap) : Sl w (if cap=(1 : Int).toNat then p else p.map (·.add ((1 : Int).toNat*1))) (ints l):=fun i v hv=>by
 have h1:=h (i+1) v (by simpa [ints] using hv)
 have hi : i<l.length:=by
  have:=(List.getElem?_eq_some_iff.1 hv).1
  rwa [qZ] at this
 obtain ⟨b,off,hp,hcell⟩:=h1
 rw [List.length_cons] at hc
 rw [if_neg (show ¬ cap=(1 : Int).toNat by have : (1 : Int).toNat=1:=rfl;omega),hp,Option.map_some,xI]
 exact ⟨b,off+1,rfl,by rwa [show off+1+i=off+(i+1) by omega]⟩
abbrev fvI (b3 b4 : Nat) : Value:=.func (.func Tryz.jT) #[] #[.pointer (some ⟨b3,0,none⟩),.pointer (some ⟨b4,0,none⟩)]
abbrev adg (f : Nat→Nat→Bool) (l : List Int) : Nat→Nat→Bool:=fun x y=>f x y||qL x y l
abbrev Va (f : Nat→Nat→Bool) (a : Int) (l : List Int) : Nat→Nat→Bool:=fun x y=>f x y||(decide (a=(y : Int))&&l.contains (x : Int))
theorem abZ {b3 b4 bt : Nat} {M : List Asr} {w0 : World} {r : Gh} : ∀ (l : List Int) {p : Option Addr} {cap : Nat} {f : Nat→Nat→Bool} {w : World} {K : Value→World→Prop},(∀ x ∈ l,0≤x∧x<8)→(Ob r fun w=>Sl w p (ints l))→l.length≤cap→l.length≤1000→
  StX noX w0 r w (.cell b4 [fvI b3 b4] 95 :: .cell b3 [.pointer (some ⟨bt,0,none⟩)] 193 :: .cell bt (yj f) 191::M)→
  (∀ w',StX noX w0 r w' (.cell b4 [fvI b3 b4] 95 :: .cell b3 [.pointer (some ⟨bt,0,none⟩)] 193 :: .cell bt (yj (adg f l)) 191::M)→K (.tuple #[]) w')→
  zB Tryz.prog (fvI b3 b4) #[.slice p l.length cap] w K:=by
 intro l
 induction l with
 |nil=>
  intro p cap f w K hx hl hc hb S h
  refine Jh (by kernel_rfl) ?_
  refine Tryz.jB ?_
  unfold Tryz.kP
  refine gP_ ?_
  refine gP_ ?_
  refine c_t (by simp) ?_
  refine h _ ?_
  rw [xL (g:=f) (fun x y _ _=>by show (f x y||qL x y [])=f x y;rw [qL,Bool.or_false])]
  exact S
 |cons a l ih=>
  intro p cap f w K hx hl hc hb S h
  refine Jh (by kernel_rfl) ?_
  refine Tryz.jB ?_
  unfold Tryz.kP
  obtain ⟨ha0,ha8⟩:=hx a List.mem_cons_self
  have hxl : ∀ x ∈ l,0≤x∧x<8:=fun x h=>hx x (List.mem_cons_of_mem _ h)
  have hal : (a::l).length=l.length+1:=List.length_cons
  have hll : l.length≤1000:=by rw [List.length_cons] at hb;omega
  have hlc : l.length+1≤cap:=by rwa [List.length_cons] at hc
  have hsl : Ob r fun w=>Sl w (if cap=(1 : Int).toNat then p else p.map (·.add ((1 : Int).toNat*1))) (ints l):=fun w k=>Sl.tail (hl w k) hc
  have hlen : (a::l).length - (1 : Int).toNat=l.length:=by simp
  obtain ⟨bp,op,rfl,hcell⟩:=J2 (S.at hl) (i:=0) (by simp)
  refine gP_ ?_
  refine gP_ ?_
  refine c_f (by rw [List.length_cons];exact decide_eq_false (by omega)) ?_
  refine gP_ ?_
  rw [hlen]
  refine gP_ ?_
  obtain ⟨p2,hp2⟩ : ∃ p2,(if cap=(1 : Int).toNat then (some ⟨bp,op,none⟩ : Option Addr) else (some ⟨bp,op,none⟩ : Option Addr).map (·.add ((1 : Int).toNat*1)))=p2:=⟨_,rfl⟩
  rw [hp2] at hsl ⊢
  refine zj (ι:=Nat) (fun i=>[.int .i64 (i : Nat)]) (fun i w'=>i≤l.length∧StX noX w0 r w' (.cell b4 [fvI b3 b4] 95 :: .cell b3 [.pointer (some ⟨bt,0,none⟩)] 193 :: .cell bt (yj (Va f a (l.take i))) 191::M)) (fun i=>l.length - i) 0 rfl
   ⟨Nat.zero_le _,by
    rw [xL (f:=Va f a (l.take 0)) (g:=f) (fun x y _ _=>by simp [Va])]
    exact S⟩ ?_
  clear S
  rintro i d w1 ⟨hi,S⟩ K6 hK6
  rw [List.getD_cons_zero]
  refine gP_ ?_
  refine zm (fun hlt=>?_) (fun hge=>?_)
  ·have hlt : i<l.length:=by omega
   obtain ⟨bq,oq,rfl,hcell2⟩:=J2 (S.at hsl) hlt
   obtain ⟨hi0,hi8⟩:=hxl _ (List.getElem_mem hlt)
   have S:=S.go (Ext.drew _)
   refine gP_ ?_
   refine zh (v:=.int .i64 l[i]) (by simpa using hcell2) ?_
   refine S.ld (b:=b3) ?_ rfl
   refine gP_ ?_
   have hc0:=(S.at hl 0 (.int .i64 a) (by simp [ints]))
   refine zh (v:=.int .i64 a) (by obtain ⟨b',o',h1,h2⟩:=hc0;cases h1;simpa using h2) ?_
   refine gG_ ?_
   refine S.st (b:=bt) (fun w2 S=>?_) (by rw [vM];omega)
   refine gP_ ?_
   rw [show ((i : Int)+1)=((i+1 : Nat) : Int) by omega]
   refine hK6 (i+1) _ ⟨hlt,?_⟩ (by omega)
   rw [show 0+l[i].toNat*8+a.toNat*1=l[i].toNat*8+a.toNat by omega,aa4 (by omega) (by omega)] at S
   rw [xL (f:=Va f a (l.take (i+1))) (g:=fun x y=>Va f a (l.take i) x y||(decide (x=l[i].toNat)&&decide (y=a.toNat))) (fun x y _ _=>by
    show (f x y||(decide (a=(y : Int))&&(l.take (i+1)).contains (x : Int)))=((f x y||(decide (a=(y : Int))&&(l.take i).contains (x : Int)))||(decide (x=l[i].toNat)&&decide (y=a.toNat)))
    rw [afe hlt,show decide ((x : Int)=l[i])=decide (x=l[i].toNat) from decide_eq_decide.2 (by omega),show decide (a=(y : Int))=decide (y=a.toNat) from decide_eq_decide.2 (by omega)]
    cases f x y<;>cases decide (y=a.toNat)<;>cases (l.take i).contains (x : Int)<;>cases decide (x=l[i].toNat)<;>rfl)]
   exact S
  ·have hie : i=l.length:=by omega
   rw [hie,List.take_length] at S
   have S:=S.go (Ext.drew _)
   refine S.ld (b:=b4) ?_ rfl
   refine gP_ ?_
   rw [hlen,hp2]
   refine ih hxl hsl (by show l.length≤cap - (1 : Int).toNat;have : (1 : Int).toNat=1:=rfl;omega) hll S fun w2 S=>?_
   refine h _ ?_
   rw [xL (f:=adg f (a::l)) (g:=adg (Va f a l) l) (fun x y _ _=>by
    show (f x y||qL x y (a::l))=((f x y||(decide (a=(y : Int))&&l.contains (x : Int)))||qL x y l)
    rw [aeb,Bool.or_assoc])]
   exact S
abbrev QJ (f : Nat→Nat→Bool) (l : List TyD) : Nat→Nat→Bool:=fun x y=>f x y||qM l x y
theorem Jp {bt : Nat} {M : List Asr} {w0 : World} {r : Gh} {l : List TyD} {q : Option Addr} {cap : Nat} {f : Nat→Nat→Bool} {w : World} {K : Value→World→Prop} (hl : TysG r q l) (hn : l.length≤maxLen) (hx : ∀ t ∈ l,∀ x ∈ yN t,0≤x∧x<8)
  (S : StX noX w0 r w (.cell bt (yj f) 191::M))
  (h : ∀ w',StX noX w0 r w' (.cell bt (yj (QJ f l)) 191::M)→K (.tuple #[]) w') : zd Tryz.prog Tryz.qG #[.slice q l.length cap,.pointer (some ⟨bt,0,none⟩)] w K:=by
 refine Tryz.Qx ?_
 unfold Tryz.Zg
 have hn' : l.length≤9223372036854775807:=hn
 refine S.box fun b3 w1 S=>?_
 refine S.al fun b4 w2 S=>?_
 refine gP_ ?_
 refine S.st (b:=b4) fun w3 S=>?_
 refine gP_ ?_
 refine zj (ι:=Nat) (fun i=>[.int .i64 (i : Nat)]) (fun i w'=>i≤l.length∧StX noX w0 r w' (.cell b4 [fvI b3 b4] 95 :: .cell b3 [.pointer (some ⟨bt,0,none⟩)] 193 :: .cell bt (yj (QJ f (l.take i))) 191::M)) (fun i=>l.length - i) 0 rfl
  ⟨Nat.zero_le _,by
   rw [xL (f:=QJ f (l.take 0)) (g:=f) (fun x y _ _=>by simp [QJ,qM])]
   exact S⟩ ?_
 clear S
 rintro i d w4 ⟨hi,S⟩ K6 hK6
 rw [List.getD_cons_zero]
 refine gP_ ?_
 refine zm (fun hlt=>?_) (fun hge=>?_)
 ·have hlt : i<l.length:=by omega
  obtain ⟨b1,o1,c1,rfl,hc1,htc,hto⟩:=hl i hlt
  obtain ⟨q2,cap2,rfl,ht2⟩:=qx hto
  refine gP_ ?_
  refine zH (n:=5) hc1 (fun j v hj=>by rw [Int.toNat_natCast];exact S.at (htc j v hj)) ?_
  refine S.al fun b6 w5 S=>?_
  refine S.stB (b:=b6) fun w6 S=>?_
  have S:=S.go (Ext.drew _)
  refine S.ld (b:=b4) ?_ rfl
  refine S.ldB (b:=b6) ?_ rfl
  refine Zo S.holds ht2 fun v7 w7 e7 o7=>⟨e7,?_⟩
  obtain ⟨s1,p1,cap1,n1,nb1,rfl,_,hc1,hs1⟩:=ahs o7
  have S:=S.new e7 n1
  have S:=S.drop b6
  have hr48 : (yN l[i]).length≤1000:=by
   rw [yN];split
   ·have:=Vv (by assumption);omega
   ·simp
  refine abZ (yN l[i]) (fun x h=>hx _ (List.getElem_mem hlt) x h) hs1.up hc1 hr48 S fun w8 S=>?_
  refine gP_ ?_
  rw [show ((i : Int)+1)=((i+1 : Nat) : Int) by omega]
  refine hK6 (i+1) _ ⟨hlt,?_⟩ (by omega)
  have S:=S.to r
  rw [xL (f:=QJ f (l.take (i+1))) (g:=adg (QJ f (l.take i)) (yN l[i])) (fun x y _ _=>by
   show (f x y||qM (l.take (i+1)) x y)=((f x y||qM (l.take i) x y)||qL x y (yN l[i]))
   rw [aec hlt,Bool.or_assoc])]
  exact S
 ·have hie : i=l.length:=by omega
  rw [hie,List.take_length] at S
  exact h _ S.tl.tl
end Go.Proofs
end
section
namespace Go.Proofs
open Go.Sh
set_option maxRecDepth 100000
set_option linter.unusedSimpArgs false
set_option linter.unusedVariables false
theorem TysG.take {s : Gh} {q : Option Addr} {ts : List TyD} (h : TysG s q ts) (n : Nat) : TysG s q (ts.take n):=fun i hi=>by
 rw [List.length_take] at hi
 obtain ⟨b,off,c,h1,h2,h3,h4⟩:=h i (by omega)
 refine ⟨b,off,c,h1,h2,h3,?_⟩
 rw [List.getElem_take];exact h4
theorem Y8 {f : Nat→Nat→Bool} {a b : Nat} (ha : a<8) (hb : b<8) : (yj f)[0+((a : Nat) : Int).toNat*8+((b : Nat) : Int).toNat*1]? = some (.bool (f a b)):=by
 rw [show 0+((a : Nat) : Int).toNat*8+((b : Nat) : Int).toNat*1=a*8+b by omega]
 exact afd ha hb
abbrev syF (l : List (Int × Int)) : Nat→Nat→Bool:=fun x y=>jr l (x : Int) (y : Int)
abbrev muF (l : List TyD) : Nat→Nat→Bool:=fun x y=>qM l (x : Int) (y : Int)
def clH (sy : Nat→Nat→Bool) (a b c : Nat) : Bool:=!((sy a b&&sy b c)&&(!decide (a=c) && !sy a c))
def clG (n : Nat) (mu sy : Nat→Nat→Bool) (a b : Nat) : Bool:=(List.range n).all (clH sy a b) && !(!decide (a=b)&&(mu a b && !sy a b))
def clF (n : Nat) (mu sy : Nat→Nat→Bool) (a : Nat) : Bool:=(List.range n).all (clG n mu sy a)
theorem agF (n : Nat) (l : List TyD) (o : List (Int × Int)) : ade n (qM l) (jr o)=(List.range n).all (clF n (muF l) (syF o)):=by
 unfold ade clF clG clH;simp only [decide_not,Int.natCast_inj]
def jt (l : List (Int × Int)) (i : Nat) : Option (Int × Int):=if i=0 then none else l[i - 1]?
def aff (w : Option (Int × Int)) (o : Int × Int) : Bool:=match w with|none=>true|some w=>js w o
theorem afg {lv : Int} {l : List (Int × Int)} {i : Nat} (h : i<l.length) : jd lv (jt l i) (l.drop i)=((kk lv l[i]&&aff (jt l i) l[i])&&jd lv (jt l (i+1)) (l.drop (i+1))):=by
 rw [agE h,jt,jt,if_neg (Nat.succ_ne_zero i),Nat.add_sub_cancel,List.getElem?_eq_getElem h];rfl
set_option maxHeartbeats 2000000 in
theorem QK {g : GrD} {c : List Value} {w : World} {r : Gh} {K : Value→World→Prop} (hr : Holds r w) (hg : GrG r c g) (hlv0 : 0≤g.lv) (hlv8 : g.lv≤8) (hpn0 : 0≤g.pn) (hpn1 : g.pn<g.tys.length)
  (hx : ∀ t ∈ g.tys.take (g.pn.toNat+1),∀ x ∈ yN t,0≤x∧x<8) (h : ∀ w',Ext w w'→K (.bool (Yg g)) w') : zd Tryz.prog Tryz.qd #[.agg c.toArray] w K:=by
 obtain ⟨vo,vt,vn,vp,rfl,h1,h2,h3,h4⟩:=hg
 obtain ⟨qo,capo,rfl,_,_⟩:=h1.sl.shape
 obtain ⟨qt,capt,rfl,_,hct⟩:=h2.sl.shape
 obtain ⟨qn,capn,rfl,_,_⟩:=h3.sl.shape
 obtain ⟨qp,capp,rfl,_,_⟩:=h4.sl.shape
 have hol : g.outs.length≤9223372036854775807:=h1.few
 have htl : g.tys.length≤9223372036854775807:=h2.few
 refine Tryz.XM ?_
 unfold Tryz.vE
 have S:=St.start hr
 refine S.box fun b1 w1 S=>?_
 refine S.al fun b3 w2 S=>?_
 refine S.al fun b4 w3 S=>?_
 have S : StX noX w r w3 (.cell b3 (yj fun _ _=>false) 191 :: [.cell b4 (yj fun _ _=>false) 191,.cell b1 [.string g.name,.int .i64 g.lv,.slice qo g.outs.length capo,.int .i64 g.pn,.slice qt g.tys.length capt,.slice qn g.nms.length capn,.slice qp g.pts.length capp] 48]):=S.swap
 refine gG_ ?_
 rw [show (g.pn+1).toNat=(g.tys.take (g.pn.toNat+1)).length by rw [List.length_take];omega]
 refine Jp (l:=g.tys.take (g.pn.toNat+1)) ((acw h2.sl).take _) (by rw [List.length_take];have:=h2.few;omega) hx S fun w4 S=>?_
 have S : StX noX w r w4 ([.cell b3 (yj (muF (g.tys.take (g.pn.toNat+1)))) 191,.cell b4 (yj fun _ _=>false) 191,.cell b1 [.string g.name,.int .i64 g.lv,.slice qo g.outs.length capo,.int .i64 g.pn,.slice qt g.tys.length capt,.slice qn g.nms.length capn,.slice qp g.pts.length capp] 48]):=by
  rw [xL (f:=muF (g.tys.take (g.pn.toNat+1))) (g:=QJ (fun _ _=>false) (g.tys.take (g.pn.toNat+1))) (fun x y _ _=>(Bool.false_or _).symm)]
  exact S
 rw [Yg,← aee,agF] at h
 generalize hmu : muF (g.tys.take (g.pn.toNat+1))=mu at h S
 refine gG_ ?_
 refine zj (ι:=Nat) (fun i=>[.int .i64 (i : Nat)]) (fun i w'=>i≤g.outs.length∧jd g.lv (jt g.outs i) (g.outs.drop i)=jd g.lv none g.outs∧
  StX noX w r w' ([.cell b3 (yj mu) 191,.cell b4 (yj (syF (g.outs.take i))) 191,.cell b1 [.string g.name,.int .i64 g.lv,.slice qo g.outs.length capo,.int .i64 g.pn,.slice qt g.tys.length capt,.slice qn g.nms.length capn,.slice qp g.pts.length capp] 48])) (fun i=>g.outs.length - i) 0 rfl
  ⟨Nat.zero_le _,rfl,by
   rw [xL (f:=syF (g.outs.take 0)) (g:=fun _ _=>false) (fun x y _ _=>by simp [syF,jr])]
   exact S⟩ ?_
 clear S
 rintro i d w5 ⟨hi,hd,S⟩ K6 hK6
 rw [List.getD_cons_zero]
 refine gP_ ?_
 refine zm (fun hlt=>?_) (fun hge=>?_)
 ·have hlt : i<g.outs.length:=by omega
  obtain ⟨bo,oo,co,rfl,hco,hoo,hoc⟩:=h1.sl.get (by decide) hlt
  obtain rfl : co=_:=hoo
  rw [afg hlt] at hd
  have hgo:=fun (j : Nat) (hj : j<g.outs.length)=>h1.sl.get (by decide) hj
  obtain ⟨⟨o1,o2⟩,ho⟩ : ∃ o,g.outs[i]=o:=⟨_,rfl⟩
  rw [ho] at hd
  have hst : syF (g.outs.take (i+1))=fun x y=>syF (g.outs.take i) x y||(decide ((x : Int)=o1)&&decide ((y : Int)=o2)):=by
   funext x y
   show jr _ _ _=(jr _ _ _||_)
   rw [aed hlt,ho]
  refine gP_ ?_
  refine zH (n:=2) hco (fun j v hj=>by rw [Int.toNat_natCast];exact S.at (hoc j v hj)) ?_
  rw [ho]
  refine S.al fun b6 w6 S=>?_
  refine S.stB (b:=b6) fun w7 S=>?_
  refine gG_ ?_
  refine zo (c:=decide (g.lv≤max o1 o2)) (fun _ K2 hK2=>?_) ?_
  ·refine gG_ ?_
   exact hK2
  refine zo (c:=decide (o1=o2)) (fun _ K2 hK2=>?_) ?_
  ·refine gG_ ?_
   exact hK2
  refine c_b (fun hbad=>?_) (fun hgood=>?_)
  ·have hin : kk g.lv (o1,o2)=false:=by rw [kk,hbad];rfl
   rw [hin,Bool.false_and,Bool.false_and] at hd
   rw [← hd,Bool.false_and] at h
   exact h _ S.ext
  have hin : kk g.lv (o1,o2)=true:=by rw [kk,hgood];rfl
  rw [hin,Bool.true_and] at hd
  have hrg : (0≤o1∧o1<8)∧(0≤o2∧o2<8):=by
   simp only [Bool.or_eq_false_iff,decide_eq_false_iff_not] at hgood;omega
  clear hgood hin
  obtain ⟨⟨ho10,ho18⟩,ho20,ho28⟩:=hrg
  refine zq (fun _ w'=>aff (jt g.outs i) (o1,o2)=true∧StX noX w r w' ([.cell b6 [.int .i64 o1,.int .i64 o2] 195,.cell b3 (yj mu) 191,.cell b4 (yj (syF (g.outs.take i))) 191,.cell b1 [.string g.name,.int .i64 g.lv,.slice (some ⟨bo,oo,none⟩) g.outs.length capo,.int .i64 g.pn,.slice qt g.tys.length capt,.slice qn g.nms.length capn,.slice qp g.pts.length capp] 48])) (fun K9 hK9=>?_) ?_
  ·refine gP_ ?_
   refine zm (fun hpos=>?_) (fun hz=>?_)
   ·have hpos : 0<i:=by omega
    have hlt2 : i - 1<g.outs.length:=by omega
    obtain ⟨bo2,oo2,co2,hbe,hco2,hoo2,hoc2⟩:=h1.sl.get (by decide) hlt2
    obtain rfl : co2=_:=hoo2
    cases hbe
    have hpv : jt g.outs i=some g.outs[i - 1]:=by rw [jt,if_neg (by omega),List.getElem?_eq_getElem hlt2]
    rw [hpv] at hd hK9
    obtain ⟨⟨p1,p2⟩,hp⟩ : ∃ o,g.outs[i - 1]=o:=⟨_,rfl⟩
    rw [hp] at hd hK9
    refine gG_ ?_
    refine zH (n:=2) hco2 (fun j v hj=>by rw [show ((i : Int) - 1).toNat=i - 1 by omega];exact S.at (hoc2 j v hj)) ?_
    rw [hp]
    refine S.al fun b7 w8 S=>?_
    refine S.stB (b:=b7) fun w9 S=>?_
    refine gG_ ?_
    refine J8 (g:=decide (p1=o1)) (c:=decide (o2≤p2)) (fun _ K2 hK2=>?_) (fun _ K2 hK2=>?_) ?_
    ·refine gG_ ?_
     exact hK2
    ·refine gG_ ?_
     exact hK2
    rw [not_lt (o:=(o1,o2)) (w:=(p1,p2))]
    refine c_b (fun hb=>?_) (fun hb=>?_)
    ·have hb : js (p1,p2) (o1,o2)=false:=by simpa using hb
     rw [show aff (some (p1,p2)) (o1,o2)=js (p1,p2) (o1,o2) from rfl,hb,Bool.false_and] at hd
     rw [← hd,Bool.false_and] at h
     exact h _ S.ext
    ·have hb : js (p1,p2) (o1,o2)=true:=by simpa using hb
     exact hK9 _ _ ⟨hb,S.drop b7⟩
   ·have hz : i=0:=by omega
    refine hK9 _ _ ⟨?_,S⟩
    rw [hz];rfl
  clear S
  rintro _ w10 ⟨haf,S⟩ d10
  have S:=S.go (Ext.drew _)
  rw [haf,Bool.true_and] at hd
  refine gG_ ?_
  refine S.st (b:=b4) (fun w11 S=>?_) (by rw [vM];omega)
  refine gP_ ?_
  rw [show ((i : Int)+1)=((i+1 : Nat) : Int) by omega]
  refine hK6 (i+1) _ ⟨hlt,hd,?_⟩ (by omega)
  rw [show 0+o1.toNat*8+o2.toNat*1=o1.toNat*8+o2.toNat by omega,aa4 (by omega) (by omega)] at S
  rw [hst,xL (f:=fun x y=>syF (g.outs.take i) x y||(decide ((x : Int)=o1)&&decide ((y : Int)=o2))) (g:=fun x y=>syF (g.outs.take i) x y||(decide (x=o1.toNat)&&decide (y=o2.toNat))) (fun x y _ _=>by
   show (syF (g.outs.take i) x y||(decide ((x : Int)=o1)&&decide ((y : Int)=o2)))=(syF (g.outs.take i) x y||(decide (x=o1.toNat)&&decide (y=o2.toNat)))
   rw [show decide ((x : Int)=o1)=decide (x=o1.toNat) from decide_eq_decide.2 (by omega),show decide ((y : Int)=o2)=decide (y=o2.toNat) from decide_eq_decide.2 (by omega)])]
  exact S.drop b6
 have hie : i=g.outs.length:=by omega
 rw [hie,List.take_length] at S
 rw [hie,List.drop_length] at hd
 rw [← hd,show jd g.lv (jt g.outs g.outs.length) []=true from by rw [jd],Bool.true_and] at h
 clear hd hK6 K6 hie hge hi
 generalize hsy : syF g.outs=sy at h S
 obtain ⟨n,hn⟩ : ∃ n : Nat,g.lv.toNat=n:=⟨_,rfl⟩
 have hn8 : n≤8:=by omega
 have hlvn : g.lv=(n : Int):=by omega
 rw [hn] at h
 refine gG_ ?_
 refine zj (ι:=Nat) (fun i=>[.int .i64 (i : Nat)]) (fun i w'=>i≤n∧((List.range n).drop i).all (clF n mu sy)=(List.range n).all (clF n mu sy)∧
  StX noX w r w' ([.cell b3 (yj mu) 191,.cell b4 (yj sy) 191,.cell b1 [.string g.name,.int .i64 g.lv,.slice qo g.outs.length capo,.int .i64 g.pn,.slice qt g.tys.length capt,.slice qn g.nms.length capn,.slice qp g.pts.length capp] 48])) (fun i=>n - i) 0 rfl
  ⟨Nat.zero_le _,rfl,S⟩ ?_
 clear S
 rintro a d2 w12 ⟨ha,hda,S⟩ K7 hK7
 rw [List.getD_cons_zero,hlvn]
 refine gP_ ?_
 refine zm (fun hlta=>?_) (fun hgea=>?_)
 rotate_left
 ·have hae : a=n:=by omega
  rw [hae,Y7] at hda
  rw [← hda] at h
  exact h _ S.ext
 have hlta : a<n:=by omega
 rw [Y6 hlta] at hda
 refine gG_ ?_
 refine zj (ι:=Nat) (fun i=>[.int .i64 (i : Nat)]) (fun i w'=>i≤n∧((List.range n).drop i).all (clG n mu sy a)=(List.range n).all (clG n mu sy a)∧
  StX noX w r w' ([.cell b3 (yj mu) 191,.cell b4 (yj sy) 191,.cell b1 [.string g.name,.int .i64 g.lv,.slice qo g.outs.length capo,.int .i64 g.pn,.slice qt g.tys.length capt,.slice qn g.nms.length capn,.slice qp g.pts.length capp] 48])) (fun i=>n - i) 0 rfl
  ⟨Nat.zero_le _,rfl,S⟩ ?_
 clear S
 rintro b d3 w13 ⟨hb,hdb,S⟩ K8 hK8
 rw [List.getD_cons_zero,hlvn]
 refine gP_ ?_
 refine zm (fun hltb=>?_) (fun hgeb=>?_)
 rotate_left
 ·have hbe : b=n:=by omega
  rw [hbe,Y7] at hdb
  have hF : clF n mu sy a=true:=hdb.symm
  rw [hF,Bool.true_and] at hda
  refine gP_ ?_
  rw [show ((a : Int)+1)=((a+1 : Nat) : Int) by omega]
  exact hK7 (a+1) _ ⟨hlta,hda,S⟩ (by omega)
 have hltb : b<n:=by omega
 rw [Y6 hltb] at hdb
 refine gG_ ?_
 refine zj (ι:=Nat) (fun i=>[.int .i64 (i : Nat)]) (fun i w'=>i≤n∧((List.range n).drop i).all (clH sy a b)=(List.range n).all (clH sy a b)∧
  StX noX w r w' ([.cell b3 (yj mu) 191,.cell b4 (yj sy) 191,.cell b1 [.string g.name,.int .i64 g.lv,.slice qo g.outs.length capo,.int .i64 g.pn,.slice qt g.tys.length capt,.slice qn g.nms.length capn,.slice qp g.pts.length capp] 48])) (fun i=>n - i) 0 rfl
  ⟨Nat.zero_le _,rfl,S⟩ ?_
 clear S
 have hfalse : clG n mu sy a b=false→(List.range n).all (clF n mu sy)=false:=fun e=>by
  rw [e,Bool.false_and] at hdb
  have hF : clF n mu sy a=false:=hdb.symm
  rw [hF,Bool.false_and] at hda
  exact hda.symm
 rintro cc d4 w14 ⟨hc,hdc,S⟩ K9 hK9
 rw [List.getD_cons_zero,hlvn]
 refine gP_ ?_
 refine zm (fun hltc=>?_) (fun hgec=>?_)
 ·have hltc : cc<n:=by omega
  rw [Y6 hltc] at hdc
  refine gP_ ?_
  refine gP_ ?_
  refine S.ld (b:=b4) ?_ (Y8 (f:=sy) (by omega) (by omega))
  refine zi (c:=sy b cc) (fun _ K2 hK2=>?_) ?_
  ·refine gP_ ?_
   refine gP_ ?_
   refine S.ld (b:=b4) ?_ (Y8 (f:=sy) (by omega) (by omega))
   exact hK2
  refine zi (c:=decide (a≠cc)) (fun _ K2 hK2=>?_) ?_
  ·refine gP_ ?_
   rw [show decide ((a : Int)≠(cc : Int))=decide (a≠cc) from decide_eq_decide.2 (by omega)]
   exact hK2
  refine zi (c:=!sy a cc) (fun _ K2 hK2=>?_) ?_
  ·refine gP_ ?_
   refine gP_ ?_
   refine S.ld (b:=b4) ?_ (Y8 (f:=sy) (by omega) (by omega))
   refine gP_ ?_
   exact hK2
  have hH : clH sy a b cc = !(((sy a b&&sy b cc)&&decide (a≠cc)) && !sy a cc):=by
   rw [clH,Bool.and_assoc (sy a b&&sy b cc),decide_not]
  refine c_b (fun hbad=>?_) (fun hgood=>?_)
  ·rw [hH,hbad] at hdc
   have hA : (List.range n).all (clH sy a b)=false:=by rw [← hdc];rfl
   rw [hfalse (by rw [clG,hA,Bool.false_and])] at h
   exact h _ S.ext
  ·rw [hH,hgood,Bool.not_false,Bool.true_and] at hdc
   refine gP_ ?_
   rw [show ((cc : Int)+1)=((cc+1 : Nat) : Int) by omega]
   exact hK9 (cc+1) _ ⟨hltc,hdc,S⟩ (by omega)
 have hce : cc=n:=by omega
 rw [hce,Y7] at hdc
 refine gP_ ?_
 refine zi (c:=mu a b) (fun _ K2 hK2=>?_) ?_
 ·refine gP_ ?_
  refine gP_ ?_
  refine S.ld (b:=b3) ?_ (Y8 (f:=mu) (by omega) (by omega))
  exact hK2
 refine zi (c:=!sy a b) (fun _ K2 hK2=>?_) ?_
 ·refine gP_ ?_
  refine gP_ ?_
  refine S.ld (b:=b4) ?_ (Y8 (f:=sy) (by omega) (by omega))
  refine gP_ ?_
  exact hK2
 have hG : clG n mu sy a b = !((decide ((a : Int)≠(b : Int))&&mu a b) && !sy a b):=by
  rw [clG,← hdc,Bool.true_and,Bool.and_assoc,show decide ((a : Int)≠(b : Int)) = !decide (a=b) from by rw [← decide_not];exact decide_eq_decide.2 (by omega)]
 refine c_b (fun hbad=>?_) (fun hgood=>?_)
 ·rw [hfalse (by rw [hG,hbad];rfl)] at h
  exact h _ S.ext
 ·rw [hG,hgood,Bool.not_false,Bool.true_and] at hdb
  refine gP_ ?_
  rw [show ((b : Int)+1)=((b+1 : Nat) : Int) by omega]
  exact hK8 (b+1) _ ⟨hltb,hdb,S⟩ (by omega)
end Go.Proofs
end
section
namespace Go.Sh
open Go.RowKit
end Go.Sh
end
section
namespace Go.Proofs
open Go.Sh
set_option maxRecDepth 100000
set_option linter.unusedSimpArgs false
set_option linter.unusedVariables false
end Go.Proofs
end
section
namespace Go.Sh
open Go.RowKit Go.MapKept
set_option linter.unusedVariables false
def zr1 (P : Program) (t : TypeId) : Option Value:=(P.info? t).bind fun i=>i.zero
theorem VF {P : Program} {t : TypeId} {z : Value} (hz : zr1 P t=some z) (w : World) : (zeroValue t).run P w = .ok z w:=by
 unfold zr1 at hz
 cases hi : P.info? t with
 |none=>rw [hi] at hz;cases hz
 |some i=>
  rw [hi] at hz
  have hz : i.zero=some z:=hz
  simp [zeroValue,typeInfo,Sem.run,pure,hi,hz,Sem.run_bind,Result.andThen]
def mpT (P : Program) (t : TypeId) : Option (TypeId × TypeId):=match P.underlying t with
 |some (.map k e)=>(match P.underlying k with|some .string=>some (k,e)|_=>none)
 |_=>none
theorem aa7 {P : Program} {t k e : TypeId} (h : mpT P t=some (k,e)) : P.underlying t=some (.map k e)∧P.underlying k=some .string:=by
 unfold mpT at h
 split at h
 ·rename_i k' e' h1
  split at h
  ·rename_i h2
   cases h;exact ⟨h1,h2⟩
  ·cases h
 ·cases h
def Yj (x : ByteArray) : List MapEntry→Option Value
 |[]=>none
 |m::l=>match m.key with|.string s=>if x == s then some m.val else Yj x l|_=>Yj x l
def afh (l : List MapEntry) : Prop:=∀ m ∈ l,∃ s,m.key = .string s
theorem QL {x : ByteArray} : ∀ {l : List MapEntry} {i : Nat},afh l→∃ o,Instr.findNow .string (.string x) l i=some o∧o.map (·.2)=Yj x l
 |[],i,_=>⟨none,rfl,rfl⟩
 |m::l,i,h=>by
  obtain ⟨s,hs⟩:=h m List.mem_cons_self
  cases hx : (x == s) with
  |true=>
   refine ⟨some (i,m.val),?_,?_⟩
   ·rw [Instr.findNow,hs]
    simp [Instr.sameNow,hx]
   ·rw [Yj,hs];simp [hx]
  |false=>
   obtain ⟨o,h1,h2⟩:=QL (x:=x) (l:=l) (i:=i+1) fun y hy=>h y (List.mem_cons_of_mem _ hy)
   refine ⟨o,?_,?_⟩
   ·rw [Instr.findNow,hs]
    simp [Instr.sameNow,hx,h1]
   ·rw [h2,Yj,hs];simp [hx]
theorem aeg (x y : ByteArray) : (x == y)=(x.toList == y.toList):=by
 rw [show (x == y)=(x.data == y.data) by cases x;cases y;rfl,ByteArray.toList_eq,ByteArray.toList_eq,Bool.eq_iff_iff,beq_iff_eq,beq_iff_eq,Array.toList_inj]
section
variable {P : Program} {X : Nat→Prop} {w0 w : World} {r : Gh} {L : List Asr} {t k e : TypeId} {b c : Nat} {es : Array MapEntry}
theorem StX.addO (S : StX X w0 r w L) {w' : World} (ex : Ext w w') {o : Obj} (hb : w.heap.size≤b) (B : w'.heap[b]? = some o) (ho : Obj.isBook o=false) : StX X w0 r w' (.obj b (· = o)::L):=by
 have S':=S.go ex
 refine ⟨S'.x,S'.holds,?_,?_,.cons ?_ S'.apart⟩
 ·intro x hx;rcases List.mem_cons.1 hx with rfl|hx
  ·exact ⟨o,B,ho,rfl⟩
  ·exact S'.has x hx
 ·intro x hx;rcases List.mem_cons.1 hx with rfl|hx
  ·rintro k rfl
   exact ⟨.inl (by have:=S.x.size;omega),fun o ho=>by have:=S.holds.lt ho;omega⟩
  ·exact S'.mine x hx
 ·rintro y hy k rfl hk
  have:=Asr.lt (S.has y hy) hk;omega
theorem StX.mkMap (S : StX X w0 r w L) {K : Value→World→Prop} (h : ∀ b w',StX X w0 r w' (.obj b (· = .map #[] 0)::L)→K (.map (some b)) w') : opW P w (Instr.makeMap t none) K:=by
 refine ⟨.map (some w.heap.size),{ w with heap:=w.heap.push (.map #[] 0) },?_,h _ _ (S.addO ?_ (Nat.le_refl _) ?_ rfl)⟩
 ·simp [Instr.makeMap,newObj,Sem.run_bind,Sem.run,pure,Result.andThen]
  try rfl
 ·exact ⟨rfl,rfl,rfl,by simp,fun b hb=>by simp [Array.getElem?_push,Nat.ne_of_lt hb]⟩
 ·simp
theorem StX.mapAdd (S : StX X w0 r w (.obj b (· = .map es c)::L)) {x : ByteArray} {v : Value} (ht : mpT P t=some (k,e)) (hs : afh es.toList) (hn : Yj x es.toList=none) {K : World→Prop}
  (h : ∀ w',StX X w0 r w' (.obj b (· = .map (es.push { key:=.string x,val:=v,born:=c }) (c+1))::L)→K w') : opU P w (Instr.mapUpdate t (.map (some b)) (.string x) v) K:=by
 obtain ⟨ht,hk⟩:=aa7 ht
 obtain ⟨o,hb,_,rfl⟩:=S.has _ List.mem_cons_self
 obtain ⟨o,h1,h2⟩:=QL (x:=x) (i:=0) hs
 have h3 : o=none:=by
  rw [hn] at h2
  cases o with
  |none=>rfl
  |some y=>cases h2
 subst h3
 have hf:=run_findKey (w:=w) hk h1
 refine ⟨{ w with heap:=w.heap.setIfInBounds b (.map (es.push { key:=.string x,val:=v,born:=c }) (c+1)) },?_,h _ ?_⟩
 ·simp [Instr.mapUpdate,run_underlying ht,MapKept.run_getObj_map hb,run_checkKey (w:=w) hk (k:=.string x) trivial false 9999,hf,MapKept.run_setObj_map _ hb,Result.andThen]
 ·obtain ⟨e1,e2⟩:=heap_set hb (o':=.map (es.push { key:=.string x,val:=v,born:=c }) (c+1))
  exact S.turn (p:=[]) (x:=.obj b (· = .map es c)) (y:=.obj b (· = .map (es.push { key:=.string x,val:=v,born:=c }) (c+1))) ⟨rfl,rfl,rfl,by simp,fun k _ hk=>e2 k hk⟩ ⟨_,e1,rfl,rfl⟩ fun k hk=>.inl hk
theorem StX.mapGet (S : StX X w0 r w (.obj b (· = .map es c)::L)) {x : ByteArray} {z : Value} (ht : mpT P t=some (k,e)) (hz : zr1 P e=some z) (hs : afh es.toList) {K : Value→Prop} (h : K ((Yj x es.toList).getD z)) :
  opQ P w (Instr.lookup t (.map (some b)) (.string x) false) K:=by
 obtain ⟨ht,hk⟩:=aa7 ht
 obtain ⟨o,hb,_,rfl⟩:=S.has _ List.mem_cons_self
 obtain ⟨o,h1,h2⟩:=QL (x:=x) (i:=0) hs
 refine ⟨_,fun w' ex=>?_,h⟩
 have hb' : w'.heap[b]? = some (.map es c):=(ex.block b (Array.getElem?_eq_some_iff.1 hb).1).trans hb
 have hf:=run_findKey (w:=w') hk h1
 rw [← h2]
 cases o with
 |none=>simp [Instr.lookup,run_underlying ht,MapKept.run_getObj_map hb',run_checkKey (w:=w') hk (k:=.string x) trivial _ 9999,hf,VF hz,Result.andThen]
 |some y=>simp [Instr.lookup,run_underlying ht,MapKept.run_getObj_map hb',run_checkKey (w:=w') hk (k:=.string x) trivial _ 9999,hf,Result.andThen]
end
end Go.Sh
end
