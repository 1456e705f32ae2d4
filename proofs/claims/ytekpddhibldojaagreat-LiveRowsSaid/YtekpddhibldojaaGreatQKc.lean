/-
  Contracts: Anew of types.
  Contracts: laid, Number, Anew of the document's answer.
  Structs as data; what stands in what: the plain laws.
  Contracts: words, endless, first of package types.
  Contracts: Structs, May, Words, Drops of package types.
  Contracts: the document's answer: plain, endless, words, Structs, May, Words, Drops, Copies.
  Contracts: the document's answer: endless, Structs, May, Words, Drops.
  Contracts: fits; a struct's fields in new memory, of both sides.
  A law's end: the answer is true, the input reads as it did.
  Whatever an argument reads as, it is a datum: one theorem for all types of numbers, texts, structs and slices.
  Lists in memory, of whatever things: what a slice tells, read and grown.
  Data that are of a type, taken apart; what slices of data tell.
  Programs as graphs, as data; what a memory tells of them.
  A step of a kind, told by its kind alone.
  Texts of places, operands and points: as plain lists of bytes; how long they are.
  Contracts of the library, laid at this program (by the kit's own tools).
  Shallow readings of functions. Made by a program (wip/gen/gen.py) out of the translation; the kernel checks each equality.
  A strings.Builder that a call has made itself: what it holds, and what it tells.
  Shallow readings of functions. Made by a program (wip/gen/gen.py) out of the translation; the kernel checks each equality.
  Texts of places and operands, of both sides.
  Texts of operands and of lists of operands, of both sides.
  Which programs may be: the plain law.
  Which programs may be: what is walked may be, plain facts.
  Regions of a graph: the plain law.
  Regions of a type turned, erased: step by step.
  Contracts: zero, the type of a place of a graph.
  Contracts: the type of an operand of a graph.
  Contracts: which fields a point may have.
  Contracts: the functions that stand in point.
  Shallow readings of functions. Made by a program (wip/gen/gen.py) out of the translation; the kernel checks each equality.
  Contracts: regions of a type turned, erased, of both sides.
  Regions laid anew and numbered twice; words and drops of fields: the plain laws.
  Regions numbered: plain facts, one by one.
  Heads of graphs: plain facts, and what the tables hold.
  Contracts: what types imply.
-/
import Derived.Test.YtekpddhibldojaaGreatQKb
import Derived.Test.YtekpddhibldojaaGreatQKa
import Derived.ChangeSame
import Derived.ChangeStays
import Derived.ReadAgain
import Derived.ProofKit
import Derived.OpenShut
import Derived.Deep.DeepHandedRow
import Derived.Lib.LaidTab
import Derived.Lib.SmallJoins
import Derived.ChangeArms
import Derived.DataReads
import Derived.Lib.ItoaLen
import Derived.Shelf.Strings.Builder1
import Derived.Shelf.Strings.OnBuilder
import Derived.Shelf.Small.Wraps
import Derived.Shelf.Strconv.Itoa3
import Derived.Shelf.Strconv.Itoa4
import Derived.Shelf.Slices.CompactI
import Derived.Test.YtekpddhibldojaaGreatProg
import Derived.KernelRfl
section
namespace Go.Proofs
open Go.Sh
set_option maxRecDepth 100000
set_option linter.unusedSimpArgs false
set_option linter.unusedVariables false
theorem Yd {w : World} {p : Option Addr} {l : List Int} (h : Sl w p (ints l)) {i : Nat} (hi : i<l.length) : ∃ b off,p=some ⟨b,off,none⟩∧w.cell? ⟨b,off+i,none⟩=some (.int .i64 l[i]):=by
 obtain ⟨b,off,hp,hc⟩:=h.at (i:=i) (by rw [jx];exact hi)
 refine ⟨b,off,hp,?_⟩
 rw [hc];simp [ints]
end Go.Proofs
end
section
namespace Go.Proofs
open Go.Sh
set_option maxRecDepth 100000
set_option linter.unusedSimpArgs false
set_option linter.unusedVariables false
end Go.Proofs
end
section
namespace Go.Proofs
open Go.Sh
set_option maxRecDepth 100000
set_option linter.unusedSimpArgs false
set_option linter.unusedVariables false
structure StD where
 name : ByteArray
 fs : List (ByteArray × TyD)
def aeH (f : ByteArray × TyD) : Dat:=.agg [.str f.1,f.2.dat]
def StD.dat (s : StD) : Dat:=.agg [.str s.name,.sl 6 (s.fs.map aeH)]
def FlG (r : Gh) (p : Option Addr) (fs : List (ByteArray × TyD)) : Prop:=RepS r 6 p 0 (fs.map aeH)
def StG (r : Gh) (p : Option Addr) (ss : List StD) : Prop:=RepS r 2 p 0 (ss.map StD.dat)
theorem StG.up {r s : Gh} {p : Option Addr} {ss : List StD} (h : StG r p ss) [l : Le r s] : StG s p ss:=RepS.up' l h
theorem qd {r : Gh} {p : Option Addr} {fs : List (ByteArray × TyD)} (h : FlG r p fs) {k : Nat} (hk : k<fs.length) : ∃ b off c,p=some ⟨b,off,none⟩∧c.length=5∧
  (∀ j v,(Value.string fs[k].1::c)[j]? = some v→Ob r fun w=>w.cell? ⟨b,off+k*6+j,none⟩=some v)∧TyG r (.agg c.toArray) fs[k].2:=by
 obtain ⟨c,h1,h2,h3⟩:=RepS.get h (i:=k) (d:=aeH fs[k]) (by rw [List.getElem?_map,List.getElem?_eq_getElem hk];rfl)
 obtain ⟨a1,b1,rfl,e1,a2,b2,rfl,e2,e3⟩:=h3
 obtain rfl : a1=_:=e1
 obtain rfl : b2 = []:=e3
 rw [List.append_nil] at h1 h2
 obtain ⟨b,off,rfl,_⟩:=h2 0 _ rfl
 refine ⟨b,off,a2,rfl,by simpa using h1,fun j v hj=>?_,TyG.of_rep e2⟩
 obtain ⟨b',off',hp,ho⟩:=h2 j v hj
 cases hp
 rwa [Nat.zero_add] at ho
theorem xE {r : Gh} {p : Option Addr} {ss : List StD} (h : StG r p ss) {i : Nat} (hi : i<ss.length) : ∃ b off q cap,p=some ⟨b,off,none⟩∧
  (Ob r fun w=>w.cell? ⟨b,off+i*2+1,none⟩=some (.slice q ss[i].fs.length cap))∧(q=none→cap=0)∧ss[i].fs.length≤cap∧FlG r q ss[i].fs:=by
 obtain ⟨c,h1,h2,h3⟩:=RepS.get h (i:=i) (d:=StD.dat ss[i]) (by rw [List.getElem?_map,List.getElem?_eq_getElem hi];rfl)
 obtain ⟨a1,b1,rfl,e1,a2,b2,rfl,e2,e3⟩:=h3
 obtain rfl : a1=_:=e1
 obtain rfl : b2 = []:=e3
 obtain ⟨q,cap,rfl,hq,hc,hf⟩:=e2
 rw [List.length_map] at hc h2
 obtain ⟨b,off,rfl,_⟩:=h2 0 _ rfl
 obtain ⟨b',off',hp,ho⟩:=h2 1 (.slice q ss[i].fs.length cap) (by rfl)
 cases hp
 rw [Nat.zero_add] at ho
 exact ⟨b,off,q,cap,rfl,ho,hq,hc,hf⟩
def ze (ss : List StD) (k : Int) : List TyD:=match ss[k.toNat]? with|some s=>s.fs.map (·.2)|none=>[]
def Kid (ss : List StD) (k j : Int) : Prop:=∃ t ∈ ze ss k,t.k=5∧t.st=j
inductive Rch (ss : List StD) : Int→Int→Prop
 |one {k j : Int} : Kid ss k j→Rch ss k j
 |more {k j i : Int} : Rch ss k j→Kid ss j i→Rch ss k i
theorem Rch.trans {ss : List StD} {a b c : Int} (h : Rch ss a b) (k : Rch ss b c) : Rch ss a c:=by
 induction k with
 |one e=>exact .more h e
 |more _ e ih=>exact .more ih e
def xG (ss : List StD) : Prop:=∀ k,∀ t ∈ ze ss k,zz ss.length 48 t=true
theorem qI {n : Int} {m : Nat} {t : TyD} (h : zz n (m+1) t=true) (hk : t.k=5) : 0≤t.st∧t.st<n∧t.of = []:=by
 rw [xp] at h
 rw [if_neg (by omega),if_pos hk] at h
 simp only [Bool.and_eq_true,decide_eq_true_eq] at h
 exact ⟨h.1.2,h.2,List.eq_nil_of_length_eq_zero h.1.1.2⟩
theorem j1 {ss : List StD} (hg : xG ss) {k j : Int} (h : Kid ss k j) : 0≤j∧j<ss.length:=by
 obtain ⟨t,ht,h5,rfl⟩:=h
 have:=qI (hg k t ht) h5
 exact ⟨this.1,this.2.1⟩
theorem abd {ss : List StD} (hg : xG ss) {k j : Int} (h : Rch ss k j) : 0≤j∧j<ss.length:=by
 cases h with
 |one h=>exact j1 hg h
 |more _ h=>exact j1 hg h
open Classical in
noncomputable def rkS (ss : List StD) (k : Int) : Nat:=(List.range ss.length).countP fun j : Nat=>decide (Rch ss k (j : Int))
noncomputable def rkT (ss : List StD) (t : TyD) : Nat:=if t.k=5 then rkS ss t.st+1 else 0
open Classical in
theorem abe (ss : List StD) (t : TyD) : rkT ss t≤ss.length+1:=by
 unfold rkT rkS
 split
 ·have:=List.countP_le_length (p:=fun j : Nat=>decide (Rch ss t.st (j : Int))) (l:=List.range ss.length)
  rw [List.length_range] at this
  omega
 ·omega
theorem acT {p q : Nat→Bool} : ∀ {l : List Nat},(∀ x ∈ l,p x=true→q x=true)→(∃ x ∈ l,p x=false∧q x=true)→l.countP p<l.countP q
 |[],_,h=>by obtain ⟨x,hx,_⟩:=h;cases hx
 |a::l,h1,h2=>by
  rw [List.countP_cons,List.countP_cons]
  have hle : l.countP p≤l.countP q:=List.countP_mono_left fun x hx=>h1 x (List.mem_cons_of_mem _ hx)
  have ha:=h1 a List.mem_cons_self
  by_cases hex : ∃ x ∈ l,p x=false∧q x=true
  ·have:=acT (fun x hx=>h1 x (List.mem_cons_of_mem _ hx)) hex
   cases hp : p a<;>cases hq : q a<;>simp_all<;>omega
  ·obtain ⟨x,hx,hx1,hx2⟩:=h2
   rcases List.mem_cons.1 hx with rfl|hx
   ·rw [hx1,hx2];simp;omega
   ·exact absurd ⟨x,hx,hx1,hx2⟩ hex
open Classical in
theorem abf {ss : List StD} (hg : xG ss) (hac : ∀ k,¬ Rch ss k k) {t u : TyD} (h5 : t.k=5) (hu : u ∈ ze ss t.st) : rkT ss u<rkT ss t:=by
 unfold rkT
 rw [if_pos h5]
 split
 ·rename_i hu5
  have hk : Kid ss t.st u.st:=⟨u,hu,hu5,rfl⟩
  have hin:=j1 hg hk
  have:=acT (p:=fun j : Nat=>decide (Rch ss u.st (j : Int))) (q:=fun j : Nat=>decide (Rch ss t.st (j : Int))) (l:=List.range ss.length)
   (fun x _ hx=>decide_eq_true (Rch.trans (.one hk) (of_decide_eq_true hx)))
   ⟨u.st.toNat,List.mem_range.2 (by omega),decide_eq_false (by rw [Int.toNat_of_nonneg hin.1];exact hac _),decide_eq_true (by rw [Int.toNat_of_nonneg hin.1];exact .one hk)⟩
  unfold rkS
  omega
 ·omega
def ya : List Nat→Nat
 |[]=>0
 |x::l=>x+ya l
theorem XA : ∀ (a b : List Nat),ya (a++b)=ya a+ya b
 |[],b=>by simp [ya]
 |x::a,b=>by simp only [List.cons_append,ya,XA a b];omega
def wF (ss : List StD) : Nat→TyD→Nat
 |0,_=>1
 |m+1,t=>if t.k=5 then ya ((ze ss t.st).map (wF ss m)) else 1
def dF (ss : List StD) : Nat→TyD→Bool
 |0,t=>decide (t.k=3)
 |m+1,t=>if t.k=5 then (ze ss t.st).any (dF ss m) else decide (t.k=3)
def xb (n : Nat) (p : Nat→Bool) : Nat:=((List.range n).find? p).getD n
theorem qk {n : Nat} {p : Nat→Bool} (h : ∀ j,j<n→p j=false) : xb n p=n:=by
 rw [xb,List.find?_eq_none.2 (by intro x hx;rw [h x (List.mem_range.1 hx)];decide)];rfl
theorem qm {n i : Nat} {p : Nat→Bool} (hi : i<n) (hp : p i=true) (h : ∀ j,j<i→p j=false) : xb n p=i:=by
 have : (List.range n).find? p=some i:=by
  rw [List.find?_range_eq_some]
  exact ⟨hp,List.mem_range.2 hi,fun j hj=>by rw [h j hj];rfl⟩
 rw [xb,this];rfl
theorem qJ {n : Nat} {p : Nat→Bool} (h : ¬ xb n p<n) : ∀ j,j<n→p j=false:=by
 intro j hj
 by_cases hp : ∀ j,j<n→p j=false
 ·exact hp j hj
 ·exfalso
  apply h
  unfold xb
  cases hf : (List.range n).find? p with
  |none=>
   exfalso;apply hp
   intro j hj
   have:=List.find?_eq_none.1 hf j (List.mem_range.2 hj)
   simpa using this
  |some x=>exact List.mem_range.1 (List.mem_of_find?_eq_some hf)
def y6 (ss : List StD) (k : Nat) : Bool:=
 (decide ((ze ss k).length<1)||decide (8<(ze ss k).length))||(ze ss k).any fun t=>!zz ss.length 48 t||decide (0<t.regs.length)
open Classical in
noncomputable def kT (ss : List StD) (k : Nat) : Bool:=decide (Rch ss k k)
def vQ (ss : List StD) (k : Nat) : Bool:=decide (16<wF ss 40 (.mk 5 false 0 k []))
noncomputable def zw (ss : List StD) : Int × Int:=
 if 32<ss.length then (32,2)
 else if xb ss.length (y6 ss)<ss.length then (xb ss.length (y6 ss),2)
 else if xb ss.length (kT ss)<ss.length then (xb ss.length (kT ss),2)
 else if xb ss.length (vQ ss)<ss.length then (xb ss.length (vQ ss),2)
 else (0,0)
theorem yz {ss : List StD} {i : Nat} (hi : i<ss.length) : ze ss i=ss[i].fs.map (·.2):=by
 rw [ze,Int.toNat_natCast,List.getElem?_eq_getElem hi]
theorem Zs {ss : List StD} {i : Nat} (hi : i<ss.length) : (ze ss i).length=ss[i].fs.length:=by
 rw [yz hi,List.length_map]
theorem acU {ss : List StD} {k : Int} (h : ¬ k.toNat<ss.length) : ze ss k = []:=by
 rw [ze,List.getElem?_eq_none (by omega)]
theorem XX {ss : List StD} (h : ∀ k,k<ss.length→y6 ss k=false) : xG ss:=by
 intro k t ht
 by_cases hk : k.toNat<ss.length
 ·have:=h k.toNat hk
  have e : ze ss (k.toNat : Int)=ze ss k:=by rw [ze,ze,Int.toNat_natCast]
  rw [y6,e,Bool.or_eq_false_iff] at this
  have:=List.any_eq_false.1 this.2 t ht
  simp only [Bool.or_eq_true,Bool.not_eq_true',not_or] at this
  simpa using this.1
 ·rw [acU hk] at ht;cases ht
theorem Vj {ss : List StD} (hg : xG ss) (h : ∀ k,k<ss.length→kT ss k=false) : ∀ k,¬ Rch ss k k:=by
 intro k hk
 have hin:=abd hg hk
 have:=h k.toNat (by omega)
 rw [kT,decide_eq_false_iff_not,Int.toNat_of_nonneg hin.1] at this
 exact this hk
theorem xS {ss : List StD} (h : (zw ss).2=0) : ss.length≤32∧(∀ k,k<ss.length→y6 ss k=false)∧xG ss∧(∀ k,¬ Rch ss k k)∧(∀ k,k<ss.length→vQ ss k=false)∧zw ss=(0,0):=by
 unfold zw at h ⊢
 split at h
 ·cases h
 split at h
 ·cases h
 split at h
 ·cases h
 split at h
 ·cases h
 rename_i h1 h2 h3 h4
 have g:=XX (qJ h2)
 refine ⟨by omega,qJ h2,g,Vj g (qJ h3),qJ h4,?_⟩
 rw [if_neg h1,if_neg h2,if_neg h3,if_neg h4]
end Go.Proofs
end
section
namespace Go.Proofs
open Go.Sh
set_option maxRecDepth 100000
set_option linter.unusedSimpArgs false
set_option linter.unusedVariables false
theorem Jl {α : Type} (f : α→Nat) {l : List α} {i : Nat} (hi : i<l.length) : ya ((l.take (i+1)).map f)=ya ((l.take i).map f)+f l[i]:=by
 rw [List.take_succ_eq_append_getElem hi,List.map_append,XA];simp [ya]
theorem ach {α : Type} (f : α→Nat) (l : List α) (i : Nat) : ya ((l.take i).map f)≤ya (l.map f):=by
 have:=congrArg (fun l=>ya (l.map f)) (List.take_append_drop i l)
 simp only [List.map_append,XA] at this
 rw [← this]
 exact Nat.le_add_right _ _
theorem aau {r : Gh} {c : List Value} {s : ByteArray} {t : TyD} (h : TyG r (.agg c.toArray) t) : ∀ u ∈ (Value.string s::c).toArray.toList,u.oneCell'=true:=by
 intro u hu
 rcases List.mem_cons.1 (by simpa using hu) with rfl|hu
 ·rfl
 ·exact agf h u (by simpa using hu)
theorem _root_.Go.Sh.StX.fty {X : Nat→Prop} {w0 w : World} {r : Gh} {L : List Asr} {f : List Value→List Asr} {T : TypeId} {b : Nat} {s : ByteArray} {c : List Value} (S : StX X w0 r w L) [h : At b L (.string s::c) T f] (hc : c.length=5) {K : Value→Prop} (k : K (.agg c.toArray)) :
  opQ Tryz.prog w (Instr.loadAt 93 (.pointer (some ⟨b,0+1,none⟩))) K:=
 S.ldN (h:=h) (n:=5) (vs:=c) k (by rw [List.drop_succ_cons,List.drop_zero,List.take_of_length_le (by omega)]) hc
theorem ads {ss : List StD} {p : Option Addr} {cap : Nat} (hg : xG ss) (hac : ∀ k,¬ Rch ss k k) : ∀ (m : Nat) {t : TyD} {w : World} {r : Gh} {v : Value} {K : Value→World→Prop},m≤100→rkT ss t≤m→zz ss.length 48 t=true→ss.length≤32→(∀ k,(ze ss k).length≤8)→
  Holds r w→StG r p ss→TyG r v t→(∀ w',Ext w w'→K (.int .i64 (min (wF ss m t) 17 : Nat)) w')→zd Tryz.prog Tryz.jk #[.slice p ss.length cap,v] w K:=by
 intro m
 induction m with
 |zero=>
  intro t w r v K _ hrk hl h32 h8 hr hs hv h
  have h5 : ¬ t.k=5:=fun h=>by unfold rkT at hrk;rw [if_pos h] at hrk;omega
  refine Tryz.XO ?_
  unfold Tryz.ZE
  obtain ⟨p1,cap1,rfl,_⟩:=hv
  have S:=St.start hr
  refine S.box fun b3 w1 S=>?_
  refine gG_ ?_
  refine zk (fun _=>h _ S.ext) (fun hn=>absurd (by omega) h5)
 |succ m ih=>
  intro t w r v K hm hrk hl h32 h8 hr hs hv h
  refine Tryz.XO ?_
  unfold Tryz.ZE
  obtain ⟨p1,cap1,rfl,_⟩:=hv
  have S:=St.start hr
  refine S.box fun b3 w1 S=>?_
  refine gG_ ?_
  refine zk (fun hn=>?_) (fun h5=>?_)
  ·rw [wF,if_neg (by omega)] at h
   exact h _ S.ext
  have h5 : t.k=5:=by omega
  obtain ⟨hst0,hst1,_⟩:=qI hl h5
  have hlt : t.st.toNat<ss.length:=by omega
  obtain ⟨b,off,q,capq,rfl,hcell,_,_,hf⟩:=xE hs hlt
  refine gG_ ?_
  refine zg (S.at hcell) ?_
  have htl : ze ss t.st=ss[t.st.toNat].fs.map (·.2):=by
   rw [← yz hlt];simp only [ze,Int.toNat_natCast]
  have hlen : (ze ss t.st).length=ss[t.st.toNat].fs.length:=by rw [htl,List.length_map]
  have h88:=h8 t.st
  refine gG_ ?_
  refine zi (ι:=Nat) (fun i=>[.int .i64 (ya (((ze ss t.st).take i).map (wF ss m)) : Nat),.int .i64 i]) (fun i w'=>i≤(ze ss t.st).length∧ya (((ze ss t.st).take i).map (wF ss m))≤16∧St w r w' _)
   (fun i=>(ze ss t.st).length - i) 0 rfl ⟨Nat.zero_le _,by simp [ya],S⟩ ?_
  clear S
  rintro i d w2 ⟨hi,hsum,S⟩ K6 hK6
  rw [List.getD_cons_zero,List.getD_cons_succ,List.getD_cons_zero]
  refine gG_ ?_
  refine c_b (fun hlt2=>?_) (fun hge=>?_)
  ·have hlt2 : i<ss[t.st.toNat].fs.length:=by simpa using hlt2
   have hlt3 : i<(ze ss t.st).length:=by omega
   obtain ⟨b2,off2,c,rfl,hcl,hcc,hty⟩:=qd hf hlt2
   refine gG_ ?_
   refine zq (n:=6) (c:=.string ss[t.st.toNat].fs[i].1::c) (by simp [hcl]) (fun j v hj=>by rw [Int.toNat_natCast];exact S.at (hcc j v hj)) ?_
   refine S.al fun b7 w3 S=>?_
   refine S.stB (cs:=(Value.string ss[t.st.toNat].fs[i].1::c).toArray) (fun w4 S=>?_) rfl (by simp [hcl]) (aau hty)
   refine gP_ ?_
   refine S.fty hcl ?_
   have hel : (ze ss t.st)[i]=ss[t.st.toNat].fs[i].2:=by simp only [htl,List.getElem_map]
   have hmem : ss[t.st.toNat].fs[i].2 ∈ ze ss t.st:=by rw [← hel];exact List.getElem_mem hlt3
   have hrk2:=abf hg hac h5 hmem
   refine ih (by omega) (by omega) (hg _ _ hmem) h32 h8 S.holds hs hty fun w5 e5=>?_
   have S:=(S.go e5).tl
   have hst:=Jl (wF ss m) hlt3
   rw [hel] at hst
   refine gP_ ?_
   refine gP_ ?_
   have htot : ya (((ze ss t.st).take (i+1)).map (wF ss m))≤wF ss (m+1) t:=by
    rw [wF,if_pos h5];exact ach _ _ _
   refine c_b (fun hbig=>?_) (fun hsm=>?_)
   ·have hbig : 16<ya (((ze ss t.st).take i).map (wF ss m))+min (wF ss m ss[t.st.toNat].fs[i].2) 17:=by
     have:=of_decide_eq_true hbig;omega
    have e : min (wF ss (m+1) t) 17=17:=by omega
    rw [e] at h
    exact h _ S.ext
   ·have hsm : ¬ 16<ya (((ze ss t.st).take i).map (wF ss m))+min (wF ss m ss[t.st.toNat].fs[i].2) 17:=by
     have:=of_decide_eq_false hsm;omega
    refine gP_ ?_
    have e : (ya (((ze ss t.st).take i).map (wF ss m)) : Int)+((min (wF ss m ss[t.st.toNat].fs[i].2) 17 : Nat) : Int)=(ya (((ze ss t.st).take (i+1)).map (wF ss m)) : Nat):=by omega
    rw [e,show ((i : Int)+1)=((i+1 : Nat) : Int) by omega]
    exact hK6 (i+1) _ ⟨hlt3,by omega,S⟩ (by omega)
  ·have hie : i=(ze ss t.st).length:=by
    have : ¬ i<ss[t.st.toNat].fs.length:=by simpa using hge
    omega
   rw [hie,List.take_length] at hsum ⊢
   have e : min (wF ss (m+1) t) 17=ya ((ze ss t.st).map (wF ss m)):=by
    rw [wF,if_pos h5];omega
   rw [e] at h
   exact h _ S.ext
def mt (met : List Bool) (j : Int) : Bool:=met.getD j.toNat false
def cf : List Bool→Nat
 |[]=>0
 |b::l=>(if b then 0 else 1)+cf l
theorem Jm : ∀ {l : List Bool} {i : Nat},l[i]? = some false→cf (l.set i true)+1=cf l
 |[],i,h=>by simp at h
 |b::l,0,h=>by
  simp only [List.getElem?_cons_zero,Option.some.injEq] at h
  subst h
  simp [cf];omega
 |b::l,i+1,h=>by
  have:=Jm (l:=l) (i:=i) (by simpa using h)
  simp only [List.set_cons_succ,cf];omega
theorem aeI {met : List Bool} {i j : Int} (hi : 0≤i) (hj : 0≤j) (hlt : i.toNat<met.length) : mt (met.set i.toNat true) j=(decide (j=i)||mt met j):=by
 unfold mt
 rw [List.getD_eq_getElem?_getD,List.getD_eq_getElem?_getD,List.getElem?_set]
 by_cases h : i.toNat=j.toNat
 ·have : j=i:=by omega
  subst this
  simp [hlt]
 ·have : ¬ j=i:=fun e=>h (by rw [e])
  rw [if_neg h];simp [this]
structure QI (ss : List StD) (k : Int) (N : Nat) (W : List Int) (met : List Bool) (x : Option (Int × Nat)) : Prop where
 len : met.length=N
 dom : ss.length≤N
 rng : ∀ y ∈ W,0≤y∧y<ss.length
 s1 : ∀ j,0≤j→mt met j=true→Rch ss k j
 s2 : ∀ y ∈ W,y=k∨mt met y=true
 s3 : ∀ y,0≤y→(y=k∨mt met y=true)→y ∉ W→(∀ q,x=some q→y≠q.1)→∀ j,Kid ss y j→mt met j=true
 s4 : ∀ q,x=some q→(q.1=k∨Rch ss k q.1)∧∀ t ∈ (ze ss q.1).take q.2,t.k=5→mt met t.st=true
theorem QI.start {ss : List StD} {k : Int} {N : Nat} (hd : ss.length≤N) (h0 : 0≤k) (h1 : k<ss.length) : QI ss k N [k] (List.replicate N false) none:=by
 have hm : ∀ j,mt (List.replicate N false) j=false:=fun j=>by
  unfold mt;rw [List.getD_eq_getElem?_getD,List.getElem?_replicate];split<;>rfl
 refine ⟨List.length_replicate,hd,by simp;omega,fun j _ h=>?_,by simp,fun y _ h hn=>?_,fun q h=>by cases h⟩
 ·rw [hm] at h;cases h
 ·rcases h with rfl|h
  ·simp at hn
  ·rw [hm] at h;cases h
theorem QI.pop {ss : List StD} {k x : Int} {N : Nat} {W : List Int} {met : List Bool} (h : QI ss k N (x::W) met none) : QI ss k N W met (some (x,0)):=by
 have hx:=h.rng x List.mem_cons_self
 refine ⟨h.len,h.dom,fun y hy=>h.rng y (List.mem_cons_of_mem _ hy),h.s1,fun y hy=>h.s2 y (List.mem_cons_of_mem _ hy),fun y hy hk hn hx j hj=>?_,fun q hq=>?_⟩
 ·refine h.s3 y hy hk ?_ (fun q hq=>by cases hq) j hj
  intro hm
  rcases List.mem_cons.1 hm with rfl|hm
  ·exact hx _ rfl rfl
  ·exact hn hm
 ·cases hq
  refine ⟨(h.s2 x List.mem_cons_self).imp id (h.s1 x hx.1),by simp⟩
theorem QI.skip {ss : List StD} {k x : Int} {N i : Nat} {W : List Int} {met : List Bool} (h : QI ss k N W met (some (x,i))) (hi : i<(ze ss x).length) (hs : (ze ss x)[i].k=5→mt met (ze ss x)[i].st=true) : QI ss k N W met (some (x,i+1)):=by
 refine ⟨h.len,h.dom,h.rng,h.s1,h.s2,fun y hy hk hn hx j hj=>h.s3 y hy hk hn (fun q hq=>by cases hq;exact hx (x,i+1) rfl) j hj,fun q hq=>?_⟩
 cases hq
 have:=h.s4 _ rfl
 refine ⟨this.1,fun t ht h5=>?_⟩
 simp only at ht
 rw [List.take_succ_eq_append_getElem hi,List.mem_append,List.mem_singleton] at ht
 rcases ht with ht|rfl
 ·exact this.2 t ht h5
 ·exact hs h5
theorem QI.push {ss : List StD} {k x : Int} {N i : Nat} {W : List Int} {met : List Bool} (hg : xG ss) (h : QI ss k N W met (some (x,i))) (hi : i<(ze ss x).length) (h5 : (ze ss x)[i].k=5) :
  QI ss k N (W ++ [(ze ss x)[i].st]) (met.set (ze ss x)[i].st.toNat true) (some (x,i+1)):=by
 have hk : Kid ss x (ze ss x)[i].st:=⟨_,List.getElem_mem hi,h5,rfl⟩
 have hin:=j1 hg hk
 have hd:=h.dom
 have hlen:=h.len
 have hms : ∀ j,0≤j→mt (met.set (ze ss x)[i].st.toNat true) j=(decide (j=(ze ss x)[i].st)||mt met j):=fun j hj=>aeI hin.1 hj (by omega)
 refine ⟨by rw [List.length_set];exact h.len,h.dom,fun y hy=>?_,fun j hj hm=>?_,fun y hy=>?_,fun y hy hyk hn hx j hj=>?_,fun q hq=>?_⟩
 ·rcases List.mem_append.1 hy with hy|hy
  ·exact h.rng y hy
  ·rw [List.mem_singleton.1 hy];exact hin
 ·rw [hms j hj,Bool.or_eq_true,decide_eq_true_eq] at hm
  rcases hm with rfl|hm
  ·rcases (h.s4 _ rfl).1 with hx|hx
   ·have hx : x=k:=hx
    rw [← hx];exact .one hk
   ·exact .more hx hk
  ·exact h.s1 j hj hm
 ·rcases List.mem_append.1 hy with hy|hy
  ·refine (h.s2 y hy).imp id fun hm=>?_
   rw [hms y (h.rng y hy).1,hm,Bool.or_true]
  ·rw [List.mem_singleton.1 hy,hms _ hin.1];simp
 ·have hj0:=(j1 hg hj).1
  rw [hms j hj0]
  rw [hms y hy,Bool.or_eq_true,decide_eq_true_eq] at hyk
  have hnw : y ∉ W:=fun hm=>hn (List.mem_append_left _ hm)
  have hne : y≠(ze ss x)[i].st:=fun e=>hn (by rw [e];exact List.mem_append_right _ List.mem_cons_self)
  rw [h.s3 y hy (hyk.imp id fun hh=>hh.resolve_left hne) hnw (fun q hq=>by cases hq;exact hx (x,i+1) rfl) j hj,Bool.or_true]
 ·cases hq
  have:=h.s4 _ rfl
  refine ⟨this.1,fun t ht h5'=>?_⟩
  simp only at ht
  rw [List.take_succ_eq_append_getElem hi,List.mem_append,List.mem_singleton] at ht
  rcases ht with ht|rfl
  ·have ht0:=(j1 hg (k:=x) ⟨t,List.mem_of_mem_take ht,h5',rfl⟩).1
   rw [hms _ ht0,this.2 t ht h5',Bool.or_true]
  ·rw [hms _ hin.1];simp
theorem QI.done {ss : List StD} {k x : Int} {N i : Nat} {W : List Int} {met : List Bool} (h : QI ss k N W met (some (x,i))) (hi : (ze ss x).length≤i) : QI ss k N W met none:=by
 refine ⟨h.len,h.dom,h.rng,h.s1,h.s2,fun y hy hk hn _ j hj=>?_,fun q hq=>by cases hq⟩
 by_cases hyx : y=x
 ·subst hyx
  obtain ⟨t,ht,h5,rfl⟩:=hj
  have:=(h.s4 _ rfl).2 t (by simp only;rw [List.take_of_length_le hi];exact ht) h5
  exact this
 ·exact h.s3 y hy hk hn (fun q hq=>by cases hq;exact hyx) j hj
theorem QI.all {ss : List StD} {k : Int} {N : Nat} {met : List Bool} (hg : xG ss) (h0 : 0≤k) (h : QI ss k N [] met none) {j : Int} (hr : Rch ss k j) : mt met j=true:=by
 induction hr with
 |one e=>exact h.s3 k h0 (.inl rfl) (by simp) (fun q hq=>by cases hq) _ e
 |more hr e ih=>exact h.s3 _ (abd hg hr).1 (.inr ih) (by simp) (fun q hq=>by cases hq) _ e
open Classical in
theorem Vk {ss : List StD} {k : Nat} {b : Bool} (h1 : b=true→Rch ss k k) (h2 : Rch ss k k→b=true) : b=kT ss k:=by
 rw [kT]
 by_cases hr : Rch ss k k
 ·rw [decide_eq_true hr];exact h2 hr
 ·rw [decide_eq_false hr]
  cases b
  ·rfl
  ·exact absurd (h1 rfl) hr
def z8 (l : List Bool) : List Value:=l.map .bool
theorem Jn (l : List Bool) : (z8 l).length=l.length:=List.length_map ..
theorem Yy {l : List Bool} {j : Int} (h : j.toNat<l.length) : (z8 l)[j.toNat]? = some (.bool (mt l j)):=by
 unfold z8 mt
 rw [List.getElem?_map,List.getD_eq_getElem?_getD,List.getElem?_eq_getElem h];rfl
theorem abg {ss : List StD} {p : Option Addr} {cap k : Nat} (hg : xG ss) (h32 : ss.length≤32) (hk : k<ss.length) (h8 : ∀ k,(ze ss k).length≤8) {w : World} {r : Gh} {K : Value→World→Prop} (hr : Holds r w) (hs : StG r p ss)
  (h : ∀ w',Ext w w'→K (.bool (kT ss k)) w') : zd Tryz.prog Tryz.jV #[.slice p ss.length cap,.int .i64 k] w K:=by
 refine Tryz.aam ?_
 unfold Tryz.Y6
 have S:=St.start hr
 refine S.al fun b5 w1 S=>?_
 refine S.lit (e:=3) (cs:=[.int .i64 k]) (by kernel_rfl) fun b11 w2 S=>?_
 have S:=S.toRow 1 1 rfl (by decide)
 have S:=S.toQue (.slice (some ⟨b11,0,none⟩) 1 1)
 have S : StX noX w r w2 [.que (.slice (some ⟨b11,0,none⟩) 1 1) 3 1 [(k : Int)].length (ints [(k : Int)]),.cell b5 (z8 (List.replicate 32 false)) 205]:=S
 refine zi (ι:=List Int × List Bool × Value) (fun i=>[i.2.2]) (fun i w'=>QI ss k 32 i.1 i.2.1 none∧2*cf i.2.1+i.1.length≤65∧StX noX w r w' [.que i.2.2 3 1 i.1.length (ints i.1),.cell b5 (z8 i.2.1) 205])
  (fun i=>2*cf i.2.1+i.1.length) ([(k : Int)],List.replicate 32 false,_) rfl ⟨QI.start h32 (by omega) (by omega),(show 2*cf (List.replicate 32 false)+1≤65 by decide),S⟩ ?_
 clear S
 rintro ⟨W,met,vq⟩ d w3 ⟨hq,h65,S⟩ K3 hK3
 simp only at hq h65 S ⊢
 rw [List.getD_cons_zero]
 obtain ⟨pq,capq,rfl,hp0,hcq,_,hsl⟩:=S.queS vq
 refine gP_ ?_
 refine gP_ ?_
 refine c_b (fun hpos=>?_) (fun hz=>?_)
 ·have hpos : 0<W.length:=by simpa using hpos
  cases W with
  |nil=>simp at hpos
  |cons x W=>
   obtain ⟨bq,oq,rfl,hcell⟩:=Yd hsl hpos
   have hx:=hq.rng x List.mem_cons_self
   refine gP_ ?_
   refine zg (by simpa using hcell) ?_
   refine S.loQ (by omega) (by omega) hpos fun v' S=>?_
   have S : StX noX w r w3 [.que v' 3 1 W.length (ints W),.cell b5 (z8 met) 205]:=S
   have hxn : x.toNat<ss.length:=by omega
   obtain ⟨bs',os',q,capf,rfl,hcs,_,_,hf⟩:=xE hs hxn
   refine gP_ ?_
   refine gP_ ?_
   refine zg (S.at hcs) ?_
   refine gP_ ?_
   have htl : ze ss x=ss[x.toNat].fs.map (·.2):=by
    rw [← yz hxn];simp only [ze,Int.toNat_natCast]
   have hlen : (ze ss x).length=ss[x.toNat].fs.length:=by rw [htl,List.length_map]
   have h88:=h8 x
   refine zi (ι:=Nat × List Int × List Bool × Value) (fun i=>[i.2.2.2,.int .i64 i.1]) (fun i w'=>i.1≤(ze ss x).length∧QI ss k 32 i.2.1 i.2.2.1 (some (x,i.1))∧2*cf i.2.2.1+i.2.1.length≤2*cf met+W.length∧
    StX noX w r w' [.que i.2.2.2 3 1 i.2.1.length (ints i.2.1),.cell b5 (z8 i.2.2.1) 205]) (fun i=>(ze ss x).length - i.1) (0,W,met,v') rfl ⟨Nat.zero_le _,hq.pop,Nat.le_refl _,S⟩ ?_
   clear S
   rintro ⟨i,W',met',vq'⟩ d w4 ⟨hi,hq',hme,S⟩ K7 hK7
   simp only at hi hq' hme S ⊢
   rw [List.getD_cons_zero,List.getD_cons_succ,List.getD_cons_zero]
   refine gP_ ?_
   refine c_b (fun hlt2=>?_) (fun hge=>?_)
   ·have hlt2 : i<ss[x.toNat].fs.length:=by simpa using hlt2
    have hlt3 : i<(ze ss x).length:=by omega
    have hel : (ze ss x)[i]=ss[x.toNat].fs[i].2:=by simp only [htl,List.getElem_map]
    refine zp (fun s w'=>∃ W2 met2 v2,s = [v2]∧QI ss k 32 W2 met2 (some (x,i+1))∧2*cf met2+W2.length≤2*cf met'+W'.length∧StX noX w r w' [.que v2 3 1 W2.length (ints W2),.cell b5 (z8 met2) 205]) (fun K11 hK11=>?_) ?_
    ·obtain ⟨b2,off2,c,rfl,hcl,hcc,hty⟩:=qd hf hlt2
     refine gP_ ?_
     refine zq (n:=6) (c:=.string ss[x.toNat].fs[i].1::c) (by simp [hcl]) (fun j v hj=>by rw [Int.toNat_natCast];exact S.at (hcc j v hj)) ?_
     refine S.al fun b9 w5 S=>?_
     refine S.stB (cs:=(Value.string ss[x.toNat].fs[i].1::c).toArray) (fun w6 S=>?_) rfl (by simp [hcl]) (aau hty)
     obtain ⟨pt,capt,rfl,_⟩:=Yx hty
     have S : StX noX w r w6 [.cell b9 [.string ss[x.toNat].fs[i].1,.int .u8 ss[x.toNat].fs[i].2.k,.bool ss[x.toNat].fs[i].2.m,.int .i64 ss[x.toNat].fs[i].2.re,.int .i64 ss[x.toNat].fs[i].2.st,.slice pt ss[x.toNat].fs[i].2.of.length capt] 156,.que vq' 3 1 W'.length (ints W'),.cell b5 (z8 met') 205]:=S
     refine gG_ ?_
     rw [← hel]
     by_cases h5 : (ze ss x)[i].k=5
     ·have hkid : Kid ss x (ze ss x)[i].st:=⟨_,List.getElem_mem hlt3,h5,rfl⟩
      have hin:=j1 hg hkid
      have hml:=hq'.len
      refine zj (c:=mt met' (ze ss x)[i].st) (fun _ K2 hK2=>?_) ?_
      ·refine gG_ ?_
       rw [← hel]
       refine gP_ ?_
       refine S.ld (b:=b5) ?_ (by rw [Nat.zero_add,Nat.mul_one];exact Yy (by omega))
       exact hK2
      rw [show decide ((ze ss x)[i].k≠5)=false by simp [h5],Bool.false_or]
      refine c_b (fun hm=>?_) (fun hm=>?_)
      ·exact hK11 _ _ ⟨W',met',vq',rfl,hq'.skip hlt3 fun _=>hm,Nat.le_refl _,S.tl⟩
      ·refine gG_ ?_
       rw [← hel]
       refine gP_ ?_
       refine S.st (b:=b5) (fun w7 S=>?_) (by rw [Jn];omega)
       refine gG_ ?_
       rw [← hel]
       refine S.lit (e:=3) (cs:=[.int .i64 (ze ss x)[i].st]) (by kernel_rfl) fun b49 w8 S=>?_
       simp only [List.length_cons] at h65
       refine S.apQ (m:=1) (Sl.blk (S.blk b49)) (fun v50 w9 S=>?_) (by omega)
       have hset : mt met' (ze ss x)[i].st=false:=hm
       have hcf:=Jm (l:=met') (i:=(ze ss x)[i].st.toNat) (by
        unfold mt at hset
        rw [List.getD_eq_getElem?_getD,List.getElem?_eq_getElem (by omega)] at hset
        rw [List.getElem?_eq_getElem (by omega)]
        simpa using hset)
       refine hK11 _ _ ⟨W' ++ [(ze ss x)[i].st],met'.set (ze ss x)[i].st.toNat true,v50,rfl,hq'.push hg hlt3 h5,by rw [List.length_append,List.length_singleton];omega,?_⟩
       have e1 : (z8 met').set (0+(ze ss x)[i].st.toNat*1) (.bool true)=z8 (met'.set (ze ss x)[i].st.toNat true):=by
        rw [Nat.zero_add,Nat.mul_one,z8,z8,List.map_set]
       rw [e1] at S
       rw [List.length_append,VT]
       exact S.tl.tl
     ·refine zj (c:=true) (fun hn=>absurd hn (by simp [h5])) ?_
      rw [Bool.or_true]
      refine c_t rfl ?_
      exact hK11 _ _ ⟨W',met',vq',rfl,hq'.skip hlt3 fun e=>absurd e h5,Nat.le_refl _,S.tl⟩
    ·rintro _ w5 ⟨W2,met2,v2,rfl,hq2,hme2,S⟩ d5
     rw [List.getD_cons_zero]
     refine gP_ ?_
     rw [show ((i : Int)+1)=((i+1 : Nat) : Int) by omega]
     exact hK7 (i+1,W2,met2,v2) _ ⟨hlt3,hq2,by simp only;omega,S⟩ (by simp only;omega)
   ·have hge : (ze ss x).length≤i:=by
     have : ¬ i<ss[x.toNat].fs.length:=by simpa using hge
     omega
    exact hK3 (W',met',vq') _ ⟨hq'.done hge,by simp only [List.length_cons] at h65 ⊢;omega,S⟩ (by simp only [List.length_cons];omega)
 ·have hz : W = []:=List.eq_nil_of_length_eq_zero (by
   have : ¬ 0<W.length:=by simpa using hz
   omega)
  subst hz
  have hml:=hq.len
  refine gP_ ?_
  refine S.ld (b:=b5) ?_ (by rw [Nat.zero_add,Nat.mul_one];exact Yy (by omega))
  have e : mt met (k : Int)=kT ss k:=Vk (hq.s1 _ (by omega)) (hq.all hg (by omega))
  rw [e]
  exact h _ S.ext
end Go.Proofs
end
section
namespace Go.Proofs
open Go.Sh
set_option maxRecDepth 100000
set_option linter.unusedSimpArgs false
set_option linter.unusedVariables false
theorem ZJ {X : Nat→Prop} {w0 : World} {r : Gh} {L : List Asr} {n : Nat} {q : Nat→Bool} {fv : Value} (hn : n≤1000)
  (hf : ∀ (i : Nat),i<n→∀ {w : World} {K : Value→World→Prop},StX X w0 r w L→(∀ w',StX X w0 r w' L→K (.bool (q i)) w')→zH Tryz.prog fv #[.int .i64 i] w K) {w : World} {K : Value→World→Prop} (S : StX X w0 r w L)
  (h : ∀ w',StX X w0 r w' L→K (.int .i64 (xb n q)) w') : zd Tryz.prog Tryz.Zy #[.int .i64 n,fv] w K:=by
 refine Tryz.ab9 ?_
 unfold Tryz.QF
 refine zi (ι:=Nat) (fun i=>[.int .i64 i]) (fun i w'=>i≤n∧(∀ j,j<i→q j=false)∧StX X w0 r w' L) (fun i=>n - i) 0 rfl ⟨Nat.zero_le _,fun j hj=>by omega,S⟩ ?_
 clear S
 rintro i d w1 ⟨hi,hq,S⟩ K6 hK6
 rw [List.getD_cons_zero]
 refine gP_ ?_
 refine c_b (fun hlt=>?_) (fun hge=>?_)
 ·have hlt : i<n:=by simpa using hlt
  refine hf i hlt S fun w2 S=>?_
  refine c_b (fun hy=>?_) (fun hno=>?_)
  ·have:=h _ S
   rwa [qm hlt hy hq] at this
  ·refine gP_ ?_
   rw [show ((i : Int)+1)=((i+1 : Nat) : Int) by omega]
   refine hK6 (i+1) _ ⟨hlt,fun j hj=>?_,S⟩ (by omega)
   by_cases hji : j=i
   ·rw [hji];exact hno
   ·exact hq j (by omega)
 ·have hge : i=n:=by
   have : ¬ i<n:=by simpa using hge
   omega
  have:=h _ S
  rwa [qk (fun j hj=>hq j (by omega))] at this
theorem Zt {X : Nat→Prop} {w0 : World} {r s : Gh} {L : List Asr} {p : Option Addr} {cap : Nat} {fs : List (ByteArray × TyD)} {g : TyD→Bool} {fv : Value} (hfl : FlG s p fs) [Le s r] (hb : fs.length≤1000000000)
  (hf : ∀ f ∈ fs,∀ {c : List Value} {w : World} {K : Value→World→Prop},c.length=5→TyG s (.agg c.toArray) f.2→StX X w0 r w L→(∀ w',StX X w0 r w' L→K (.bool (g f.2)) w')→zH Tryz.prog fv #[.agg (.string f.1::c).toArray] w K)
  {w : World} {K : Value→World→Prop} (S : StX X w0 r w L) (h : ∀ w',StX X w0 r w' L→K (.bool ((fs.map (·.2)).any g)) w') : zd Tryz.prog Tryz.zL #[.slice p fs.length cap,fv] w K:=by
 refine Tryz.ki ?_
 unfold Tryz.yM
 refine Tryz.kJ ?_
 unfold Tryz.yZ
 refine gP_ ?_
 refine zi (ι:=Nat) (fun i=>[.int .i64 i]) (fun i w'=>i≤fs.length∧((fs.take i).map (·.2)).any g=false∧StX X w0 r w' L) (fun i=>fs.length - i) 0 rfl ⟨Nat.zero_le _,by simp,S⟩ ?_
 clear S
 rintro i d w1 ⟨hi,hq,S⟩ K6 hK6
 rw [List.getD_cons_zero]
 refine gP_ ?_
 refine c_b (fun hlt=>?_) (fun hge=>?_)
 ·have hlt : i<fs.length:=by simpa using hlt
  obtain ⟨b2,off2,c,rfl,hcl,hcc,hty⟩:=qd hfl hlt
  refine gP_ ?_
  refine zq (n:=6) (c:=.string fs[i].1::c) (by simp [hcl]) (fun j v hj=>by rw [Int.toNat_natCast];exact S.at (hcc j v hj)) ?_
  refine hf fs[i] (List.getElem_mem hlt) hcl hty S fun w2 S=>?_
  refine c_b (fun hy=>?_) (fun hno=>?_)
  ·refine gP_ ?_
   have:=h _ S
   have e : (fs.map (·.2)).any g=true:=List.any_eq_true.2 ⟨fs[i].2,List.mem_map.2 ⟨_,List.getElem_mem hlt,rfl⟩,hy⟩
   rw [e] at this
   rw [show decide ((i : Int)≥0)=true by simp]
   exact this
  ·refine gP_ ?_
   rw [show ((i : Int)+1)=((i+1 : Nat) : Int) by omega]
   refine hK6 (i+1) _ ⟨hlt,?_,S⟩ (by omega)
   rw [List.take_succ_eq_append_getElem hlt,List.map_append,List.any_append,hq]
   simp [hno]
 ·have hge : i=fs.length:=by
   have : ¬ i<fs.length:=by simpa using hge
   omega
  rw [hge,List.take_length] at hq
  refine gP_ ?_
  have:=h _ S
  rw [hq] at this
  exact this
theorem xL {ss : List StD} (h : ∀ k,k<ss.length→y6 ss k=false) (k : Int) : (ze ss k).length≤8:=by
 by_cases hk : k.toNat<ss.length
 ·have:=h k.toNat hk
  have e : ze ss (k.toNat : Int)=ze ss k:=by rw [ze,ze,Int.toNat_natCast]
  rw [y6,e,Bool.or_eq_false_iff,Bool.or_eq_false_iff] at this
  simp only [decide_eq_false_iff_not] at this
  omega
 ·rw [acU hk];simp
section
variable {X : Nat→Prop} {w0 w : World} {r : Gh} {L : List Asr} {ss : List StD} {p : Option Addr} {cap b1 b4 : Nat} {f1 f4 : List Value→List Asr} {K : Value→World→Prop}
theorem Vx {k : Nat} (hk : k<ss.length) (hs : StG r p ss) (S : StX X w0 r w L) [At b1 L [.slice p ss.length cap] 22 f1] [At b4 L [.int .i64 (ss.length : Nat)] 3 f4] (h : ∀ w',StX X w0 r w' L→K (.bool (y6 ss k)) w') :
  zH Tryz.prog (.func (.func Tryz.x6) #[] #[.pointer (some ⟨b1,0,none⟩),.pointer (some ⟨b4,0,none⟩)]) #[.int .i64 k] w K:=by
 refine kI (by kernel_rfl) ?_
 refine Tryz.Jh (t0:=.int .i64 k) (t1:=.pointer (some ⟨b1,0,none⟩)) (t2:=.pointer (some ⟨b4,0,none⟩)) ?_
 unfold Tryz.ZY
 refine gL_ ?_
 obtain ⟨b,off,q,capq,rfl,hcell,hq0,hqc,hf⟩:=xE hs hk
 refine gP_ ?_
 refine gP_ ?_
 refine zg (by rw [Int.toNat_natCast];exact S.at hcell) ?_
 refine gP_ ?_
 refine gP_ ?_
 have hlen:=Zs hk
 refine zj (c:=decide (8<(ze ss k).length)) (fun _ K2 hK2=>?_) ?_
 ·refine gP_ ?_
  refine gP_ ?_
  rw [show decide ((8 : Int)<(ss[k].fs.length : Int))=decide (8<(ze ss k).length) from decide_eq_decide.2 (by omega)]
  exact hK2
 refine ahK (fun w'=>StX X w0 r w' L) (c:=(ze ss k).any fun t=>!zz ss.length 48 t||decide (0<t.regs.length)) (fun _=>S) (fun hsm2 K2 hK2=>?_) fun w9 S=>?_
 ·have hsm2 : ss[k].fs.length≤8:=by
   simp only [Bool.or_eq_false_iff,decide_eq_false_iff_not] at hsm2;omega
  refine gP_ ?_
  refine Zt (g:=fun t=>!zz ss.length 48 t||decide (0<t.regs.length)) hf (by omega) (fun f hfm {c} {w7} {K} hcl hty S hK=>?_) S fun w8 S=>?_
  ·refine Qf (by kernel_rfl) ?_
   refine Tryz.Qe ?_
   unfold Tryz.vC
   refine S.box fun b2 w8 S=>?_
   have S : StX X w0 r w8 (.cell b2 (.string f.1::c) 156::L):=S
   refine gP_ ?_
   refine S.fty hcl ?_
   refine S.ld (b:=b4) ?_ rfl
   refine Yv 48 (by decide) S.holds hty fun w9 e9=>?_
   have S:=S.go e9
   refine gP_ ?_
   refine yP (c:=decide (0<f.2.regs.length)) (fun hl K2 hK2=>?_) fun w10 e10=>?_
   ·have hl : zz ss.length 48 f.2=true:=by simpa using hl
    refine gP_ ?_
    refine S.fty hcl ?_
    refine Xc S.holds hty (by have:=Vi hl;omega) fun v11 w11 e11 o11=>?_
    obtain ⟨p11,cap11,rfl,_⟩:=Ja o11
    refine gP_ ?_
    refine gP_ ?_
    rw [show decide ((f.2.regs.length : Int) > 0)=decide (0<f.2.regs.length) from decide_eq_decide.2 (by omega)]
    exact hK2 _ e11
   exact hK _ (S.go e10).tl
  ·rw [← yz hk]
   exact hK2 _ S
 ·have:=h _ S
  rw [y6] at this
  rw [show decide ((ss[k].fs.length : Int)<1)=decide ((ze ss k).length<1) from decide_eq_decide.2 (by omega)]
  exact this
theorem Vy {k : Nat} (hk : k<ss.length) (h32 : ss.length≤32) (h1 : ¬ xb ss.length (y6 ss)<ss.length) (hs : StG r p ss) (S : StX X w0 r w L) [At b1 L [.slice p ss.length cap] 22 f1] (h : ∀ w',StX X w0 r w' L→K (.bool (kT ss k)) w') :
  zH Tryz.prog (.func (.func Tryz.x7) #[] #[.pointer (some ⟨b1,0,none⟩)]) #[.int .i64 k] w K:=by
 refine kI (by kernel_rfl) ?_
 refine Tryz.Ji (t0:=.int .i64 k) (t1:=.pointer (some ⟨b1,0,none⟩)) ?_
 unfold Tryz.ZZ
 refine gL_ ?_
 exact abg (XX (qJ h1)) h32 hk (fun k=>xL (qJ h1) k) S.holds hs fun w9 e9=>h _ (S.go e9)
theorem Vz {k : Nat} (hk : k<ss.length) (h32 : ss.length≤32) (h1 : ¬ xb ss.length (y6 ss)<ss.length) (h2 : ¬ xb ss.length (kT ss)<ss.length) (hs : StG r p ss) (S : StX X w0 r w L) [At b1 L [.slice p ss.length cap] 22 f1] (h : ∀ w',StX X w0 r w' L→K (.bool (vQ ss k)) w') :
  zH Tryz.prog (.func (.func Tryz.x8) #[] #[.pointer (some ⟨b1,0,none⟩)]) #[.int .i64 k] w K:=by
 refine kI (by kernel_rfl) ?_
 refine Tryz.Jj (t0:=.int .i64 k) (t1:=.pointer (some ⟨b1,0,none⟩)) ?_
 unfold Tryz.Z0
 refine gL_ ?_
 refine zy (cs:=#[.int .u8 5,.bool false,.int .i64 0,.int .i64 k,.slice none 0 0]) (by kernel_rfl) ?_
 have hg:=XX (qJ h1)
 refine ads hg (Vj hg (qJ h2)) 40 (t:=.mk 5 false 0 k []) (by decide) (by have:=abe ss (.mk 5 false 0 k []);omega) ?_ (by omega) (fun k=>xL (qJ h1) k) S.holds hs (xe (r:=r)) fun w9 e9=>?_
 ·rw [xp]
  simp [TyD.k,TyD.m,TyD.re,TyD.of,TyD.st]
  omega
 ·refine gP_ ?_
  have:=h _ (S.go e9)
  rw [vQ] at this
  rw [show decide ((((min (wF ss 40 (.mk 5 false 0 k [])) 17 : Nat) : Int)) > 16)=decide (16<wF ss 40 (.mk 5 false 0 k [])) from decide_eq_decide.2 (by omega)]
  exact this
end
theorem Xg {ss : List StD} {p : Option Addr} {cap : Nat} {w : World} {r : Gh} {K : Value→World→Prop} (hr : Holds r w) (hs : StG r p ss)
  (h : ∀ w',Ext w w'→K (.tuple #[.int .i64 (zw ss).1,.int .i64 (zw ss).2]) w') : zd Tryz.prog Tryz.k6 #[.slice p ss.length cap] w K:=by
 refine Tryz.aal ?_
 unfold Tryz.Y5
 have S:=St.start hr
 refine S.box fun b1 w1 S=>?_
 refine gL_ ?_
 refine gP_ ?_
 refine S.al fun b4 w2 S=>?_
 refine S.st fun w3 S=>?_
 refine gL_ ?_
 refine gP_ ?_
 refine c_b (fun hbig=>?_) (fun hsm=>?_)
 ·have hbig : 32<ss.length:=by have:=of_decide_eq_true hbig;omega
  rw [zw,if_pos hbig] at h
  exact h _ S.ext
 have hsm : ¬ 32<ss.length:=by have:=of_decide_eq_false hsm;omega
 rw [zw,if_neg hsm] at h
 refine gP_ ?_
 refine gP_ ?_
 refine gP_ ?_
 refine S.lit (e:=79) (cs:=[.func (.func Tryz.x6) #[] #[.pointer (some ⟨b1,0,none⟩),.pointer (some ⟨b4,0,none⟩)],.func (.func Tryz.x7) #[] #[.pointer (some ⟨b1,0,none⟩)],.func (.func Tryz.x8) #[] #[.pointer (some ⟨b1,0,none⟩)]]) (by kernel_rfl) fun b16 w4 S=>?_
 refine gP_ ?_
 have S : StX noX w r w4 [.cell b16 [.func (.func Tryz.x6) #[] #[.pointer (some ⟨b1,0,none⟩),.pointer (some ⟨b4,0,none⟩)],.func (.func Tryz.x7) #[] #[.pointer (some ⟨b1,0,none⟩)],.func (.func Tryz.x8) #[] #[.pointer (some ⟨b1,0,none⟩)]] 79,
  .cell b4 [.int .i64 (ss.length : Nat)] 3,.cell b1 [.slice p ss.length cap] 22]:=S
 refine zi (ι:=Nat) (fun i=>[.int .i64 i]) (fun i w'=>i≤3∧(0<i→¬ xb ss.length (y6 ss)<ss.length)∧(1<i→¬ xb ss.length (kT ss)<ss.length)∧(2<i→¬ xb ss.length (vQ ss)<ss.length)∧StX noX w r w' _) (fun i=>3 - i) 0 rfl
  ⟨by decide,fun h=>by omega,fun h=>by omega,fun h=>by omega,S⟩ ?_
 clear S
 rintro i d w5 ⟨hi,h1,h2,h3,S⟩ K6 hK6
 rw [List.getD_cons_zero]
 refine gP_ ?_
 match i,hi,h1,h2,h3 with
 |0,_,_,_,_=>
  refine c_t (by decide) ?_
  refine gP_ ?_
  refine S.ld (b:=b16) ?_ rfl
  refine S.ld (b:=b4) ?_ rfl
  refine ZJ (q:=y6 ss) (by omega) (fun i hi {w} {K} S k=>Vx hi hs S k) S fun w9 S=>?_
  refine S.ld (b:=b4) ?_ rfl
  refine gP_ ?_
  refine c_b (fun hl=>?_) (fun hl=>?_)
  ·rw [if_pos (by have:=of_decide_eq_true hl;omega)] at h
   exact h _ S.ext
  ·refine gP_ ?_
   exact hK6 1 _ ⟨by decide,fun _=>by have:=of_decide_eq_false hl;omega,fun h=>by omega,fun h=>by omega,S⟩ (by decide)
 |1,_,h1,_,_=>
  have h1:=h1 (by decide)
  rw [if_neg h1] at h
  refine c_t (by decide) ?_
  refine gP_ ?_
  refine S.ld (b:=b16) ?_ rfl
  refine S.ld (b:=b4) ?_ rfl
  refine ZJ (q:=kT ss) (by omega) (fun i hi {w} {K} S k=>Vy hi (by omega) h1 hs S k) S fun w9 S=>?_
  refine S.ld (b:=b4) ?_ rfl
  refine gP_ ?_
  refine c_b (fun hl=>?_) (fun hl=>?_)
  ·rw [if_pos (by have:=of_decide_eq_true hl;omega)] at h
   exact h _ S.ext
  ·refine gP_ ?_
   exact hK6 2 _ ⟨by decide,fun _=>h1,fun _=>by have:=of_decide_eq_false hl;omega,fun h=>by omega,S⟩ (by decide)
 |2,_,h1,h2,_=>
  have h1:=h1 (by decide)
  have h2:=h2 (by decide)
  rw [if_neg h1,if_neg h2] at h
  refine c_t (by decide) ?_
  refine gP_ ?_
  refine S.ld (b:=b16) ?_ rfl
  refine S.ld (b:=b4) ?_ rfl
  refine ZJ (q:=vQ ss) (by omega) (fun i hi {w} {K} S k=>Vz hi (by omega) h1 h2 hs S k) S fun w9 S=>?_
  refine S.ld (b:=b4) ?_ rfl
  refine gP_ ?_
  refine c_b (fun hl=>?_) (fun hl=>?_)
  ·rw [if_pos (by have:=of_decide_eq_true hl;omega)] at h
   exact h _ S.ext
  ·refine gP_ ?_
   exact hK6 3 _ ⟨by decide,fun _=>h1,fun _=>h2,fun _=>by have:=of_decide_eq_false hl;omega,S⟩ (by decide)
 |3,_,h1,h2,h3=>
  have h1:=h1 (by decide)
  have h2:=h2 (by decide)
  have h3:=h3 (by decide)
  rw [if_neg h1,if_neg h2,if_neg h3] at h
  refine c_f (by decide) ?_
  exact h _ S.ext
noncomputable def mayB (ss : List StD) (t : TyD) : Bool:=decide ((zw ss).2=0)&&zz ss.length 48 t
theorem Yz {ss : List StD} {t : TyD} (h : mayB ss t=true) : (zw ss).2=0∧zz ss.length 48 t=true:=by
 simpa [mayB] using h
theorem XB {ss : List StD} {t : TyD} {p : Option Addr} {cap : Nat} {w : World} {r : Gh} {v : Value} {K : Value→World→Prop} (hr : Holds r w) (hs : StG r p ss) (hv : TyG r v t)
  (h : ∀ w',Ext w w'→K (.bool (mayB ss t)) w') : zd Tryz.prog Tryz.jc #[.slice p ss.length cap,v] w K:=by
 refine Tryz.aeC ?_
 unfold Tryz.VQ
 have hv0:=hv
 obtain ⟨p1,cap1,rfl,_⟩:=hv
 have S:=St.start hr
 refine S.box fun b3 w1 S=>?_
 refine Xg S.holds hs fun w2 e2=>?_
 have S:=S.go e2
 refine gP_ ?_
 refine gP_ ?_
 refine gP_ ?_
 refine zs (c:=zz ss.length 48 t) (fun _ K2 hK2=>?_) fun w3 e3=>h _ (S.go e3).ext
 refine gL_ ?_
 refine gP_ ?_
 exact Yv 48 (by decide) S.holds hv0 fun w3 e3=>hK2 _ e3
theorem adt {ss : List StD} {p : Option Addr} {cap : Nat} (hg : xG ss) (hac : ∀ k,¬ Rch ss k k) : ∀ (m : Nat) {t : TyD} {w : World} {r : Gh} {v : Value} {K : Value→World→Prop},m≤100→rkT ss t≤m→zz ss.length 48 t=true→ss.length≤32→(∀ k,(ze ss k).length≤8)→
  Holds r w→StG r p ss→TyG r v t→(∀ w',Ext w w'→K (.bool (dF ss m t)) w')→zd Tryz.prog Tryz.jm #[.slice p ss.length cap,v] w K:=by
 intro m
 induction m with
 |zero=>
  intro t w r v K _ hrk hl h32 h8 hr hs hv h
  have h5 : ¬ t.k=5:=fun h=>by unfold rkT at hrk;rw [if_pos h] at hrk;omega
  refine Tryz.XR ?_
  unfold Tryz.ZF
  obtain ⟨p1,cap1,rfl,_⟩:=hv
  have S:=St.start hr
  refine S.box fun b2 w1 S=>?_
  refine S.box fun b3 w2 S=>?_
  refine gG_ ?_
  refine c_b (fun h3=>?_) (fun h3=>?_)
  ·have:=h _ S.ext
   rwa [dF,h3] at this
  ·refine gG_ ?_
   refine c_b (fun h5'=>absurd (of_decide_eq_true h5') h5) (fun _=>?_)
   have:=h _ S.ext
   rwa [dF,h3] at this
 |succ m ih=>
  intro t w r v K hm hrk hl h32 h8 hr hs hv h
  refine Tryz.XR ?_
  unfold Tryz.ZF
  obtain ⟨p1,cap1,rfl,_⟩:=hv
  have S:=St.start hr
  refine S.box fun b2 w1 S=>?_
  refine S.box fun b3 w2 S=>?_
  refine gG_ ?_
  refine c_b (fun h3=>?_) (fun h3=>?_)
  ·have:=h _ S.ext
   have h3':=of_decide_eq_true h3
   rwa [dF,if_neg (by omega),h3] at this
  refine gG_ ?_
  refine c_b (fun h5=>?_) (fun h5=>?_)
  ·have h5 : t.k=5:=of_decide_eq_true h5
   obtain ⟨hst0,hst1,_⟩:=qI hl h5
   have hlt : t.st.toNat<ss.length:=by omega
   obtain ⟨b,off,q,capq,rfl,hcell,_,_,hf⟩:=xE hs hlt
   refine gG_ ?_
   refine zg (S.at hcell) ?_
   have htl : ze ss t.st=ss[t.st.toNat].fs.map (·.2):=by
    rw [← yz hlt];simp only [ze,Int.toNat_natCast]
   have hlen : (ze ss t.st).length=ss[t.st.toNat].fs.length:=by rw [htl,List.length_map]
   have h88:=h8 t.st
   refine gP_ ?_
   refine Zt (g:=dF ss m) hf (by omega) (fun f hfm {c} {w7} {K} hcl hty S hK=>?_) S fun w8 S=>?_
   ·refine Qf (by kernel_rfl) ?_
    refine Tryz.aao ?_
    unfold Tryz.Y8
    refine S.box fun b4 w8 S=>?_
    have S : StX noX w r w8 (.cell b4 (.string f.1::c) 156::_):=S
    refine S.ld (b:=b2) ?_ rfl
    refine gP_ ?_
    refine S.fty hcl ?_
    have hmem : f.2 ∈ ze ss t.st:=by rw [htl];exact List.mem_map.2 ⟨f,hfm,rfl⟩
    have hrk2:=abf hg hac h5 hmem
    exact ih (by omega) (by omega) (hg _ _ hmem) h32 h8 S.holds hs hty fun w5 e5=>hK _ (S.go e5).tl
   ·rw [dF,if_pos h5,htl] at h
    exact h _ S.ext
  ·have:=h _ S.ext
   rwa [dF,if_neg (of_decide_eq_false h5),h3] at this
noncomputable def kL (ss : List StD) (t : TyD) : Bool × Int:=if mayB ss t then (dF ss 40 t,0) else (false,2)
theorem adu {ss : List StD} {t : TyD} {p : Option Addr} {cap : Nat} {w : World} {r : Gh} {v : Value} {K : Value→World→Prop} (hr : Holds r w) (hs : StG r p ss) (hv : TyG r v t)
  (h : ∀ w',Ext w w'→K (.tuple #[.bool (kL ss t).1,.int .i64 (kL ss t).2]) w') : zd Tryz.prog Tryz.Zz #[.slice p ss.length cap,v] w K:=by
 refine Tryz.acb ?_
 unfold Tryz.QH
 have hv0:=hv
 obtain ⟨p1,cap1,rfl,_⟩:=hv
 have S:=St.start hr
 refine S.box fun b3 w1 S=>?_
 refine gL_ ?_
 refine XB S.holds hs hv0 fun w2 e2=>?_
 have S:=S.go e2
 refine gP_ ?_
 refine c_b (fun hn=>?_) (fun hn=>?_)
 ·have hn : mayB ss t=false:=by simpa using hn
  rw [kL,hn] at h
  exact h _ S.ext
 have hn : mayB ss t=true:=by simpa using hn
 rw [kL,if_pos hn] at h
 obtain ⟨hok,hl⟩:=Yz hn
 obtain ⟨h32,hb1,hg,hac,_,_⟩:=xS hok
 refine gL_ ?_
 refine adt hg hac 40 (by decide) (by have:=abe ss t;omega) hl h32 (xL hb1) S.holds hs hv0 fun w3 e3=>h _ (S.go e3).ext
end Go.Proofs
end
section
namespace Go.Proofs
open Go.Sh
set_option maxRecDepth 100000
set_option linter.unusedSimpArgs false
set_option linter.unusedVariables false
theorem aiO {s : Int} {n : Nat} {t : TyD} (h : zz s (n+1) t=true) : (decide (t.regs.length=0))=(decide (t.k≠4)&&(decide (t.k≠3)||(match t.of with|u::_=>decide (u.regs.length=0)|[]=>false))):=by
 rcases ym h with ⟨ho,hk⟩|⟨u,ho,_,hk⟩
 ·rw [aas ho,if_neg (by omega)]
  have h3 : t.k≠3:=by omega
  have h4 : t.k≠4:=by omega
  simp [h3,h4]
 ·rw [aat ho,ho]
  by_cases h4 : t.k=4
  ·simp [h4]
  ·have h3 : t.k=3:=by omega
   simp [h3]
theorem adv {s : Int} : ∀ (n : Nat) {t : TyD} {w : World} {r : Gh} {v : Value} {K : Value→World→Prop},n≤1000→zz s n t=true→Holds r w→TyG r v t→
  (∀ w',Ext w w'→K (.bool (decide (t.regs.length=0))) w')→zd Tryz.prog Tryz.jo #[v] w K:=by
 intro n
 induction n with
 |zero=>intro t w r v K _ h;cases h
 |succ n ih=>
  intro t w r v K hn hl hr hv h
  refine Tryz.acf ?_
  unfold Tryz.QM
  obtain ⟨p1,cap1,rfl,_,_,hof⟩:=hv
  have S:=St.start hr
  refine S.box fun b1 w1 S=>?_
  refine gG_ ?_
  have hpl:=aiO hl
  refine zp (fun s w'=>s=(if t.k≠4 then [.bool (decide (t.k≠3))] else [undef])∧w'=w1) (fun K2 hK2=>?_) ?_
  ·by_cases h4 : t.k=4
   ·rw [decide_eq_false (by simpa using h4)]
    refine gD_ ?_
    exact hK2 _ _ ⟨by rw [if_neg (by simpa using h4)],rfl⟩
   ·rw [decide_eq_true (by simpa using h4)]
    refine g_TT ?_
    refine gG_ ?_
    exact hK2 _ _ ⟨by rw [if_pos h4],rfl⟩
  rintro _ w1 ⟨rfl,rfl⟩ d
  by_cases h4 : t.k=4
  ·rw [if_neg (by simpa using h4)]
   rw [show decide (t.k≠4)=false by simp [h4]]
   refine zp (fun s w'=>s = [undef]∧w'=w1) (fun K2 hK2=>?_) ?_
   ·refine gD_ ?_
    exact hK2 _ _ ⟨rfl,rfl⟩
   rintro _ w1 ⟨rfl,rfl⟩ d
   refine zp (fun s w'=>s = [undef]∧w'=w1) (fun K2 hK2=>?_) ?_
   ·refine gD_ ?_
    exact hK2 _ _ ⟨rfl,rfl⟩
   rintro _ w1 ⟨rfl,rfl⟩ d
   refine k_pickF ?_
   have:=h _ S.ext
   rw [hpl] at this
   simpa [h4] using this
  ·rw [if_pos h4,show decide (t.k≠4)=true by simp [h4],List.getD_cons_zero]
   refine zp (fun s w'=>s = [if t.k≠3 then undef else .bool (decide (t.regs.length=0))]∧Ext w1 w') (fun K2 hK2=>?_) ?_
   ·by_cases h3 : t.k=3
    ·rw [decide_eq_false (by simpa using h3)]
     refine g_FF ?_
     refine gG_ ?_
     rcases ym hl with ⟨_,hk⟩|⟨u,ho,hu,_⟩
     ·omega
     have hlen : t.of.length=1:=by rw [ho];rfl
     obtain ⟨ba,oa,rfl,c,hc,hcell,ht⟩:=NdG.of hof (i:=0) (by omega)
     have ht : TyG r (.agg c.toArray) u:=by simpa [ho] using ht
     refine gG_ ?_
     refine zq (n:=5) hc (fun j v hj=>by simpa using S.at (hcell j v hj)) ?_
     refine ih (by omega) hu S.holds ht fun w2 e2=>hK2 _ _ ⟨?_,e2⟩
     rw [if_neg (by simpa using h3),hpl,ho]
     simp [h3]
    ·rw [decide_eq_true (by simpa using h3)]
     refine g_TF ?_
     exact hK2 _ _ ⟨by rw [if_pos h3],.refl _⟩
   rintro _ w2 ⟨rfl,e2⟩ d
   have S:=S.go e2
   refine zp (fun s w'=>s = [.bool (decide (t.regs.length=0))]∧w'=w2) (fun K2 hK2=>?_) ?_
   ·refine g_TT ?_
    refine ⟨_,rfl,?_⟩
    refine hK2 _ _ ⟨?_,rfl⟩
    by_cases h3 : t.k=3
    ·simp [h3]
    ·rw [show decide (t.k≠3)=true by simp [h3],hpl];simp [h3,h4]
   rintro _ w3 ⟨rfl,rfl⟩ d
   refine k_pickT ?_
   exact h _ S.ext
theorem adw {ss : List StD} {p : Option Addr} {cap : Nat} (hg : xG ss) (hac : ∀ k,¬ Rch ss k k) : ∀ (m : Nat) {t : TyD} {most : Nat} {w : World} {r : Gh} {v : Value} {K : Value→World→Prop},m≤100→most≤100→rkT ss t≤m→zz ss.length 48 t=true→ss.length≤32→(∀ k,(ze ss k).length≤8)→
  Holds r w→StG r p ss→TyG r v t→(∀ w',Ext w w'→K (.int .i64 (min (wF ss m t) (most+1) : Nat)) w')→zd Tryz.prog Tryz.jp #[.slice p ss.length cap,v,.int .i64 (most : Nat)] w K:=by
 intro m
 induction m with
 |zero=>
  intro t most w r v K _ hmost hrk hl h32 h8 hr hs hv h
  have h5 : ¬ t.k=5:=fun h=>by unfold rkT at hrk;rw [if_pos h] at hrk;omega
  refine Tryz.XV ?_
  unfold Tryz.ZH
  obtain ⟨p1,cap1,rfl,_⟩:=hv
  have S:=St.start hr
  refine S.box fun b3 w1 S=>?_
  refine gG_ ?_
  refine zk (fun _=>?_) (fun hn=>absurd (by omega) h5)
  have:=h _ S.ext
  rw [wF,show min 1 (most+1)=1 by omega] at this
  exact this
 |succ m ih=>
  intro t most w r v K hm hmost hrk hl h32 h8 hr hs hv h
  refine Tryz.XV ?_
  unfold Tryz.ZH
  obtain ⟨p1,cap1,rfl,_⟩:=hv
  have S:=St.start hr
  refine S.box fun b3 w1 S=>?_
  refine gG_ ?_
  refine zk (fun hn=>?_) (fun h5=>?_)
  ·have:=h _ S.ext
   rw [wF,if_neg (by omega),show min 1 (most+1)=1 by omega] at this
   exact this
  have h5 : t.k=5:=by omega
  obtain ⟨hst0,hst1,_⟩:=qI hl h5
  have hlt : t.st.toNat<ss.length:=by omega
  obtain ⟨b,off,q,capq,rfl,hcell,_,_,hf⟩:=xE hs hlt
  refine gG_ ?_
  refine zg (S.at hcell) ?_
  have htl : ze ss t.st=ss[t.st.toNat].fs.map (·.2):=by
   rw [← yz hlt];simp only [ze,Int.toNat_natCast]
  have hlen : (ze ss t.st).length=ss[t.st.toNat].fs.length:=by rw [htl,List.length_map]
  have h88:=h8 t.st
  refine zi (ι:=Nat) (fun i=>[.int .i64 (min (ya (((ze ss t.st).take i).map (wF ss m))) (most+1) : Nat),.int .i64 i]) (fun i w'=>i≤(ze ss t.st).length∧St w r w' _)
   (fun i=>(ze ss t.st).length - i) 0 (by simp [ya]) ⟨Nat.zero_le _,S⟩ ?_
  clear S
  rintro i d w2 ⟨hi,S⟩ K6 hK6
  rw [List.getD_cons_zero,List.getD_cons_succ,List.getD_cons_zero]
  refine gP_ ?_
  refine gP_ ?_
  have hle : ya (((ze ss t.st).take i).map (wF ss m))≤wF ss (m+1) t:=by
   rw [wF,if_pos h5];exact ach _ _ _
  refine zf (c:=decide (ya (((ze ss t.st).take i).map (wF ss m))≤most)) (fun _ K2 hK2=>?_) ?_
  ·refine gP_ ?_
   rw [show decide (((min (ya (((ze ss t.st).take i).map (wF ss m))) (most+1) : Nat) : Int)≤(most : Int))=decide (ya (((ze ss t.st).take i).map (wF ss m))≤most) from decide_eq_decide.2 (by omega)]
   exact hK2
  refine c_b (fun hlt2=>?_) (fun hge=>?_)
  ·obtain ⟨hlt2,hsm⟩ : i<ss[t.st.toNat].fs.length∧ya (((ze ss t.st).take i).map (wF ss m))≤most:=by
    simp only [Bool.and_eq_true,decide_eq_true_eq] at hlt2;omega
   have hlt3 : i<(ze ss t.st).length:=by omega
   obtain ⟨b2,off2,c,rfl,hcl,hcc,hty⟩:=qd hf hlt2
   refine gP_ ?_
   refine gP_ ?_
   refine zq (n:=5) (c:=c) hcl (fun j v hj=>by
    have:=S.at (hcc (j+1) v (by simpa using hj))
    rw [Int.toNat_natCast,Nat.add_assoc _ 1 j,Nat.add_comm 1 j];exact this) ?_
   have hel : (ze ss t.st)[i]=ss[t.st.toNat].fs[i].2:=by simp only [htl,List.getElem_map]
   have hmem : ss[t.st.toNat].fs[i].2 ∈ ze ss t.st:=by rw [← hel];exact List.getElem_mem hlt3
   have hrk2:=abf hg hac h5 hmem
   refine gP_ ?_
   have e1 : (most : Int) - ((min (ya (((ze ss t.st).take i).map (wF ss m))) (most+1) : Nat) : Int)=((most - ya (((ze ss t.st).take i).map (wF ss m)) : Nat) : Int):=by omega
   rw [e1]
   refine ih (by omega) (by omega) (by omega) (hg _ _ hmem) h32 h8 S.holds hs hty fun w5 e5=>?_
   have S:=S.go e5
   have hst:=Jl (wF ss m) hlt3
   rw [hel] at hst
   refine gP_ ?_
   refine gP_ ?_
   have e2 : ((min (ya (((ze ss t.st).take i).map (wF ss m))) (most+1) : Nat) : Int)+((min (wF ss m ss[t.st.toNat].fs[i].2) (most - ya (((ze ss t.st).take i).map (wF ss m))+1) : Nat) : Int)=((min (ya (((ze ss t.st).take (i+1)).map (wF ss m))) (most+1) : Nat) : Int):=by omega
   rw [e2,show ((i : Int)+1)=((i+1 : Nat) : Int) by omega]
   exact hK6 (i+1) _ ⟨hlt3,S⟩ (by omega)
  ·have:=h _ S.ext
   have e : min (wF ss (m+1) t) (most+1)=min (ya (((ze ss t.st).take i).map (wF ss m))) (most+1):=by
    by_cases hie : i=(ze ss t.st).length
    ·rw [hie,List.take_length,wF,if_pos h5]
    ·have h1 : ¬ ya (((ze ss t.st).take i).map (wF ss m))≤most:=by
      intro hc
      rw [decide_eq_true hc,Bool.and_true,decide_eq_false_iff_not] at hge
      omega
     omega
   rw [e] at this
   exact this
theorem adx {ss : List StD} {p : Option Addr} {cap : Nat} (hg : xG ss) (hac : ∀ k,¬ Rch ss k k) : ∀ (m : Nat) {t : TyD} {w : World} {r : Gh} {v : Value} {K : Value→World→Prop},m≤100→rkT ss t≤m→zz ss.length 48 t=true→ss.length≤32→(∀ k,(ze ss k).length≤8)→
  Holds r w→StG r p ss→TyG r v t→(∀ w',Ext w w'→K (.bool (dF ss m t)) w')→zd Tryz.prog Tryz.jn #[.slice p ss.length cap,v] w K:=by
 intro m
 induction m with
 |zero=>
  intro t w r v K _ hrk hl h32 h8 hr hs hv h
  have h5 : ¬ t.k=5:=fun h=>by unfold rkT at hrk;rw [if_pos h] at hrk;omega
  refine Tryz.XU ?_
  unfold Tryz.ZG
  obtain ⟨p1,cap1,rfl,_⟩:=hv
  have S:=St.start hr
  refine S.box fun b3 w1 S=>?_
  refine gG_ ?_
  refine zk (fun _=>?_) (fun hn=>absurd (by omega) h5)
  refine gG_ ?_
  exact h _ S.ext
 |succ m ih=>
  intro t w r v K hm hrk hl h32 h8 hr hs hv h
  refine Tryz.XU ?_
  unfold Tryz.ZG
  obtain ⟨p1,cap1,rfl,_⟩:=hv
  have S:=St.start hr
  refine S.box fun b3 w1 S=>?_
  refine gG_ ?_
  refine zk (fun hn=>?_) (fun h5=>?_)
  ·refine gG_ ?_
   have:=h _ S.ext
   rw [dF,if_neg (by omega)] at this
   exact this
  have h5 : t.k=5:=by omega
  obtain ⟨hst0,hst1,_⟩:=qI hl h5
  have hlt : t.st.toNat<ss.length:=by omega
  obtain ⟨b,off,q,capq,rfl,hcell,_,_,hf⟩:=xE hs hlt
  refine gG_ ?_
  refine zg (S.at hcell) ?_
  have htl : ze ss t.st=ss[t.st.toNat].fs.map (·.2):=by
   rw [← yz hlt];simp only [ze,Int.toNat_natCast]
  have hlen : (ze ss t.st).length=ss[t.st.toNat].fs.length:=by rw [htl,List.length_map]
  have h88:=h8 t.st
  rw [dF,if_pos h5] at h
  refine zi (ι:=Nat) (fun i=>[.int .i64 i]) (fun i w'=>i≤(ze ss t.st).length∧((ze ss t.st).take i).any (dF ss m)=false∧St w r w' _)
   (fun i=>(ze ss t.st).length - i) 0 rfl ⟨Nat.zero_le _,by simp,S⟩ ?_
  clear S
  rintro i d w2 ⟨hi,hno,S⟩ K6 hK6
  rw [List.getD_cons_zero]
  refine gP_ ?_
  refine gP_ ?_
  refine c_b (fun hlt2=>?_) (fun hge=>?_)
  ·have hlt2 : i<ss[t.st.toNat].fs.length:=by simpa using hlt2
   have hlt3 : i<(ze ss t.st).length:=by omega
   obtain ⟨b2,off2,c,rfl,hcl,hcc,hty⟩:=qd hf hlt2
   refine gP_ ?_
   refine gP_ ?_
   refine zq (n:=5) (c:=c) hcl (fun j v hj=>by
    have:=S.at (hcc (j+1) v (by simpa using hj))
    rw [Int.toNat_natCast,Nat.add_assoc _ 1 j,Nat.add_comm 1 j];exact this) ?_
   have hel : (ze ss t.st)[i]=ss[t.st.toNat].fs[i].2:=by simp only [htl,List.getElem_map]
   have hmem : ss[t.st.toNat].fs[i].2 ∈ ze ss t.st:=by rw [← hel];exact List.getElem_mem hlt3
   have hrk2:=abf hg hac h5 hmem
   refine ih (by omega) (by omega) (hg _ _ hmem) h32 h8 S.holds hs hty fun w5 e5=>?_
   have S:=S.go e5
   refine c_b (fun hy=>?_) (fun hn=>?_)
   ·have:=h _ S.ext
    rwa [List.any_eq_true.2 ⟨_,hmem,hy⟩] at this
   ·refine gP_ ?_
    rw [show ((i : Int)+1)=((i+1 : Nat) : Int) by omega]
    refine hK6 (i+1) _ ⟨hlt3,?_,S⟩ (by omega)
    rw [List.take_succ_eq_append_getElem hlt3,List.any_append,hno,hel]
    simp [hn]
  ·have hie : i=(ze ss t.st).length:=by
    have : ¬ i<ss[t.st.toNat].fs.length:=by simpa using hge
    omega
   rw [hie,List.take_length] at hno
   have:=h _ S.ext
   rwa [hno] at this
theorem XY {t : TyD} {w : World} {r : Gh} {v : Value} {K : Value→World→Prop} (hr : Holds r w) (hv : TyG r v t) (h : ∀ w',Ext w w'→K (.bool (xK t)) w') : zd Tryz.prog Tryz.qF #[v] w K:=by
 refine Tryz.aa8 ?_
 unfold Tryz.XT
 have hv0:=hv
 obtain ⟨p1,cap1,rfl,_⟩:=hv
 have S:=St.start hr
 refine S.box fun b1 w1 S=>?_
 refine gL_ ?_
 refine aa9 S.holds hv0 fun w2 e2=>?_
 have S:=S.go e2
 have:=h _ S.ext
 rw [xK] at this
 cases hB : isB t
 ·rw [hB,Bool.false_and] at this
  (intro K9 hK9;refine gD_ ?_;refine hK9 _ _ fun _=>?_;clear hK9 K9)
  (intro K9 hK9;refine gD_ ?_;refine hK9 _ _ fun _=>?_;clear hK9 K9)
  (intro K9 hK9;refine gD_ ?_;refine hK9 _ _ fun _=>?_;clear hK9 K9)
  (intro K9 hK9;refine gD_ ?_;refine hK9 _ _ fun _=>?_;clear hK9 K9)
  (intro K9 hK9;refine gD_ ?_;refine hK9 _ _ fun _=>?_;clear hK9 K9)
  (intro K9 hK9;refine gD_ ?_;refine hK9 _ _ fun _=>?_;clear hK9 K9)
  (intro K9 hK9;refine gD_ ?_;refine hK9 _ _ fun _=>?_;clear hK9 K9)
  refine gD_ ?_
  exact this
 ·rw [hB,Bool.true_and] at this
  cases h1 : decide (t.k=1)
  ·cases h2 : decide (t.k=2)
   ·cases h4 : decide (t.k=4)
    ·rw [h1,h2,h4] at this
     intro K9 hK9;refine g_TT ?_;refine gG_ ?_;rw [h1];refine hK9 _ _ fun _=>?_;clear hK9 K9
     intro K9 hK9;refine g_FF ?_;refine gG_ ?_;rw [h2];refine hK9 _ _ fun _=>?_;clear hK9 K9
     (intro K9 hK9;refine gD_ ?_;refine hK9 _ _ fun _=>?_;clear hK9 K9)
     intro K9 hK9;refine g_FF ?_;refine gG_ ?_;rw [h4];refine hK9 _ _ fun _=>?_;clear hK9 K9
     (intro K9 hK9;refine gD_ ?_;refine hK9 _ _ fun _=>?_;clear hK9 K9)
     (intro K9 hK9;refine gD_ ?_;refine hK9 _ _ fun _=>?_;clear hK9 K9)
     (intro K9 hK9;refine gD_ ?_;refine hK9 _ _ fun _=>?_;clear hK9 K9)
     refine gD_ ?_
     exact this
    ·rw [h1,h2,h4] at this
     intro K9 hK9;refine g_TT ?_;refine gG_ ?_;rw [h1];refine hK9 _ _ fun _=>?_;clear hK9 K9
     intro K9 hK9;refine g_FF ?_;refine gG_ ?_;rw [h2];refine hK9 _ _ fun _=>?_;clear hK9 K9
     (intro K9 hK9;refine gD_ ?_;refine hK9 _ _ fun _=>?_;clear hK9 K9)
     intro K9 hK9;refine g_FF ?_;refine gG_ ?_;rw [h4];refine hK9 _ _ fun _=>?_;clear hK9 K9
     (intro K9 hK9;refine gD_ ?_;refine hK9 _ _ fun _=>?_;clear hK9 K9)
     (intro K9 hK9;refine gD_ ?_;refine hK9 _ _ fun _=>?_;clear hK9 K9)
     (intro K9 hK9;refine gD_ ?_;refine hK9 _ _ fun _=>?_;clear hK9 K9)
     refine gD_ ?_
     simpa using this
   ·rw [h1,h2] at this
    intro K9 hK9;refine g_TT ?_;refine gG_ ?_;rw [h1];refine hK9 _ _ fun _=>?_;clear hK9 K9
    intro K9 hK9;refine g_FF ?_;refine gG_ ?_;rw [h2];refine hK9 _ _ fun _=>?_;clear hK9 K9
    (intro K9 hK9;refine gD_ ?_;refine hK9 _ _ fun _=>?_;clear hK9 K9)
    (intro K9 hK9;refine gD_ ?_;refine hK9 _ _ fun _=>?_;clear hK9 K9)
    (intro K9 hK9;refine gD_ ?_;refine hK9 _ _ fun _=>?_;clear hK9 K9)
    (intro K9 hK9;refine gD_ ?_;refine hK9 _ _ fun _=>?_;clear hK9 K9)
    (intro K9 hK9;refine gD_ ?_;refine hK9 _ _ fun _=>?_;clear hK9 K9)
    refine gD_ ?_
    exact this
  ·rw [h1] at this
   intro K9 hK9;refine g_TT ?_;refine gG_ ?_;rw [h1];refine hK9 _ _ fun _=>?_;clear hK9 K9
   (intro K9 hK9;refine gD_ ?_;refine hK9 _ _ fun _=>?_;clear hK9 K9)
   (intro K9 hK9;refine gD_ ?_;refine hK9 _ _ fun _=>?_;clear hK9 K9)
   (intro K9 hK9;refine gD_ ?_;refine hK9 _ _ fun _=>?_;clear hK9 K9)
   (intro K9 hK9;refine gD_ ?_;refine hK9 _ _ fun _=>?_;clear hK9 K9)
   (intro K9 hK9;refine gD_ ?_;refine hK9 _ _ fun _=>?_;clear hK9 K9)
   (intro K9 hK9;refine gD_ ?_;refine hK9 _ _ fun _=>?_;clear hK9 K9)
   refine gD_ ?_
   exact this
end Go.Proofs
end
section
namespace Go.Proofs
open Go.Sh
set_option maxRecDepth 100000
set_option linter.unusedSimpArgs false
set_option linter.unusedVariables false
theorem ahN (n : Nat) : z8 (List.replicate n false)=List.replicate n (.bool false):=by rw [z8,List.map_replicate]
theorem akP (n : Nat) : cf (List.replicate n false)=n:=by
 induction n with
 |zero=>rfl
 |succ n ih=>rw [List.replicate_succ,cf,ih];simp;omega
theorem ahO {T : List Int} {n : Nat} {j : Int} (h : n≤T.length) : (T ++ [j]).drop n=T.drop n ++ [j]:=List.drop_append_of_le_length h
theorem abh {ss : List StD} {p : Option Addr} {cap k : Nat} (hg : xG ss) (h32 : ss.length≤32) (hk : k<ss.length) (h8 : ∀ k,(ze ss k).length≤8) {w : World} {r : Gh} {K : Value→World→Prop} (hr : Holds r w) (hs : StG r p ss)
  (h : ∀ w',Ext w w'→K (.bool (kT ss k)) w') : zd Tryz.prog Tryz.jY #[.slice p ss.length cap,.int .i64 k] w K:=by
 refine Tryz.aar ?_
 unfold Tryz.Xb
 have S:=St.start hr
 refine gP_ ?_
 refine S.mkS (z:=.bool false) (by omega) (by omega) fun b13 w1 S=>?_
 rw [Int.toNat_natCast,← ahN] at S
 refine S.lit (e:=3) (cs:=[.int .i64 k]) (by kernel_rfl) fun b16 w2 S=>?_
 have S:=S.ownNil 3 1
 refine S.ap (Sl.blk (S.blk b16)) (fun v17 w3 S=>?_) (by omega)
 rw [Int.toNat_natCast]
 have S : StX noX w r w3 [.row v17 3 1 [(k : Int)].length (ints [(k : Int)]),.cell b13 (z8 (List.replicate ss.length false)) 4]:=S.drop b16
 refine zi (ι:=List Int × Nat × List Bool × Value) (fun i=>[i.2.2.2,.int .i64 i.2.1]) (fun i w'=>QI ss k ss.length (i.1.drop i.2.1) i.2.2.1 none∧i.2.1≤i.1.length∧mt i.2.2.1 k=false∧cf i.2.2.1+i.1.length≤33∧StX noX w r w' [.row i.2.2.2 3 1 i.1.length (ints i.1),.cell b13 (z8 i.2.2.1) 4])
  (fun i=>2*cf i.2.2.1+(i.1.length - i.2.1)) ([(k : Int)],0,List.replicate ss.length false,v17) rfl ⟨QI.start (Nat.le_refl _) (by omega) (by omega),by simp,?_,by rw [akP,List.length_singleton];omega,S⟩ ?_
 ·unfold mt;rw [List.getD_eq_getElem?_getD,List.getElem?_replicate];split<;>rfl
 clear S
 rintro ⟨T,n,met,v⟩ d w4 ⟨hq,hn,hmk,hc33,S⟩ K4 hK4
 simp only at hq hn hmk hc33 S ⊢
 rw [List.getD_cons_zero,List.getD_cons_succ,List.getD_cons_zero]
 have S0:=S
 obtain ⟨pv,capv,rfl,hpv,hcv,_,hsl⟩:=S.rowS v
 refine gP_ ?_
 refine gP_ ?_
 refine c_b (fun hlt=>?_) (fun hge=>?_)
 ·have hlt : n<T.length:=by simpa using hlt
  obtain ⟨x,hxT⟩ : ∃ x,T[n]? = some x:=⟨_,List.getElem?_eq_getElem hlt⟩
  have hTn : T[n]=x:=by rw [List.getElem?_eq_getElem hlt] at hxT;exact Option.some.inj hxT
  have hdr : T.drop n=x::T.drop (n+1):=by rw [List.drop_eq_getElem_cons hlt,hTn]
  rw [hdr] at hq
  obtain ⟨bq,oq,rfl,hcell⟩:=Yd hsl hlt
  rw [hTn] at hcell
  have hx:=hq.rng x List.mem_cons_self
  refine gP_ ?_
  refine zg (by simpa using hcell) ?_
  have hxn : x.toNat<ss.length:=by omega
  obtain ⟨bs',os',q,capf,rfl,hcs,_,_,hf⟩:=xE hs hxn
  refine gP_ ?_
  refine gP_ ?_
  refine zg (S.at hcs) ?_
  have htl : ze ss x=ss[x.toNat].fs.map (·.2):=by
   rw [← yz hxn];simp only [ze,Int.toNat_natCast]
  have hlen : (ze ss x).length=ss[x.toNat].fs.length:=by rw [htl,List.length_map]
  have h88:=h8 x
  refine zi (ι:=Nat × List Int × List Bool × Value) (fun i=>[i.2.2.2,.int .i64 i.1]) (fun i w'=>i.1≤(ze ss x).length∧QI ss k ss.length (i.2.1.drop (n+1)) i.2.2.1 (some (x,i.1))∧n+1≤i.2.1.length∧mt i.2.2.1 k=false∧cf i.2.2.1+i.2.1.length≤33∧
   2*cf i.2.2.1+(i.2.1.length - (n+1))≤2*cf met+(T.length - (n+1))∧StX noX w r w' [.row i.2.2.2 3 1 i.2.1.length (ints i.2.1),.cell b13 (z8 i.2.2.1) 4]) (fun i=>(ze ss x).length - i.1) (0,T,met,_) rfl ⟨Nat.zero_le _,hq.pop,hlt,hmk,hc33,Nat.le_refl _,S⟩ ?_
  clear S
  rintro ⟨i,T',met',v'⟩ d w5 ⟨hi,hq',hn',hmk',hc',hme,S⟩ K8 hK8
  simp only at hi hq' hn' hmk' hc' hme S ⊢
  rw [List.getD_cons_zero,List.getD_cons_succ,List.getD_cons_zero]
  refine gP_ ?_
  refine gP_ ?_
  refine c_b (fun hlt2=>?_) (fun hge=>?_)
  ·have hlt2 : i<ss[x.toNat].fs.length:=by simpa using hlt2
   have hlt3 : i<(ze ss x).length:=by omega
   have hel : (ze ss x)[i]=ss[x.toNat].fs[i].2:=by simp only [htl,List.getElem_map]
   refine zp (fun s w'=>∃ T2 met2 v2,s = [v2]∧QI ss k ss.length (T2.drop (n+1)) met2 (some (x,i+1))∧n+1≤T2.length∧mt met2 k=false∧cf met2+T2.length≤33∧2*cf met2+T2.length≤2*cf met'+T'.length∧StX noX w r w' [.row v2 3 1 T2.length (ints T2),.cell b13 (z8 met2) 4]) (fun K12 hK12=>?_) ?_
   ·obtain ⟨b2,off2,c,rfl,hcl,hcc,hty⟩:=qd hf hlt2
    refine gP_ ?_
    refine gP_ ?_
    refine zq (n:=5) (c:=c) hcl (fun j v hj=>by
     have:=S.at (hcc (j+1) v (by simpa using hj))
     rw [Int.toNat_natCast,Nat.add_assoc _ 1 j,Nat.add_comm 1 j];exact this) ?_
    refine S.al fun b10 w6 S=>?_
    have hone:=agf hty
    refine S.stB (fun w7 S=>?_) rfl (by simpa using hcl) hone
    obtain ⟨pt,capt,rfl,_⟩:=Yx hty
    have S : StX noX w r w7 [.cell b10 [.int .u8 ss[x.toNat].fs[i].2.k,.bool ss[x.toNat].fs[i].2.m,.int .i64 ss[x.toNat].fs[i].2.re,.int .i64 ss[x.toNat].fs[i].2.st,.slice pt ss[x.toNat].fs[i].2.of.length capt] 93,.row v' 3 1 T'.length (ints T'),.cell b13 (z8 met') 4]:=S
    refine gG_ ?_
    rw [← hel]
    refine c_b (fun h5=>?_) (fun h5=>?_)
    ·have h5 : (ze ss x)[i].k≠5:=of_decide_eq_true h5
     exact hK12 _ _ ⟨T',met',v',rfl,hq'.skip hlt3 fun e=>absurd e h5,hn',hmk',hc',Nat.le_refl _,S.tl⟩
    have h5 : (ze ss x)[i].k=5:=by simpa using h5
    have hkid : Kid ss x (ze ss x)[i].st:=⟨_,List.getElem_mem hlt3,h5,rfl⟩
    have hin:=j1 hg hkid
    have hml:=hq'.len
    refine gG_ ?_
    rw [← hel]
    refine c_b (fun hek=>?_) (fun hek=>?_)
    ·have hek : (ze ss x)[i].st=k:=of_decide_eq_true hek
     have hR : Rch ss k k:=by
      rw [hek] at hkid
      rcases (hq'.s4 _ rfl).1 with hx|hx
      ·have hx : x=k:=hx
       rw [hx] at hkid;exact .one hkid
      ·exact .more hx hkid
     have:=h _ S.ext
     rw [← Vk (b:=true) (fun _=>hR) (fun _=>rfl)] at this
     exact this
    have hek : ¬ (ze ss x)[i].st=k:=of_decide_eq_false hek
    refine gG_ ?_
    rw [← hel]
    refine gP_ ?_
    refine S.ld (b:=b13) (v:=.bool (mt met' (ze ss x)[i].st)) ?_ (by rw [Nat.zero_add];exact Yy (by omega))
    refine gP_ ?_
    refine c_b (fun hm=>?_) (fun hm=>?_)
    ·have hm : mt met' (ze ss x)[i].st=false:=by simpa using hm
     refine gG_ ?_
     rw [← hel]
     refine gP_ ?_
     refine S.st (b:=b13) (fun w8 S=>?_) (by rw [Jn];omega)
     refine gG_ ?_
     rw [← hel]
     refine S.lit (e:=3) (cs:=[.int .i64 (ze ss x)[i].st]) (by kernel_rfl) fun b49 w9 S=>?_
     refine S.ap (m':=1) (Sl.blk (S.blk b49)) (fun v50 w10 S=>?_) (by omega)
     have hcf:=Jm (l:=met') (i:=(ze ss x)[i].st.toNat) (by
      unfold mt at hm
      rw [List.getD_eq_getElem?_getD,List.getElem?_eq_getElem (by omega)] at hm
      rw [List.getElem?_eq_getElem (by omega)]
      simpa using hm)
     refine hK12 _ _ ⟨T' ++ [(ze ss x)[i].st],met'.set (ze ss x)[i].st.toNat true,v50,rfl,?_,by rw [List.length_append];omega,?_,by rw [List.length_append,List.length_singleton];omega,by rw [List.length_append,List.length_singleton];omega,?_⟩
     ·rw [ahO hn']
      exact hq'.push hg hlt3 h5
     ·rw [aeI hin.1 (by omega) (by omega),hmk']
      simp only [Bool.or_false,decide_eq_false_iff_not]
      exact fun e=>hek e.symm
     ·have e1 : (z8 met').set (0+(ze ss x)[i].st.toNat) (.bool true)=z8 (met'.set (ze ss x)[i].st.toNat true):=by
       rw [Nat.zero_add,z8,z8,List.map_set]
      rw [e1] at S
      rw [List.length_append,VT]
      exact S.tl.tl
    ·have hm : mt met' (ze ss x)[i].st=true:=by simpa using hm
     exact hK12 _ _ ⟨T',met',v',rfl,hq'.skip hlt3 fun _=>hm,hn',hmk',hc',Nat.le_refl _,S.tl⟩
   ·rintro _ w6 ⟨T2,met2,v2,rfl,hq2,hn2,hmk2,hc2,hme2,S⟩ d6
    rw [List.getD_cons_zero]
    refine gP_ ?_
    rw [show ((i : Int)+1)=((i+1 : Nat) : Int) by omega]
    exact hK8 (i+1,T2,met2,v2) _ ⟨hlt3,hq2,hn2,hmk2,hc2,by simp only;omega,S⟩ (by simp only;omega)
  ·have hge : (ze ss x).length≤i:=by
    have : ¬ i<ss[x.toNat].fs.length:=by simpa using hge
    omega
   refine gP_ ?_
   rw [show ((n : Int)+1)=((n+1 : Nat) : Int) by omega]
   exact hK4 (T',n+1,met',v') _ ⟨hq'.done hge,hn',hmk',hc',S⟩ (by simp only;omega)
 ·have hge : T.length≤n:=by
   have : ¬ n<T.length:=by simpa using hge
   omega
  rw [List.drop_of_length_le hge] at hq
  have:=h _ S.ext
  rw [← Vk (b:=false) (fun e=>by cases e) (fun hR=>by rw [hq.all hg (by omega) hR] at hmk;cases hmk)] at this
  exact this
theorem abi {ss : List StD} {p : Option Addr} {cap : Nat} {w : World} {r : Gh} {K : Value→World→Prop} (hr : Holds r w) (hs : StG r p ss) (hm : ss.length≤1000000000) (hmf : ∀ k,(ze ss k).length≤1000000000)
  (h : ∀ w',Ext w w'→K (.tuple #[.int .i64 (zw ss).1,.int .i64 (zw ss).2]) w') : zd Tryz.prog Tryz.jX #[.slice p ss.length cap] w K:=by
 refine Tryz.aaq ?_
 unfold Tryz.Xa
 have S:=St.start hr
 refine gP_ ?_
 refine gP_ ?_
 refine c_b (fun hbig=>?_) (fun hsm=>?_)
 ·have hbig : 32<ss.length:=by have:=of_decide_eq_true hbig;omega
  rw [zw,if_pos hbig] at h
  exact h _ S.ext
 have hsm : ¬ 32<ss.length:=by have:=of_decide_eq_false hsm;omega
 rw [zw,if_neg hsm] at h
 refine zi (ι:=Nat) (fun i=>[.int .i64 i]) (fun i w'=>i≤ss.length∧(∀ j,j<i→y6 ss j=false)∧StX noX w r w' []) (fun i=>ss.length - i) 0 rfl ⟨Nat.zero_le _,fun j hj=>by omega,S⟩ ?_
 clear S
 rintro i d w1 ⟨hi,hb,S⟩ K1 hK1
 rw [List.getD_cons_zero]
 refine gP_ ?_
 refine gP_ ?_
 refine c_b (fun hlt=>?_) (fun hge=>?_)
 ·have hlt : i<ss.length:=by simpa using hlt
  have hbadd : y6 ss i=true→∀ w',Ext w w'→K (.tuple #[.int .i64 (i : Nat),.int .i64 2]) w':=fun hbd w' e=>by
   have hf:=qm hlt hbd hb
   have:=h w' e
   rw [hf,if_pos hlt] at this
   exact this
  obtain ⟨b,off,q,capq,rfl,hcell,hq0,hqc,hf⟩:=xE hs hlt
  refine gP_ ?_
  refine gP_ ?_
  refine zg (by rw [Int.toNat_natCast];exact S.at hcell) ?_
  have hlen:=Zs hlt
  have htl:=yz hlt
  have hmf':=hmf i
  refine gP_ ?_
  refine gP_ ?_
  refine zj (c:=decide (8<(ze ss i).length)) (fun _ K2 hK2=>?_) ?_
  ·refine gP_ ?_
   refine gP_ ?_
   rw [show decide ((8 : Int)<(ss[i].fs.length : Int))=decide (8<(ze ss i).length) from decide_eq_decide.2 (by omega)]
   exact hK2
  rw [show decide ((ss[i].fs.length : Int)<1)=decide ((ze ss i).length<1) from decide_eq_decide.2 (by omega)]
  refine c_b (fun hl=>?_) (fun hl=>?_)
  ·refine hbadd ?_ _ S.ext
   rw [y6,hl];rfl
  refine zi (ι:=Nat) (fun k=>[.int .i64 k]) (fun k w'=>k≤(ze ss i).length∧(((ze ss i).take k).any fun t=>!zz ss.length 48 t||decide (0<t.regs.length))=false∧StX noX w r w' []) (fun k=>(ze ss i).length - k) 0 rfl ⟨Nat.zero_le _,by simp,S⟩ ?_
  clear S
  rintro k d w2 ⟨hk,hno,S⟩ K9 hK9
  rw [List.getD_cons_zero]
  refine gP_ ?_
  refine gP_ ?_
  refine c_b (fun hlt2=>?_) (fun hge2=>?_)
  ·have hlt2 : k<ss[i].fs.length:=by simpa using hlt2
   have hlt3 : k<(ze ss i).length:=by omega
   have hel : (ze ss i)[k]=ss[i].fs[k].2:=by simp only [htl,List.getElem_map]
   obtain ⟨b2,off2,c,rfl,hcl,hcc,hty⟩:=qd hf hlt2
   have hrd : ∀ {w9 : World} {K : Value→Prop},StX noX w r w9 []→K (.agg c.toArray)→opQ Tryz.prog w9 (Instr.loadAt 93 (.pointer (some ⟨b2,off2+((k : Int)).toNat*6+1,none⟩))) K:=fun S k=>zq (n:=5) (c:=c) hcl (fun j v hj=>by
    have:=S.at (hcc (j+1) v (by simpa using hj))
    rw [Int.toNat_natCast,Nat.add_assoc _ 1 j,Nat.add_comm 1 j];exact this) k
   refine gP_ ?_
   refine gP_ ?_
   refine hrd S ?_
   refine gP_ ?_
   refine Yw 48 (by decide) S.holds hty fun w3 e3=>?_
   have S:=S.go e3
   refine gP_ ?_
   refine yP (c:=decide (0<ss[i].fs[k].2.regs.length)) (fun hl K2 hK2=>?_) fun w4 e4=>?_
   ·have hl : zz ss.length 48 ss[i].fs[k].2=true:=by simpa using hl
    refine gP_ ?_
    refine gP_ ?_
    refine hrd S ?_
    refine adv 48 (by decide) hl S.holds hty fun w4 e4=>?_
    refine gP_ ?_
    rw [show (!decide (ss[i].fs[k].2.regs.length=0))=decide (0<ss[i].fs[k].2.regs.length) by
     rw [← decide_not];exact decide_eq_decide.2 (by omega)]
    exact hK2 _ e4
   have S:=S.go e4
   refine c_b (fun hy=>?_) (fun hn=>?_)
   ·refine hbadd ?_ _ S.ext
    have : ((ze ss i).any fun t=>!zz ss.length 48 t||decide (0<t.regs.length))=true:=List.any_eq_true.2 ⟨_,List.getElem_mem hlt3,by rw [hel];exact hy⟩
    rw [y6,this,Bool.or_true]
   ·refine gP_ ?_
    rw [show ((k : Int)+1)=((k+1 : Nat) : Int) by omega]
    refine hK9 (k+1) _ ⟨hlt3,?_,S⟩ (by omega)
    rw [List.take_succ_eq_append_getElem hlt3,List.any_append,hno,hel]
    simp only [List.any_cons,List.any_nil,Bool.false_or,Bool.or_false]
    exact hn
  ·have hie : k=(ze ss i).length:=by
    have : ¬ k<ss[i].fs.length:=by simpa using hge2
    omega
   rw [hie,List.take_length] at hno
   refine gP_ ?_
   rw [show ((i : Int)+1)=((i+1 : Nat) : Int) by omega]
   refine hK1 (i+1) _ ⟨hlt,fun j hj=>?_,S⟩ (by omega)
   by_cases hji : j=i
   ·rw [hji,y6,hl,hno];rfl
   ·exact hb j (by omega)
 have hie : i=ss.length:=by
  have : ¬ i<ss.length:=by simpa using hge
  omega
 rw [hie] at hb
 have h1 : ¬ xb ss.length (y6 ss)<ss.length:=by rw [qk hb];omega
 rw [if_neg h1] at h
 have hgd:=XX hb
 refine zi (ι:=Nat) (fun i=>[.int .i64 i]) (fun i w'=>i≤ss.length∧(∀ j,j<i→kT ss j=false)∧StX noX w r w' []) (fun i=>ss.length - i) 0 rfl ⟨Nat.zero_le _,fun j hj=>by omega,S⟩ ?_
 clear S hie hge hi
 rintro i d w5 ⟨hi,hb2,S⟩ K1 hK1
 rw [List.getD_cons_zero]
 refine gP_ ?_
 refine gP_ ?_
 refine c_b (fun hlt=>?_) (fun hge=>?_)
 ·have hlt : i<ss.length:=by simpa using hlt
  refine abh hgd (by omega) hlt (xL hb) S.holds hs fun w6 e6=>?_
  have S:=S.go e6
  refine c_b (fun hy=>?_) (fun hn=>?_)
  ·have hf:=qm hlt hy hb2
   rw [hf,if_pos hlt] at h
   exact h _ S.ext
  ·refine gP_ ?_
   rw [show ((i : Int)+1)=((i+1 : Nat) : Int) by omega]
   refine hK1 (i+1) _ ⟨hlt,fun j hj=>?_,S⟩ (by omega)
   by_cases hji : j=i
   ·rw [hji];exact hn
   ·exact hb2 j (by omega)
 have hie : i=ss.length:=by
  have : ¬ i<ss.length:=by simpa using hge
  omega
 rw [hie] at hb2
 have h2 : ¬ xb ss.length (kT ss)<ss.length:=by rw [qk hb2];omega
 rw [if_neg h2] at h
 have hac:=Vj hgd hb2
 refine zi (ι:=Nat) (fun i=>[.int .i64 i]) (fun i w'=>i≤ss.length∧(∀ j,j<i→vQ ss j=false)∧StX noX w r w' []) (fun i=>ss.length - i) 0 rfl ⟨Nat.zero_le _,fun j hj=>by omega,S⟩ ?_
 clear S hie hge hi
 rintro i d w5 ⟨hi,hb3,S⟩ K1 hK1
 rw [List.getD_cons_zero]
 refine gP_ ?_
 refine gP_ ?_
 refine c_b (fun hlt=>?_) (fun hge=>?_)
 ·have hlt : i<ss.length:=by simpa using hlt
  refine zy (cs:=#[.int .u8 5,.bool false,.int .i64 0,.int .i64 i,.slice none 0 0]) (by kernel_rfl) ?_
  refine adw hgd hac 40 (t:=.mk 5 false 0 i []) (most:=16) (by decide) (by decide) (by have:=abe ss (.mk 5 false 0 i []);omega) ?_ (by omega) (xL hb) S.holds hs (xe (r:=r)) fun w9 e9=>?_
  ·rw [xp]
   simp [TyD.k,TyD.m,TyD.re,TyD.of,TyD.st]
   omega
  have S:=S.go e9
  refine gP_ ?_
  rw [show decide ((((min (wF ss 40 (.mk 5 false 0 i [])) (16+1) : Nat) : Int)) > 16)=decide (16<wF ss 40 (.mk 5 false 0 i [])) from decide_eq_decide.2 (by omega)]
  refine c_b (fun hy=>?_) (fun hn=>?_)
  ·have hf:=qm (p:=vQ ss) hlt hy hb3
   rw [hf,if_pos hlt] at h
   exact h _ S.ext
  ·refine gP_ ?_
   rw [show ((i : Int)+1)=((i+1 : Nat) : Int) by omega]
   refine hK1 (i+1) _ ⟨hlt,fun j hj=>?_,S⟩ (by omega)
   by_cases hji : j=i
   ·rw [hji];exact hn
   ·exact hb3 j (by omega)
 have hie : i=ss.length:=by
  have : ¬ i<ss.length:=by simpa using hge
  omega
 rw [hie] at hb3
 have h3 : ¬ xb ss.length (vQ ss)<ss.length:=by rw [qk hb3];omega
 rw [if_neg h3] at h
 exact h _ S.ext
theorem VU {ss : List StD} {t : TyD} {p : Option Addr} {cap : Nat} {w : World} {r : Gh} {v : Value} {K : Value→World→Prop} (hr : Holds r w) (hs : StG r p ss) (hm : ss.length≤1000000000) (hmf : ∀ k,(ze ss k).length≤1000000000) (hv : TyG r v t)
  (h : ∀ w',Ext w w'→K (.bool (mayB ss t)) w') : zd Tryz.prog Tryz.Zd #[.slice p ss.length cap,v] w K:=by
 refine Tryz.aeD ?_
 unfold Tryz.VR
 have hv0:=hv
 obtain ⟨p1,cap1,rfl,_⟩:=hv
 have S:=St.start hr
 refine S.box fun b3 w1 S=>?_
 refine abi S.holds hs hm hmf fun w2 e2=>?_
 have S:=S.go e2
 refine gP_ ?_
 refine gP_ ?_
 refine gP_ ?_
 refine zs (c:=zz ss.length 48 t) (fun _ K2 hK2=>?_) fun w3 e3=>h _ (S.go e3).ext
 refine gL_ ?_
 refine gP_ ?_
 exact Yw 48 (by decide) S.holds hv0 fun w3 e3=>hK2 _ e3
theorem ady {ss : List StD} {t : TyD} {p : Option Addr} {cap : Nat} {w : World} {r : Gh} {v : Value} {K : Value→World→Prop} (hr : Holds r w) (hs : StG r p ss) (hm : ss.length≤1000000000) (hmf : ∀ k,(ze ss k).length≤1000000000) (hv : TyG r v t)
  (h : ∀ w',Ext w w'→K (.tuple #[.bool (kL ss t).1,.int .i64 (kL ss t).2]) w') : zd Tryz.prog Tryz.ZB #[.slice p ss.length cap,v] w K:=by
 refine Tryz.ace ?_
 unfold Tryz.QL
 have hv0:=hv
 obtain ⟨p1,cap1,rfl,_⟩:=hv
 have S:=St.start hr
 refine S.box fun b3 w1 S=>?_
 refine gL_ ?_
 refine VU S.holds hs hm hmf hv0 fun w2 e2=>?_
 have S:=S.go e2
 refine gP_ ?_
 refine c_b (fun hn=>?_) (fun hn=>?_)
 ·have hn : mayB ss t=false:=by simpa using hn
  rw [kL,hn] at h
  exact h _ S.ext
 have hn : mayB ss t=true:=by simpa using hn
 rw [kL,if_pos hn] at h
 obtain ⟨hok,hl⟩:=Yz hn
 obtain ⟨h32,hb1,hg,hac,_,_⟩:=xS hok
 refine gL_ ?_
 exact adx hg hac 40 (by decide) (by have:=abe ss t;omega) hl h32 (xL hb1) S.holds hs hv0 fun w3 e3=>h _ (S.go e3).ext
end Go.Proofs
end
section
namespace Go.Proofs
open Go.Sh
set_option maxRecDepth 100000
set_option linter.unusedSimpArgs false
set_option linter.unusedVariables false
def un (gs : Nat→Gh) (i n : Nat) : Gh:=fun b o=>∃ j,i≤j∧j<n∧gs j b o
structure akQ (top : Gh) (gs : Nat→Gh) (q : Option Addr) (ts : List TyD) : Prop where
 at' : ∀ (i : Nat) (hi : i<ts.length),∃ (b off : Nat) (c : List Value),q=some ⟨b,off,none⟩∧c.length=5∧(∀ j v,c[j]? = some v→Ob top fun w=>w.cell? ⟨b,off+i*5+j,none⟩=some v)∧TyG (gs i) (.agg c.toArray) ts[i]∧acg (gs i) (.agg c.toArray) ts[i]
 dis : ∀ i j,i≠j→i<ts.length→j<ts.length→Dis (gs i) (gs j)
 dtop : ∀ i,i<ts.length→Dis (gs i) top
def TysG (s : Gh) (q : Option Addr) (ts : List TyD) : Prop:=
 ∀ (i : Nat) (hi : i<ts.length),∃ (b off : Nat) (c : List Value),q=some ⟨b,off,none⟩∧c.length=5∧(∀ j v,c[j]? = some v→Ob s fun w=>w.cell? ⟨b,off+i*5+j,none⟩=some v)∧TyG s (.agg c.toArray) ts[i]
theorem ChnL.frz2 {X : Nat→Prop} {w0 w : World} {c : List Value} {t : TyD} {N : List Asr} (h : ChnL c t N) : ∀ {r : Gh} {L : List Asr},StX X w0 r w (N++L)→
  ∃ sn,StX X w0 (r.or sn) w L∧TyG sn (.agg c.toArray) t∧acg sn (.agg c.toArray) t∧(∀ b o,sn b o→w0.heap.size≤b∨X b)∧Dis sn r:=by
 induction h with
 |nil=>
  intro r L S
  exact ⟨nothing,S.to _,xe,.nil,fun _ _ h=>h.elim,fun _ _ _ h=>h.elim⟩
 |@one b c k re st m u N hu ih=>
  intro r L S
  have S : StX X w0 r w (N++(.cell b c 93::L)):=S.perm List.perm_middle.symm
  have hm0:=S.mine (.cell b c 93) (by simp) b rfl
  obtain ⟨sn,S,ht,hg,hf,hd⟩:=ih S
  have hm:=S.mine (.cell b c 93) (by simp) b rfl
  have S:=S.frz
  refine ⟨sn.or (Go.Sh.one b c 93),S.to _,ahM ht,.one (fun o ho=>hm.2 o (.inr ho)) hu.len ht hg,fun b' o ho=>?_,fun b' o o' ho hr=>?_⟩
  ·rcases ho with ho|⟨rfl,_⟩
   ·exact hf b' o ho
   ·exact hm.1
  ·rcases ho with ho|⟨rfl,_⟩
   ·exact hd b' o o' ho hr
   ·exact hm0.2 o' hr
theorem aj2 {c : List Value} {t : TyD} {N : List Asr} (h : ChnL c t N) : ab5 Tryz.prog 39 1 #[(0,.agg c.toArray)]=some (93,c):=by
 cases h<;>kernel_rfl
noncomputable def yl (ss : List StD) (t : TyD) : List TyD × Int:=if mayB ss t&&decide (t.k=5) then (ze ss t.st,0) else ([],2)
theorem aci {ss : List StD} {t : TyD} {p : Option Addr} {cap : Nat} {w : World} {r : Gh} {v : Value} {K : Value→World→Prop} (hr : Holds r w) (hs : StG r p ss) (hv : TyG r v t)
  (h : ∀ q cp top gs w',Ext w w'→New w (top.or (un gs 0 (yl ss t).1.length)) w'→akQ top gs q (yl ss t).1→(yl ss t).1.length≤cp→K (.tuple #[.slice q (yl ss t).1.length cp,.int .i64 (yl ss t).2]) w') : zd Tryz.prog Tryz.vL #[.slice p ss.length cap,v] w K:=by
 refine Tryz.aa4 ?_
 unfold Tryz.XP
 have hv0:=hv
 obtain ⟨p1,cap1,rfl,_⟩:=hv
 have S:=St.start hr
 refine S.box fun b3 w1 S=>?_
 refine gL_ ?_
 refine XB S.holds hs hv0 fun w2 e2=>?_
 have S:=S.go e2
 refine gP_ ?_
 refine zj (c:=decide (t.k≠5)) (fun _ K2 hK2=>?_) ?_
 ·refine gG_ ?_
  exact hK2
 refine c_b (fun hn=>?_) (fun hn=>?_)
 ·have hn : (mayB ss t&&decide (t.k=5))=false:=by
   cases hm : mayB ss t
   ·rfl
   ·rw [hm] at hn;simpa using hn
  rw [yl,hn] at h
  exact h none 0 nothing (fun _=>nothing) _ S.ext ⟨fun b o ho=>by rcases ho with ho|⟨_,_,_,ho⟩<;>exact ho.elim,fun b o ho=>by rcases ho with ho|⟨_,_,_,ho⟩<;>exact ho.elim⟩
   ⟨fun i hi=>by simp at hi,fun i j _ hi=>by simp at hi,fun i hi=>by simp at hi⟩ (Nat.le_refl _)
 have hn : mayB ss t=true∧t.k=5:=by
  cases hm : mayB ss t
  ·rw [hm] at hn;simp at hn
  ·rw [hm] at hn;exact ⟨rfl,by simpa using hn⟩
 obtain ⟨hm,h5⟩:=hn
 rw [yl,hm,decide_eq_true h5] at h
 simp only [Bool.and_true,if_true] at h
 obtain ⟨hok,hl⟩:=Yz hm
 obtain ⟨h32,hb1,hg,hac,_,_⟩:=xS hok
 obtain ⟨hst0,hst1,_⟩:=qI hl h5
 have hlt : t.st.toNat<ss.length:=by omega
 obtain ⟨b,off,q,capq,rfl,hcell,_,_,hf⟩:=xE hs hlt
 have htl : ze ss t.st=ss[t.st.toNat].fs.map (·.2):=by
  rw [← yz hlt];simp only [ze,Int.toNat_natCast]
 have hlen : (ze ss t.st).length=ss[t.st.toNat].fs.length:=by rw [htl,List.length_map]
 have h88:=xL hb1 t.st
 refine gG_ ?_
 refine zg (S.at hcell) ?_
 refine gP_ ?_
 have S:=S.tl
 have S:=S.ownNil 93 5
 have S:=S.to (r.or (un (fun _=>nothing) 0 0)) (l:=⟨fun b o ho=>by rcases ho with ho|⟨_,_,h2,_⟩;exact ho;omega⟩)
 refine zi (ι:=Nat × Value × List Value × (Nat→Gh)) (fun i=>[i.2.1,.int .i64 i.1]) (fun i w'=>i.1≤(ze ss t.st).length∧i.2.2.1.length=i.1*5∧
   (∀ j (hj : j<(ze ss t.st).length),j<i.1→((i.2.2.1.drop (j*5)).take 5).length=5∧TyG (i.2.2.2 j) (.agg ((i.2.2.1.drop (j*5)).take 5).toArray) (ze ss t.st)[j]∧acg (i.2.2.2 j) (.agg ((i.2.2.1.drop (j*5)).take 5).toArray) (ze ss t.st)[j])∧
   (∀ j,j<i.1→∀ b o,i.2.2.2 j b o→w.heap.size≤b)∧(∀ j k,j≠k→j<i.1→k<i.1→Dis (i.2.2.2 j) (i.2.2.2 k))∧StX noX w (r.or (un i.2.2.2 0 i.1)) w' [.row i.2.1 93 5 i.1 i.2.2.1])
  (fun i=>(ze ss t.st).length - i.1) (0,.slice none 0 0,[],fun _=>nothing) rfl ⟨Nat.zero_le _,rfl,fun j _ hj=>by omega,fun j hj=>by omega,fun j k _ hj=>by omega,S⟩ ?_
 clear S
 rintro ⟨i,v,xs,gs⟩ d w3 ⟨hi,hxl,hel,hfr,hdis,S⟩ K7 hK7
 simp only at hi hxl hel hfr hdis S ⊢
 rw [List.getD_cons_zero,List.getD_cons_succ,List.getD_cons_zero]
 refine gP_ ?_
 refine c_b (fun hlt2=>?_) (fun hge=>?_)
 ·have hlt2 : i<ss[t.st.toNat].fs.length:=by simpa using hlt2
  have hlt3 : i<(ze ss t.st).length:=by omega
  have hel2 : (ze ss t.st)[i]=ss[t.st.toNat].fs[i].2:=by simp only [htl,List.getElem_map]
  have hmem : ss[t.st.toNat].fs[i].2 ∈ ze ss t.st:=by rw [← hel2];exact List.getElem_mem hlt3
  obtain ⟨b2,off2,c,rfl,hcl,hcc,hty⟩:=qd hf hlt2
  refine gP_ ?_
  refine zq (n:=6) (c:=.string ss[t.st.toNat].fs[i].1::c) (by simp [hcl]) (fun j v hj=>by rw [Int.toNat_natCast];exact S.at (hcc j v hj)) ?_
  refine S.al fun b8 w4 S=>?_
  refine S.stB (b:=b8) (cs:=(Value.string ss[t.st.toNat].fs[i].1::c).toArray) (fun w5 S=>?_) rfl (by simp [hcl]) (aau hty)
  refine gP_ ?_
  refine S.fty hcl ?_
  refine afP (s:=ss.length) 48 (by decide) (hg _ _ hmem) S.tl hty.up fun c' N w6 hch S=>?_
  have hcl':=hch.len
  have hone':=hch.ones
  obtain ⟨sn,S,ht,hcg,hfn,hdn⟩:=hch.frz2 S
  refine S.lit (e:=93) (cs:=c') (aj2 hch) fun b33 w7 S=>?_
  refine S.ap (m':=1) (Sl.blk (S.blk b33)) (fun v34 w8 S=>?_) (by omega) (by omega) (by simp) hone'
  have S:=S.tl
  refine gP_ ?_
  rw [show ((i : Int)+1)=((i+1 : Nat) : Int) by omega]
  refine hK7 (i+1,v34,xs++c',fun j=>if j=i then sn else gs j) _ ⟨hlt3,by simp only [List.length_append];omega,fun j hj hji=>?_,fun j hj b o ho=>?_,fun j k hjk hj hk=>?_,?_⟩ (by simp only;omega)
  ·by_cases hji' : j=i
   ·subst hji'
    simp only [if_true]
    have e : ((xs++c').drop (j*5)).take 5=c':=by
     rw [← hxl,List.drop_left',List.take_of_length_le (by omega)];rfl
    rw [e,hel2]
    exact ⟨hcl',ht,hcg⟩
   ·simp only [if_neg hji']
    have e : ((xs++c').drop (j*5)).take 5=(xs.drop (j*5)).take 5:=by
     rw [List.drop_append_of_le_length (by omega),List.take_append_of_le_length (by rw [List.length_drop];omega)]
    rw [e]
    exact hel j hj (by omega)
  ·simp only at ho
   split at ho
   ·exact (hfn b o ho).elim id fun h=>h.elim
   ·exact hfr j (by omega) b o ho
  ·simp only
   by_cases h1 : j=i
   ·rw [if_pos h1,if_neg (by omega)]
    exact fun b o o' ho ho'=>hdn b o o' ho (.inr ⟨k,Nat.zero_le _,by omega,ho'⟩)
   ·rw [if_neg h1]
    by_cases h2 : k=i
    ·rw [if_pos h2]
     exact fun b o o' ho ho'=>hdn b o' o ho' (.inr ⟨j,Nat.zero_le _,by omega,ho⟩)
    ·rw [if_neg h2]
     exact hdis j k hjk (by omega) (by omega)
  ·simp only
   exact S.to _ (l:=⟨fun b o ho=>by
    rcases ho with ho|⟨j,_,hj,ho⟩
    ·exact .inl (.inl ho)
    ·split at ho
     ·exact .inr ho
     ·exact .inl (.inr ⟨j,Nat.zero_le _,by omega,ho⟩)⟩)
 ·have hge : i=(ze ss t.st).length:=by
   have : ¬ i<ss[t.st.toNat].fs.length:=by simpa using hge
   omega
  subst hge
  have hpos : (ze ss t.st).length≠0:=by
   have:=hb1 t.st.toNat hlt
   have e : ze ss (t.st.toNat : Int)=ze ss t.st:=by rw [ze,ze,Int.toNat_natCast]
   rw [y6,e,Bool.or_eq_false_iff,Bool.or_eq_false_iff] at this
   simp only [decide_eq_false_iff_not] at this
   omega
  obtain ⟨b9,cap9,c9,rfl,hc9,hcl9,htk9,S⟩:=S.rowCell v hpos
  have hm9:=S.mine (.cell b9 c9 93) (by simp) b9 rfl
  have S:=S.frz
  refine h _ _ (Go.Sh.one b9 c9 93) gs _ S.ext ⟨S.holds.le (h:=⟨fun b o ho=>by
   rcases ho with ho|ho
   ·exact .inr ho
   ·exact .inl (.inr ho)⟩),fun b o ho=>?_⟩ ⟨fun j hj=>?_,fun j k hjk hj hk=>hdis j k hjk hj hk,fun j hj b o o' ho ho'=>?_⟩ hc9
  ·rcases ho with ⟨rfl,_⟩|⟨j,_,hj,ho⟩
   ·exact hm9.1.resolve_right id
   ·exact hfr j hj b o ho
  ·obtain ⟨h1,h2,h3⟩:=hel j hj hj
   refine ⟨b9,0,_,rfl,h1,fun k v hk w' hw=>?_,h2,h3⟩
   have B:=zG (b:=b9) (c:=c9) (T:=93) w' hw
   show w'.cell? _=some v
   rw [Nat.zero_add,B.cell]
   have hk5 : k<5:=by have:=(List.getElem?_eq_some_iff.1 hk).1;omega
   rw [List.getElem?_take,if_pos hk5,List.getElem?_drop,← htk9,List.getElem?_take] at hk
   split at hk
   ·exact hk
   ·cases hk
  ·obtain ⟨rfl,_⟩:=ho'
   exact hm9.2 o (.inr ⟨j,Nat.zero_le _,hj,ho⟩)
theorem aj3 {r : Gh} {cs c : List Value} {u : TyD} {b cap : Nat} {k re st : Int} {m : Bool} (h : TyG r (.agg cs.toArray) u) (hc : c.take 5=cs) (hcap : 1≤cap) :
  TyG (r.or (Go.Sh.one b c 93)) (.agg #[.int .u8 k,.bool m,.int .i64 re,.int .i64 st,.slice (some ⟨b,0,none⟩) 1 cap]) (.mk k m re st [u]):=by
 obtain ⟨c1,hc1,hcl,hr⟩:=h.rep
 have hc1 : cs=c1:=List.toArray_inj (Value.agg.inj hc1)
 subst hc1
 refine ⟨_,cap,rfl,by simp,hcap,?_⟩
 refine ⟨⟨cs,hcl,fun j x hj=>⟨b,0,rfl,fun w hw=>?_⟩,hr.up⟩,trivial⟩
 have B:=zG (b:=b) (c:=c) (T:=93) w (hw.le (h:=inferInstance))
 show w.cell? ⟨b,0+0*5+j,none⟩=some x
 rw [show 0+0*5+j=j by omega,B.cell]
 rw [← hc,List.getElem?_take] at hj
 split at hj
 ·exact hj
 ·cases hj
theorem afQ {s : Int} : ∀ (n : Nat) {t : TyD} {w : World} {r : Gh} {v : Value} {K : Value→World→Prop},n≤1000→zz s n t=true→Holds r w→TyG r v t→
  (∀ v' sn w',Ext w w'→New w sn w'→TyG sn v' t→K v' w')→zd Tryz.prog Tryz.Ze #[v] w K:=by
 intro n
 induction n with
 |zero=>intro t w r v K _ h;cases h
 |succ n ih=>
  intro t w r v K hn hl hr hv h
  refine Tryz.aeE ?_
  unfold Tryz.VS
  obtain ⟨p1,cap1,rfl,hp1,hcap1,hof⟩:=hv
  have S:=St.start hr
  refine S.box fun b1 w1 S=>?_
  refine S.al fun b2 w2 S=>?_
  have S : StX noX w r w2 [.cell b2 [.int .u8 0,.bool false,.int .i64 0,.int .i64 0,.slice none 0 0] 93,.cell b1 [.int .u8 t.k,.bool t.m,.int .i64 t.re,.int .i64 t.st,.slice p1 t.of.length cap1] 93]:=S
  have he : t = .mk t.k t.m t.re t.st t.of:=by cases t;rfl
  refine gG_ ?_
  refine S.st fun w3 S=>?_
  have fin : ∀ {w9 : World} {q : Gh} {v9 : Value},StX noX w q w9 [.cell b2 [.int .u8 0,.bool false,.int .i64 0,.int .i64 0,.slice none 0 0] 93,.cell b1 [.int .u8 t.k,.bool t.m,.int .i64 t.re,.int .i64 t.st,v9] 93]→v9.oneCell'=true→
    (∃ sn,Le sn q∧(∀ b o,sn b o→w.heap.size≤b)∧TyG sn (.agg #[.int .u8 t.k,.bool t.m,.int .i64 t.re,.int .i64 t.st,v9]) t)→
    opQ Tryz.prog w9 (Instr.loadAt 93 (.pointer (some ⟨b1,0,none⟩))) fun t24=>opU Tryz.prog w9 (Instr.storeAt 93 (.pointer (some ⟨b2,0,none⟩)) t24) fun w12=>opQ Tryz.prog w12 (zn 93 (.pointer (some ⟨b2,0,none⟩))) fun r13=>K r13 w12:=by
   intro w9 q v9 S h1 ⟨sn,hle,hf,hty⟩
   refine gG_ ?_
   refine S.stB (h1:=by
    intro u hu
    simp only [List.mem_cons,List.not_mem_nil,or_false] at hu
    rcases hu with rfl|rfl|rfl|rfl|rfl<;>first|rfl|exact h1) fun w7 S=>?_
   refine gG_ ?_
   exact h _ sn _ S.ext ⟨S.holds.le (h:=hle),hf⟩ hty
  rcases ym hl with ⟨ho,_⟩|⟨u,ho,hu,_⟩
  ·refine zi (ι:=Unit) (fun _=>[.int .i64 0]) (fun _ w'=>w'=w3) (fun _=>0) () rfl rfl ?_
   rintro ⟨⟩ d w5 rfl K6 hK6
   rw [List.getD_cons_zero]
   refine gP_ ?_
   refine gP_ ?_
   refine c_f (by rw [ho];rfl) ?_
   refine fin S rfl ⟨nothing,inferInstance,fun _ _ h=>h.elim,?_⟩
   rw [he,ho]
   exact xe
  ·have hlen : t.of.length=1:=by rw [ho];rfl
   have S3:=S
   obtain ⟨ba,oa,rfl,c,hc,hcell,ht⟩:=NdG.of hof (i:=0) (by omega)
   have ht : TyG r (.agg c.toArray) u:=by simpa [ho] using ht
   refine zi (ι:=Bool) (fun i=>[.int .i64 (if i then 1 else 0)]) (fun i w'=>if i then ∃ q v9,StX noX w q w' [.cell b2 [.int .u8 0,.bool false,.int .i64 0,.int .i64 0,.slice none 0 0] 93,.cell b1 [.int .u8 t.k,.bool t.m,.int .i64 t.re,.int .i64 t.st,v9] 93]∧v9.oneCell'=true∧
     ∃ sn,Le sn q∧(∀ b o,sn b o→w.heap.size≤b)∧TyG sn (.agg #[.int .u8 t.k,.bool t.m,.int .i64 t.re,.int .i64 t.st,v9]) t
    else StX noX w r w' [.cell b2 [.int .u8 0,.bool false,.int .i64 0,.int .i64 0,.slice none 0 0] 93,.cell b1 [.int .u8 t.k,.bool t.m,.int .i64 t.re,.int .i64 t.st,.slice none 0 0] 93]) (fun i=>if i then 0 else 1) false rfl S3 ?_
   clear S S3
   rintro i d w5 hI K6 hK6
   rw [List.getD_cons_zero]
   refine gP_ ?_
   cases i with
   |true=>
    obtain ⟨q,v9,S,h1,hx⟩:=hI
    refine gP_ ?_
    refine c_f (by rw [hlen];rfl) ?_
    exact fin S h1 hx
   |false=>
    have S : StX noX w r w5 [.cell b2 [.int .u8 0,.bool false,.int .i64 0,.int .i64 0,.slice none 0 0] 93,.cell b1 [.int .u8 t.k,.bool t.m,.int .i64 t.re,.int .i64 t.st,.slice none 0 0] 93]:=hI
    refine gP_ ?_
    refine c_t (by rw [hlen];rfl) ?_
    have S:=S.go (Ext.drew _)
    simp only [Bool.false_eq_true,if_false]
    refine gG_ ?_
    refine zq (n:=5) hc (fun j v hj=>by simpa using S.at (hcell j v hj)) ?_
    refine ih (by omega) hu S.holds ht fun v4 sn w6 e6 n6 ht6=>⟨e6,?_⟩
    obtain ⟨S,_,hf⟩:=S.tell e6 n6
    obtain ⟨p6,cap6,rfl,_⟩:=id ht6
    refine S.litU (e:=93) (cs:=[.int .u8 u.k,.bool u.m,.int .i64 u.re,.int .i64 u.st,.slice p6 u.of.length cap6]) (by kernel_rfl) fun b7 w7 S=>?_
    have S:=S.ownNil 93 5
    refine S.ap (m':=1) (Sl.blk (S.blk b7)) (fun v8 w8 S=>?_) (by omega)
    obtain ⟨b9,cap9,c9,rfl,hc9,hcl9,htk9,S⟩:=S.rowCell v8 (by decide)
    have hm9:=S.mine (.cell b9 c9 93) (by simp) b9 rfl
    have S:=S.frz
    refine gP_ ?_
    refine S.st (b:=b1) fun w9 S=>?_
    refine gP_ ?_
    refine hK6 true _ ⟨_,.slice (some ⟨b9,0,none⟩) 1 cap9,S.tl,rfl,sn.or (Go.Sh.one b9 c9 93),inferInstance,fun b o hb=>?_,?_⟩ (by decide)
    ·rcases hb with hb|⟨rfl,_⟩
     ·exact hf b o hb
     ·exact hm9.1.resolve_right id
    ·rw [he,ho]
     exact aj3 ht6 htk9 (by omega)
theorem acj {ss : List StD} {t : TyD} {p : Option Addr} {cap : Nat} {w : World} {r : Gh} {v : Value} {K : Value→World→Prop} (hr : Holds r w) (hs : StG r p ss) (hm1 : ss.length≤1000000000) (hmf : ∀ k,(ze ss k).length≤1000000000) (hv : TyG r v t)
  (h : ∀ q cp sn w',Ext w w'→New w sn w'→TysG sn q (yl ss t).1→K (.tuple #[.slice q (yl ss t).1.length cp,.int .i64 (yl ss t).2]) w') : zd Tryz.prog Tryz.vM #[.slice p ss.length cap,v] w K:=by
 refine Tryz.aa7 ?_
 unfold Tryz.XS
 have hv0:=hv
 obtain ⟨p1,cap1,rfl,_⟩:=hv
 have S:=St.start hr
 refine S.box fun b3 w1 S=>?_
 refine gL_ ?_
 refine VU S.holds hs hm1 hmf hv0 fun w2 e2=>?_
 have S:=S.go e2
 refine gP_ ?_
 refine zj (c:=decide (t.k≠5)) (fun _ K2 hK2=>?_) ?_
 ·refine gG_ ?_
  exact hK2
 refine c_b (fun hn=>?_) (fun hn=>?_)
 ·have hn : (mayB ss t&&decide (t.k=5))=false:=by
   cases hm : mayB ss t
   ·rfl
   ·rw [hm] at hn;simpa using hn
  rw [yl,hn] at h
  exact h none 0 nothing _ S.ext New.nothing fun i hi=>by simp at hi
 have hn : mayB ss t=true∧t.k=5:=by
  cases hm : mayB ss t
  ·rw [hm] at hn;simp at hn
  ·rw [hm] at hn;exact ⟨rfl,by simpa using hn⟩
 obtain ⟨hm,h5⟩:=hn
 rw [yl,hm,decide_eq_true h5] at h
 simp only [Bool.and_true,if_true] at h
 obtain ⟨hok,hl⟩:=Yz hm
 obtain ⟨h32,hb1,hg,hac,_,_⟩:=xS hok
 obtain ⟨hst0,hst1,_⟩:=qI hl h5
 have hlt : t.st.toNat<ss.length:=by omega
 obtain ⟨b,off,q,capq,rfl,hcell,_,_,hf⟩:=xE hs hlt
 have htl : ze ss t.st=ss[t.st.toNat].fs.map (·.2):=by
  rw [← yz hlt];simp only [ze,Int.toNat_natCast]
 have hlen : (ze ss t.st).length=ss[t.st.toNat].fs.length:=by rw [htl,List.length_map]
 have h88:=xL hb1 t.st
 refine gG_ ?_
 refine zg (S.at hcell) ?_
 have S:=S.tl
 have S:=S.ownNil 93 5
 have S:=S.to (r.or nothing) (l:=⟨fun b o ho=>ho.elim id fun h=>h.elim⟩)
 refine zi (ι:=Nat × Value × List Value × Gh) (fun i=>[i.2.1,.int .i64 i.1]) (fun i w'=>i.1≤(ze ss t.st).length∧i.2.2.1.length=i.1*5∧
   (∀ j (hj : j<(ze ss t.st).length),j<i.1→((i.2.2.1.drop (j*5)).take 5).length=5∧TyG i.2.2.2 (.agg ((i.2.2.1.drop (j*5)).take 5).toArray) (ze ss t.st)[j])∧
   (∀ b o,i.2.2.2 b o→w.heap.size≤b)∧StX noX w (r.or i.2.2.2) w' [.row i.2.1 93 5 i.1 i.2.2.1])
  (fun i=>(ze ss t.st).length - i.1) (0,.slice none 0 0,[],nothing) rfl ⟨Nat.zero_le _,rfl,fun j _ hj=>by omega,fun b o ho=>ho.elim,S⟩ ?_
 clear S
 rintro ⟨i,v,xs,sn⟩ d w3 ⟨hi,hxl,hel,hfr,S⟩ K7 hK7
 simp only at hi hxl hel hfr S ⊢
 rw [List.getD_cons_zero,List.getD_cons_succ,List.getD_cons_zero]
 refine gP_ ?_
 refine gP_ ?_
 refine c_b (fun hlt2=>?_) (fun hge=>?_)
 ·have hlt2 : i<ss[t.st.toNat].fs.length:=by simpa using hlt2
  have hlt3 : i<(ze ss t.st).length:=by omega
  have hel2 : (ze ss t.st)[i]=ss[t.st.toNat].fs[i].2:=by simp only [htl,List.getElem_map]
  have hmem : ss[t.st.toNat].fs[i].2 ∈ ze ss t.st:=by rw [← hel2];exact List.getElem_mem hlt3
  obtain ⟨b2,off2,c,rfl,hcl,hcc,hty⟩:=qd hf hlt2
  refine gP_ ?_
  refine gP_ ?_
  refine zq (n:=5) (c:=c) hcl (fun j v hj=>by
   have:=S.at (hcc (j+1) v (by simpa using hj))
   rw [Int.toNat_natCast,Nat.add_assoc _ 1 j,Nat.add_comm 1 j];exact this) ?_
  refine afQ (s:=ss.length) 48 (by decide) (hg _ _ hmem) S.holds hty.up fun v4 s4 w4 e4 n4 ht4=>?_
  obtain ⟨S,_,hf4⟩:=S.tell e4 n4
  obtain ⟨p4,cap4,rfl,_⟩:=id ht4
  refine S.lit (e:=93) (cs:=[.int .u8 ss[t.st.toNat].fs[i].2.k,.bool ss[t.st.toNat].fs[i].2.m,.int .i64 ss[t.st.toNat].fs[i].2.re,.int .i64 ss[t.st.toNat].fs[i].2.st,.slice p4 ss[t.st.toNat].fs[i].2.of.length cap4]) (by kernel_rfl) fun b33 w7 S=>?_
  refine S.ap (m':=1) (Sl.blk (S.blk b33)) (fun v34 w8 S=>?_) (by omega)
  have S:=S.tl
  refine gP_ ?_
  rw [show ((i : Int)+1)=((i+1 : Nat) : Int) by omega]
  refine hK7 (i+1,v34,xs ++ [.int .u8 ss[t.st.toNat].fs[i].2.k,.bool ss[t.st.toNat].fs[i].2.m,.int .i64 ss[t.st.toNat].fs[i].2.re,.int .i64 ss[t.st.toNat].fs[i].2.st,.slice p4 ss[t.st.toNat].fs[i].2.of.length cap4],sn.or s4) _ ⟨hlt3,by simp only [List.length_append,List.length_cons,List.length_nil];omega,fun j hj hji=>?_,fun b o ho=>ho.elim (hfr b o) (hf4 b o),?_⟩ (by simp only;omega)
  rotate_left
  ·exact S.to _ (l:=⟨fun b o ho=>by
    rcases ho with ho|ho|ho
    ·exact .inl (.inl ho)
    ·exact .inl (.inr ho)
    ·exact .inr ho⟩)
  ·simp only
   by_cases hji' : j=i
   ·subst hji'
    rw [← hxl,List.drop_left',hel2]
    ·exact ⟨rfl,ht4.up⟩
    ·rfl
   ·rw [List.drop_append_of_le_length (by omega),List.take_append_of_le_length (by rw [List.length_drop];omega)]
    exact ⟨(hel j hj (by omega)).1,(hel j hj (by omega)).2.up⟩
 ·have hge : i=(ze ss t.st).length:=by
   have : ¬ i<ss[t.st.toNat].fs.length:=by simpa using hge
   omega
  subst hge
  have hpos : (ze ss t.st).length≠0:=by
   have:=hb1 t.st.toNat hlt
   have e : ze ss (t.st.toNat : Int)=ze ss t.st:=by rw [ze,ze,Int.toNat_natCast]
   rw [y6,e,Bool.or_eq_false_iff,Bool.or_eq_false_iff] at this
   simp only [decide_eq_false_iff_not] at this
   omega
  obtain ⟨b9,cap9,c9,rfl,hc9,hcl9,htk9,S⟩:=S.rowCell v hpos
  have hm9:=S.mine (.cell b9 c9 93) (by simp) b9 rfl
  have S:=S.frz
  refine h _ _ (sn.or (Go.Sh.one b9 c9 93)) _ S.ext ⟨S.holds.le (h:=⟨fun b o ho=>by
   rcases ho with ho|ho
   ·exact .inl (.inr ho)
   ·exact .inr ho⟩),fun b o ho=>?_⟩ fun j hj=>?_
  ·rcases ho with ho|⟨rfl,_⟩
   ·exact hfr b o ho
   ·exact hm9.1.resolve_right id
  ·obtain ⟨h1,h2⟩:=hel j hj hj
   refine ⟨b9,0,_,rfl,h1,fun k v hk w' hw=>?_,h2.up⟩
   have B:=zG (b:=b9) (c:=c9) (T:=93) w' (hw.le (h:=inferInstance))
   show w'.cell? _=some v
   rw [Nat.zero_add,B.cell]
   have hk5 : k<5:=by have:=(List.getElem?_eq_some_iff.1 hk).1;omega
   rw [List.getElem?_take,if_pos hk5,List.getElem?_drop,← htk9,List.getElem?_take] at hk
   split at hk
   ·exact hk
   ·cases hk
end Go.Proofs
end
section
namespace Go.Sh
open Go.ChangeShapes Go.WideShapes Go.ChangeAt Go.RowKit
section
variable {H : Type} {enc : TypeId × Value→H} {P : Program}
theorem aiP {W W' : World} (e : Ext W W') {p : MemPlace} (hp : p.block<W.heap.size) : W.sameAt W' p:=Below.same e hp
theorem VV {W W' : World} (e : Ext W W') (K : Kids P (· < P.types.size)) (hz : ∀ t e,t<P.types.size→P.underlying t=some (.slice e)→0<P.cellsOf e) {sp : Nat→Bool} :
  ∀ {ts : List TypeId} {vs : List Value} {ds : List (DataW H)} {ps : List MemPlace},(∀ t ∈ ts,t<P.types.size)→DataW.TrodAll enc P W 0 (fun _=>true) true ts vs ds ps→(∀ p ∈ ps,p.block<W.heap.size)→(∀ p ∈ ps,sp p.block=true)→
   DataW.TrodAll enc P W' 0 sp true ts vs ds ps
 |[],[],[],_,_,h,_,_=>h
 |_::_,_::_,_::_,_,hT,⟨p,q,⟨n,h1⟩,h2,he⟩,hl,hs=>
  ⟨p,q,⟨n,DataW.trod_stays K (fun {t e}=>hz t e) (fun h=>by cases h) (hT _ (List.mem_cons.2 (Or.inl rfl))) h1 (fun x hx=>aiP e (hl x (by rw [he];exact List.mem_append_left _ hx))) (fun x hx=>hs x (by rw [he];exact List.mem_append_left _ hx))⟩,
   VV e K hz (fun t ht=>hT t (List.mem_cons.2 (Or.inr ht))) h2 (fun x hx=>hl x (by rw [he];exact List.mem_append_right _ hx)) (fun x hx=>hs x (by rw [he];exact List.mem_append_right _ hx)),he⟩
theorem ahP {f : Func} {s : ChangeSpec} {W W' : World} {args : Array Value} {ds gs : List (DataW H)} {before : List MemPlace} {tb : TypeId} {fr ho : Bool}
  (hl : laidOutB P=true) (hm : mapsRowed P=true) (hz : ((List.range P.types.size).all fun t=>match P.underlying t with|some (.slice e)=>decide (0<P.cellsOf e)|_=>true)=true)
  (hts : ∀ t ∈ f.params.toList,t<P.types.size) (hv : s.vars = []) (hrt : f.resultTypes=#[tb]) (htb : P.underlying tb=some .bool)
  (hW : DataW.Whole enc P f.params.toList s.vars false W args.toList ds gs before) (hs : s.fn H (ds++gs) = { results:=[.lit (.bool true)],args:=ds }) (e : Ext W W') :
  s.post enc P f false fr ho false W args (.bool true) W':=by
 have hW':=hW
 obtain ⟨p,q,hA,hV,rfl,hfz,hnd⟩:=hW
 rw [hv] at hV
 obtain ⟨rfl,rfl⟩:=trodVars_none hV
 have hlt:=hW'.lt
 refine ⟨ds,[],p ++ [],[],p,[],hW',?_,?_,?_,Below.frame e _,fun h=>by cases h⟩
 ·rw [hs,hrt]
  exact trodAll_mk1 (shut_bool htb _)
 ·rw [hs]
  exact VV e (kids_rows hl hm) (slices_full_of P hz) hts hA (fun x hx=>hlt x (by simpa using hx)) (fun x hx=>by simpa using hlt x (by simpa using hx))
 ·rw [hv,hs];rfl
end
end Go.Sh
end
section
namespace Go.Sh
open Go.RowKit
mutual
def Dat.ok (P : Program) : Dat→TypeId→Prop
 |.int k n,t=>P.underlying t=some (.int k)∧(Lit.int k n).wf=true
 |.bool _,t=>P.underlying t=some .bool
 |.str s,t=>P.underlying t=some .string∧s.size≤maxLen
 |.agg ds,t=>∃ fs,P.underlying t=some (.struct fs)∧Dat.okF P ds (fs.toList.map (·.type))
 |.sl sz es,t=>∃ e,P.underlying t=some (.slice e)∧sz=P.cellsOf e∧es.length≤maxLen∧Dat.okS P es e
def Dat.okF (P : Program) : List Dat→List TypeId→Prop
 |[],ts=>ts = []
 |d::ds,ts=>∃ t r,ts=t::r∧Dat.ok P d t∧Dat.okF P ds r
def Dat.okS (P : Program) : List Dat→TypeId→Prop
 |[],_=>True
 |d::ds,t=>Dat.ok P d t∧Dat.okS P ds t
end
theorem ahQ {P : Program} {t : TypeId} : ∀ {es : List Dat},(∀ (i : Nat) (d : Dat),es[i]? = some d→d.ok P t)→Dat.okS P es t
 |[],_=>trivial
 |d::es,h=>⟨h 0 d rfl,ahQ fun i d hi=>h (i+1) d (by simpa using hi)⟩
theorem agh {P : Program} {t : TypeId} : ∀ {es : List Dat},Dat.okS P es t→∀ d ∈ es,d.ok P t
 |[],_,d,hd=>by cases hd
 |e::es,h,d,hd=>by
  rcases List.mem_cons.1 hd with rfl|hd
  ·exact h.1
  ·exact agh h.2 d hd
def aeJ (P : Program) (total : Nat) : Nat→List Field→Bool
 |off,[]=>off == total
 |off,f::fs=>f.offset == off&&aeJ P total (off+P.cellsOf f.type) fs
def ahR (P : Program) (ts : List TypeId) : Bool:=
 ts.all fun t=>match P.underlying t with
  |some (.int _)=>true
  |some .bool=>true
  |some .string=>true
  |some (.struct fs)=>aeJ P (P.cellsOf t) 0 fs.toList&&fs.toList.all (fun f=>ts.contains f.type)
  |some (.slice e)=>decide (0<P.cellsOf e)&&ts.contains e
  |_=>false
theorem VX {Q : Nat→Dat→Prop} : ∀ n : Nat,(∀ i,i<n→∃ d,Q i d)→∃ es : List Dat,es.length=n∧∀ i d,es[i]? = some d→Q i d
 |0,_=>⟨[],rfl,fun i d h=>by cases h⟩
 |n+1,h=>by
  obtain ⟨es,h1,h2⟩:=VX n fun i hi=>h i (by omega)
  obtain ⟨d,hd⟩:=h n (by omega)
  refine ⟨es ++ [d],by simp [h1],fun i x hx=>?_⟩
  rcases Nat.lt_or_ge i es.length with hi|hi
  ·rw [List.getElem?_append_left hi] at hx;exact h2 i x hx
  ·rw [List.getElem?_append_right hi] at hx
   have hl:=(List.getElem?_eq_some_iff.1 hx).1
   have : i=n:=by simp at hl;omega
   subst this
   rw [h1,Nat.sub_self] at hx
   cases hx;exact hd
section
variable {H : Type} {enc : TypeId × Value→H} {P : Program} {W : World}
theorem abj {cs : List Value} {total : Nat} (hcs : cs.length=total) : ∀ (fl : List Field) (off : Nat),aeJ P total off fl=true→
  (∀ f ∈ fl,∃ d,Rep (all W) d ((cs.drop f.offset).take (P.cellsOf f.type))∧d.ok P f.type)→∃ ds,RepA (all W) ds (cs.drop off)∧Dat.okF P ds (fl.map (·.type))
 |[],off,hl,_=>⟨[],by
  have : off=total:=by simpa [aeJ] using hl
  rw [RepA,List.drop_eq_nil_iff];omega,rfl⟩
 |f::fl,off,hl,h=>by
  simp only [aeJ,Bool.and_eq_true,beq_iff_eq] at hl
  obtain ⟨d,h1,h2⟩:=h f List.mem_cons_self
  obtain ⟨ds,h3,h4⟩:=abj hcs fl _ hl.2 fun g hg=>h g (List.mem_cons_of_mem _ hg)
  refine ⟨d::ds,⟨_,_,?_,h1,h3⟩,_,_,rfl,h2,h4⟩
  rw [hl.1,← List.drop_drop,List.take_append_drop]
theorem XC {ts : List TypeId} (hp : ahR P ts=true) {sp : Nat→Bool} : ∀ (fuel : Nat) (t : TypeId) (cs : List Value) (x : DataW H × List MemPlace),t ∈ ts→
  DataW.trod enc P W 0 sp true fuel t cs=some x→∃ d,Rep (all W) d cs∧d.ok P t
 |0,_,_,_,_,h=>by simp [DataW.trod] at h
 |fuel+1,t,cs,x,ht,h=>by
  have hpt:=List.all_eq_true.1 hp t ht
  cases hu : P.underlying t with
  |none=>rw [hu] at hpt;cases hpt
  |some k=>
   rw [hu] at hpt
   cases k with
   |int k=>obtain ⟨n,rfl,_,hw⟩:=DataW.trod_int hu h;exact ⟨.int k n,rfl,hu,hw⟩
   |bool=>obtain ⟨b,rfl,_⟩:=DataW.trod_bool hu h;exact ⟨.bool b,rfl,hu⟩
   |string=>obtain ⟨s,rfl,_,hs⟩:=DataW.trod_string hu h;exact ⟨.str s,rfl,hu,hs⟩
   |struct fs=>
    simp only [Bool.and_eq_true] at hpt
    obtain ⟨xs,n,hn,_,hl,hxl,hx⟩:=DataW.trod_struct hu h
    obtain rfl : fuel=n:=by omega
    obtain ⟨ds,h1,h2⟩:=abj (P:=P) (W:=W) hl fs.toList 0 hpt.1 (fun f hf=>by
     obtain ⟨i,hi,rfl⟩:=List.getElem_of_mem hf
     have hi' : i<fs.size:=by simpa using hi
     have h1:=hx i fs[i] (Array.getElem?_eq_getElem hi')
     rw [List.getElem?_eq_getElem (by omega)] at h1
     have hmem : fs[i].type ∈ ts:=by
      have:=List.all_eq_true.1 hpt.2 _ hf
      simpa using this
     exact XC hp fuel _ _ _ hmem h1)
    rw [List.drop_zero] at h1
    exact ⟨.agg ds,h1,fs,hu,h2⟩
   |slice e=>
    simp only [Bool.and_eq_true,decide_eq_true_eq] at hpt
    have he : e ∈ ts:=by simpa using hpt.2
    rcases DataW.trod_slice hu h with ⟨rfl,_⟩|⟨a,len,cap,elems,rest,n,hn,rfl,_,_,hlc,hcm,hel,hget,_,_⟩
    ·exact ⟨.sl (P.cellsOf e) [],⟨none,0,rfl,fun _=>rfl,Nat.le_refl _,trivial⟩,e,hu,rfl,Nat.zero_le _,trivial⟩
    obtain rfl : fuel=n:=by omega
    have hspot : 0<len→a.spot=none:=fun h0=>by
     have h1:=hget 0 h0
     rw [List.getElem?_eq_getElem (by omega)] at h1
     obtain ⟨c,hc,_⟩:=Option.bind_eq_some_iff.1 h1
     obtain ⟨_,hcl,hcc⟩:=World.cells?_some hc
     have hcell:=(hcc 0 hpt.1).trans (List.getElem?_eq_getElem (by omega))
     have:=World.cell?_spot hcell
     simpa [Addr.add] using this
    obtain ⟨es,h1,h2⟩:=VX (Q:=fun i d=>d.ok P e∧∃ c,c.length=P.cellsOf e∧CellsAt (all W) (some a) (i*P.cellsOf e) c∧Rep (all W) d c) len (fun i hi=>by
     have h1:=hget i hi
     rw [List.getElem?_eq_getElem (by omega)] at h1
     obtain ⟨c,hc,ht⟩:=Option.bind_eq_some_iff.1 h1
     obtain ⟨_,hcl,hcc⟩:=World.cells?_some hc
     obtain ⟨d,hd,hok⟩:=XC hp fuel e c _ he ht
     refine ⟨d,hok,c,hcl,fun j v hj=>?_,hd⟩
     have hjl:=(List.getElem?_eq_some_iff.1 hj).1
     have hcell : W.cell? ((a.add (i*P.cellsOf e)).add j)=some v:=(hcc j (by omega)).trans hj
     obtain ⟨b,off,sp⟩:=a
     have hsp : sp=none:=hspot (by omega)
     subst hsp
     rw [Q8,Q8] at hcell
     exact ⟨b,off,rfl,aiK hcell⟩)
    refine ⟨.sl (P.cellsOf e) es,⟨some a,cap,by rw [h1],by simp,by omega,RepS.of fun i d hi=>?_⟩,e,hu,rfl,by omega,ahQ fun i d hi=>(h2 i d hi).1⟩
    rw [Nat.zero_add];exact (h2 i d hi).2
   |_=>cases hpt
end
end Go.Sh
end
section
namespace Go.Sh
open Go.RowKit
set_option linter.unusedVariables false
def SlG {α : Type} (sz : Nat) (r : Gh) (R : List Value→α→Prop) (v : Value) (l : List α) : Prop:=
 ∃ p cap,v = .slice p l.length cap∧(p=none→cap=0)∧l.length≤cap∧∀ (i : Nat) (h : i<l.length),∃ c,c.length=sz∧CellsAt r p (i*sz) c∧R c l[i]
def RowOf {α : Type} (sz : Nat) (R : List Value→α→Prop) (xs : List Value) (l : List α) : Prop:=
 xs.length=l.length*sz∧∀ (i : Nat) (h : i<l.length),R ((xs.drop (i*sz)).take sz) l[i]
section
variable {α : Type} {sz : Nat} {r s : Gh} {R Q : List Value→α→Prop} {v : Value} {l : List α}
theorem SlG.up' (h : SlG sz r R v l) (le : Le r s) (hR : ∀ c x,R c x→Q c x) : SlG sz s Q v l:=by
 obtain ⟨p,cap,h1,h2,h3,h4⟩:=h
 refine ⟨p,cap,h1,h2,h3,fun i hi=>?_⟩
 obtain ⟨c,h5,h6,h7⟩:=h4 i hi
 exact ⟨c,h5,h6.up le,hR _ _ h7⟩
theorem SlG.mono (h : SlG sz r R v l) (hR : ∀ c x,R c x→Q c x) : SlG sz r Q v l:=h.up' inferInstance hR
theorem SlG.cells (h : SlG sz r R v l) [le : Le r s] : SlG sz s R v l:=h.up' le fun _ _ h=>h
theorem SlG.nil : SlG sz r R (.slice none 0 0) ([] : List α):=⟨none,0,rfl,fun _=>rfl,Nat.le_refl _,fun i hi=>absurd hi (Nat.not_lt_zero _)⟩
theorem SlG.shape (h : SlG sz r R v l) : ∃ p cap,v = .slice p l.length cap∧(p=none→cap=0)∧l.length≤cap:=by
 obtain ⟨p,cap,h1,h2,h3,_⟩:=h;exact ⟨p,cap,h1,h2,h3⟩
theorem SlG.len {p : Option Addr} {n cap : Nat} (h : SlG sz r R (.slice p n cap) l) : n=l.length:=by
 obtain ⟨p',cap',h1,_⟩:=h;cases h1;rfl
theorem SlG.get (hz : 0<sz) {p : Option Addr} {n cap : Nat} (h : SlG sz r R (.slice p n cap) l) {i : Nat} (hi : i<l.length) :
  ∃ b off c,p=some ⟨b,off,none⟩∧c.length=sz∧R c l[i]∧∀ j v,c[j]? = some v→Ob r fun w=>w.cell? ⟨b,off+i*sz+j,none⟩=some v:=by
 obtain ⟨p',cap',h1,h2,h3,h4⟩:=h
 cases h1
 obtain ⟨c,h5,h6,h7⟩:=h4 i hi
 obtain ⟨b,off,hp,_⟩:=h6 0 c[0] (List.getElem?_eq_getElem (by omega))
 subst hp
 refine ⟨b,off,c,rfl,h5,h7,fun j v hj=>?_⟩
 obtain ⟨b',off',hp,ho⟩:=h6 j v hj
 cases hp;exact ho
theorem RowOf.nil : RowOf sz R [] ([] : List α):=⟨by simp,fun i hi=>absurd hi (Nat.not_lt_zero _)⟩
theorem RowOf.mono {xs : List Value} (h : RowOf sz R xs l) (hR : ∀ c x,R c x→Q c x) : RowOf sz Q xs l:=⟨h.1,fun i hi=>hR _ _ (h.2 i hi)⟩
theorem RowOf.snoc {xs c : List Value} {x : α} (h : RowOf sz R xs l) (hc : c.length=sz) (hx : R c x) : RowOf sz R (xs++c) (l ++ [x]):=by
 obtain ⟨h1,h2⟩:=h
 refine ⟨by rw [List.length_append,List.length_append,h1,hc,List.length_singleton,Nat.add_mul,Nat.one_mul],fun i hi=>?_⟩
 rw [List.length_append,List.length_singleton] at hi
 rcases Nat.lt_or_ge i l.length with h|h
 ·have hm : i*sz+sz≤xs.length:=by rw [h1,← Nat.succ_mul];exact Nat.mul_le_mul_right _ h
  rw [List.getElem_append_left h,List.drop_append_of_le_length (by omega),List.take_append_of_le_length (by rw [List.length_drop];omega)]
  exact h2 i h
 ·obtain rfl : i=l.length:=by omega
  rw [List.getElem_append_right (Nat.le_refl _),← h1,List.drop_left',List.take_of_length_le (by omega)]
  ·simpa using hx
  ·rfl
theorem RowOf.sl {xs : List Value} (h : RowOf sz R xs l) {p : Option Addr} {cap : Nat} (hp : p=none→cap=0) (hc : l.length≤cap) (ho : Ob r fun w=>Sl w p xs) (hz : 0<sz) (hk : ∃ w,Holds r w) : SlG sz r R (.slice p l.length cap) l:=by
 refine ⟨p,cap,rfl,hp,hc,fun i hi=>⟨(xs.drop (i*sz)).take sz,?_,?_,h.2 i hi⟩⟩
 ·have : i*sz+sz≤xs.length:=by rw [h.1,← Nat.succ_mul];exact Nat.mul_le_mul_right _ hi
  rw [List.length_take,List.length_drop];omega
 ·intro j v hj
  rw [List.getElem?_take] at hj
  split at hj
  ·rw [List.getElem?_drop] at hj
   obtain ⟨w,hw⟩:=hk
   obtain ⟨b,off,rfl,_⟩:=ho w hw _ _ hj
   refine ⟨b,off,rfl,fun w' hw'=>?_⟩
   obtain ⟨b',off',hp',hc'⟩:=ho w' hw' _ _ hj
   cases hp'
   rw [← Nat.add_assoc] at hc';exact hc'
  ·cases hj
end
section
variable {P : Program} {X : Nat→Prop} {w0 w : World} {r : Gh} {L : List Asr} {α : Type} {sz n : Nat} {R : List Value→α→Prop} {v : Value} {l : List α} {e : TypeId} {xs : List Value}
theorem StX.doneRow (S : StX X w0 r w (.row v e sz n xs::L)) (h : RowOf sz R xs l) (hz : 0<sz) (hn : n=l.length) :
  ∃ s,StX X w0 (r.or s) w L∧SlG sz s R v l∧(∀ b o,s b o→∃ c,o = .cells c e (0,0))∧(∀ b o,s b o→w0.heap.size≤b∨X b):=by
 subst hn
 have hm:=S.mine _ (List.mem_cons_self ..)
 have hr : w.ownsRow 0 e sz v l.length xs:=S.has _ (List.mem_cons_self ..)
 rcases qD hr with ⟨rfl,h1,h2⟩|⟨g,cap,c,rfl,hg,B,h1,_,h3,h4⟩
 ·have hl : l = []:=List.eq_nil_of_length_eq_zero h1
  subst hl
  exact ⟨nothing,S.tl.new (Ext.refl _) New.nothing,SlG.nil,fun b o h=>h.elim,fun b o h=>h.elim⟩
 ·have S':=S.turn (p:=[]) (x:=.row _ e sz l.length xs) (y:=.cell g c e) (ExtBut.refl _ _) B fun k hk=>.inl (by cases hk;rfl)
  refine ⟨one g c e,S'.frz,?_,fun b o h=>⟨_,h.2⟩,fun b o h=>(hm b (by rw [h.1];rfl)).1⟩
  refine h.sl (by simp) h1 (fun w k=>?_) hz ⟨w,ku B⟩
  rw [← h4];exact (Sl.blk (zG w k)).take _
theorem StX.litSl {b : Nat} (S : StX X w0 r w (.cell b xs e::L)) (h : RowOf sz R xs l) (hz : 0<sz) : StX X w0 (r.or (Go.Sh.one b xs e)) w L∧SlG sz (Go.Sh.one b xs e) R (.slice (some ⟨b,0,none⟩) l.length l.length) l:=
 ⟨S.frz,h.sl (by simp) (Nat.le_refl _) (fun w k=>Sl.blk (zG w k)) hz ⟨w,ku (S.has _ (List.mem_cons_self ..))⟩⟩
theorem StX.d2 {x y : Asr} (S : StX X w0 r w (x::y::L)) : StX X w0 r w (x::L):=S.less (fun _ _ h=>h) (.cons_cons _ (List.sublist_cons_self _ _))
theorem StX.reGh {s t : Gh} (S : StX X w0 ((r.or s).or t) w L) : StX X w0 (r.or (s.or t)) w L:=
 S.less (fun b o h=>h.elim (fun h=>.inl (.inl h)) fun h=>h.elim (fun h=>.inl (.inr h)) .inr) (List.Sublist.refl _)
theorem Above.or' {s t : Gh} (h : Above w0 s) (k : Above w0 t) : Above w0 (s.or t):=fun b o x=>x.elim (h b o) (k b o)
theorem Above.no : Above w0 nothing:=fun b o h=>h.elim
theorem StX.newOf {q : Gh} (S : StX X w0 r w L) (h : Above w0 q) [Le q r] : New w0 q w:=⟨S.holds.le (h:=inferInstance),h⟩
end
section
variable {w : World} {A : (List Value→World→Prop)→Prop} {Z : Value→World→Prop} {b : Bool}
end
end Go.Sh
end
section
namespace Go.Sh
open Go.RowKit
set_option linter.unusedSimpArgs false
set_option linter.unusedVariables false
section
variable {P : Program}
theorem yD {d : Dat} {t : TypeId} {k : IntKind} (u : P.underlying t=some (.int k)) (h : d.ok P t) : ∃ n,d = .int k n∧(Lit.int k n).wf=true:=by
 cases d<;>simp only [Dat.ok,u] at h<;>try simp at h
 obtain ⟨rfl,h⟩:=h
 exact ⟨_,rfl,h⟩
theorem aeK {d : Dat} {t : TypeId} (u : P.underlying t=some .bool) (h : d.ok P t) : ∃ b,d = .bool b:=by
 cases d<;>simp only [Dat.ok,u] at h<;>try simp at h
 exact ⟨_,rfl⟩
theorem aj4 {d : Dat} {t : TypeId} (u : P.underlying t=some .string) (h : d.ok P t) : ∃ s,d = .str s∧s.size≤maxLen:=by
 cases d<;>simp only [Dat.ok,u] at h<;>try simp at h
 exact ⟨_,rfl,h⟩
theorem akR {d : Dat} {t e : TypeId} (u : P.underlying t=some (.slice e)) (h : d.ok P t) : ∃ es,d = .sl (P.cellsOf e) es∧es.length≤maxLen∧∀ x ∈ es,x.ok P e:=by
 cases d<;>simp only [Dat.ok,u] at h<;>try simp at h
 obtain ⟨rfl,h1,h2⟩:=h
 exact ⟨_,rfl,h1,agh h2⟩
theorem qK {d : Dat} {t : TypeId} {ts : List TypeId} (u : ∃ fs,P.underlying t=some (.struct fs)∧fs.toList.map (·.type)=ts) (h : d.ok P t) : ∃ ds,d = .agg ds∧Dat.okF P ds ts:=by
 obtain ⟨fs,u,rfl⟩:=u
 cases d<;>simp only [Dat.ok,u] at h<;>try simp at h
 exact ⟨_,rfl,by simpa using h⟩
theorem zx {ds : List Dat} {t : TypeId} {ts : List TypeId} (h : Dat.okF P ds (t::ts)) : ∃ d r,ds=d::r∧d.ok P t∧Dat.okF P r ts:=by
 cases ds with
 |nil=>cases h
 |cons d r=>obtain ⟨t',r',h1,h2,h3⟩:=h;cases h1;exact ⟨d,r,rfl,h2,h3⟩
theorem qL {ds : List Dat} (h : Dat.okF P ds []) : ds = []:=by
 cases ds with
 |nil=>rfl
 |cons d r=>obtain ⟨t',r',h1,_⟩:=h;cases h1
noncomputable def agi (P : Program) (t : TypeId) (ts : List TypeId) : Bool:=match P.underlying t with|some (.struct fs)=>decide (fs.toList.map (·.type)=ts)|_=>false
theorem xT {t : TypeId} {ts : List TypeId} (h : agi P t ts=true) : ∃ fs,P.underlying t=some (.struct fs)∧fs.toList.map (·.type)=ts:=by
 unfold agi at h
 split at h
 ·rename_i fs hu;exact ⟨fs,hu,of_decide_eq_true h⟩
 ·cases h
end
theorem ahS {n : Int} (h : (Lit.int .i64 n).wf=true) : -9223372036854775808≤n∧n≤9223372036854775807:=by
 simp only [Lit.wf,Bool.and_eq_true,decide_eq_true_eq] at h
 exact ⟨h.1,h.2⟩
theorem aeL {α : Type} {f : α→Dat} {G : α→Prop} : ∀ es : List Dat,(∀ d ∈ es,∃ t,d=f t∧G t)→∃ l : List α,es=l.map f∧∀ t ∈ l,G t
 |[],_=>⟨[],rfl,fun t h=>by cases h⟩
 |d::es,h=>by
  obtain ⟨t,rfl,ht⟩:=h d List.mem_cons_self
  obtain ⟨l,rfl,hq⟩:=aeL es fun x hx=>h x (List.mem_cons_of_mem _ hx)
  refine ⟨t::l,rfl,fun x hx=>?_⟩
  rcases List.mem_cons.1 hx with rfl|hx
  ·exact ht
  ·exact hq x hx
end Go.Sh
end
section
namespace Go.Proofs
open Go.Sh
set_option maxRecDepth 100000
set_option linter.unusedSimpArgs false
set_option linter.unusedVariables false
structure PlD where
 l : Int
 ps : List Int
structure OpD where
 k : Int
 n : Int
 pl : PlD
structure PtD where
 op : Int
 to : PlD
 a : OpD
 b : OpD
 args : List OpD
 sign : ByteArray
 fr : PlD
 mu : Bool
 fn : Int
 st : Int
 nx : Int
 el : Int
 tx : Int
structure GrD where
 name : ByteArray
 lv : Int
 outs : List (Int × Int)
 pn : Int
 tys : List TyD
 nms : List ByteArray
 pts : List PtD
structure UnD where
 ss : List StD
 fs : List GrD
 mn : Int
def zU (c : List Value) (x : Int) : Prop:=c = [.int .i64 x]
def ack (x : Int) : Prop:=-9223372036854775808≤x∧x<9223372036854775808
def ZK (c : List Value) (x : Int) : Prop:=c = [.int .i64 x]∧ack x
structure SlB {α : Type} (sz : Nat) (r : Gh) (R : List Value→α→Prop) (v : Value) (l : List α) : Prop where
 sl : SlG sz r R v l
 few : l.length≤maxLen
theorem SlB.cells {α : Type} {sz : Nat} {r s : Gh} {R : List Value→α→Prop} {v : Value} {l : List α} (h : SlB sz r R v l) [le : Le r s] : SlB sz s R v l:=⟨h.sl.cells,h.few⟩
theorem SlB.up' {α : Type} {sz : Nat} {r s : Gh} {R Q : List Value→α→Prop} {v : Value} {l : List α} (h : SlB sz r R v l) (le : Le r s) (hR : ∀ c x,R c x→Q c x) : SlB sz s Q v l:=⟨h.sl.up' le hR,h.few⟩
theorem kC {α : Type} {D : α→Dat} {r : Gh} {R : List Value→α→Prop} {sz : Nat} {cs : List Value} {l : List α} (hR : ∀ c x,x ∈ l→Rep r (D x) c→R c x) (h : Rep r (.sl sz (l.map D)) cs) (hl : l.length≤maxLen) : ∃ v,cs = [v]∧SlB sz r R v l:=by
 obtain ⟨p,cap,rfl,h1,h2,h3⟩:=h
 rw [List.length_map] at h2 ⊢
 refine ⟨_,rfl,⟨p,cap,rfl,h1,h2,fun i hi=>?_⟩,hl⟩
 obtain ⟨c,h4,h5,h6⟩:=h3.get (i:=i) (d:=D l[i]) (by rw [List.getElem?_map,List.getElem?_eq_getElem hi];rfl)
 rw [Nat.zero_add] at h5
 exact ⟨c,h4,h5,hR _ _ (List.getElem_mem hi) h6⟩
def PlD.ok (p : PlD) : Prop:=p.ps.length≤maxLen∧∀ k ∈ p.ps,ack k
def OpD.ok (o : OpD) : Prop:=o.pl.ok
def PtD.ok (p : PtD) : Prop:=p.to.ok∧p.a.ok∧p.b.ok∧(p.args.length≤maxLen∧∀ o ∈ p.args,o.ok)∧p.fr.ok
def GrD.ok (g : GrD) : Prop:=g.outs.length≤maxLen∧g.tys.length≤maxLen∧g.nms.length≤maxLen∧g.pts.length≤maxLen∧∀ p ∈ g.pts,p.ok
def UnD.ok (u : UnD) : Prop:=u.ss.length≤maxLen∧u.fs.length≤maxLen∧∀ g ∈ u.fs,g.ok
def aiQ (c : List Value) (x : ByteArray) : Prop:=c = [.string x]
def aiR (c : List Value) (x : Int × Int) : Prop:=c = [.int .i64 x.1,.int .i64 x.2]
def TyC (r : Gh) (c : List Value) (t : TyD) : Prop:=TyG r (.agg c.toArray) t
def PlG (r : Gh) (c : List Value) (p : PlD) : Prop:=∃ v,c = [.int .i64 p.l,v]∧SlB 1 r ZK v p.ps
def OpG (r : Gh) (c : List Value) (o : OpD) : Prop:=∃ v,c = [.int .u8 o.k,.int .i64 o.n,.int .i64 o.pl.l,v]∧SlB 1 r ZK v o.pl.ps
def PtG (r : Gh) (c : List Value) (p : PtD) : Prop:=∃ vt va vb vl vf,
 c = [.int .u8 p.op,.int .i64 p.to.l,vt,.int .u8 p.a.k,.int .i64 p.a.n,.int .i64 p.a.pl.l,va,.int .u8 p.b.k,.int .i64 p.b.n,.int .i64 p.b.pl.l,vb,vl,.string p.sign,.int .i64 p.fr.l,vf,.bool p.mu,.int .i64 p.fn,.int .i64 p.st,.int .i64 p.nx,.int .i64 p.el,.int .i64 p.tx]∧
 SlB 1 r ZK vt p.to.ps∧SlB 1 r ZK va p.a.pl.ps∧SlB 1 r ZK vb p.b.pl.ps∧SlB 4 r (OpG r) vl p.args∧SlB 1 r ZK vf p.fr.ps
def GrG (r : Gh) (c : List Value) (g : GrD) : Prop:=∃ vo vt vn vp,c = [.string g.name,.int .i64 g.lv,vo,.int .i64 g.pn,vt,vn,vp]∧
 SlB 2 r aiR vo g.outs∧SlB 5 r (TyC r) vt g.tys∧SlB 1 r aiQ vn g.nms∧SlB 21 r (PtG r) vp g.pts
def UnG (r : Gh) (v : Value) (u : UnD) : Prop:=∃ p cap vf,v = .agg #[.slice p u.ss.length cap,vf,.int .i64 u.mn]∧(p=none→cap=0)∧u.ss.length≤cap∧StG r p u.ss∧u.ss.length≤maxLen∧SlB 7 r (GrG r) vf u.fs
theorem PlG.up {r s : Gh} {c : List Value} {p : PlD} (h : PlG r c p) [l : Le r s] : PlG s c p:=by
 obtain ⟨v,h1,h2⟩:=h;exact ⟨v,h1,h2.cells⟩
theorem OpG.up {r s : Gh} {c : List Value} {p : OpD} (h : OpG r c p) [l : Le r s] : OpG s c p:=by
 obtain ⟨v,h1,h2⟩:=h;exact ⟨v,h1,h2.cells⟩
theorem PtG.up {r s : Gh} {c : List Value} {p : PtD} (h : PtG r c p) [l : Le r s] : PtG s c p:=by
 obtain ⟨vt,va,vb,vl,vf,h0,h1,h2,h3,h4,h5⟩:=h
 exact ⟨vt,va,vb,vl,vf,h0,h1.cells,h2.cells,h3.cells,h4.up' l fun _ _ h=>h.up,h5.cells⟩
theorem GrG.up {r s : Gh} {c : List Value} {g : GrD} (h : GrG r c g) [l : Le r s] : GrG s c g:=by
 obtain ⟨vo,vt,vn,vp,h0,h1,h2,h3,h4⟩:=h
 exact ⟨vo,vt,vn,vp,h0,h1.cells,h2.up' l fun _ _ h=>TyG.up h,h3.cells,h4.up' l fun _ _ h=>h.up⟩
theorem UnG.up {r s : Gh} {v : Value} {u : UnD} (h : UnG r v u) [l : Le r s] : UnG s v u:=by
 obtain ⟨p,cap,vf,h0,h1,h2,h3,h5,h4⟩:=h
 exact ⟨p,cap,vf,h0,h1,h2,h3.up,h5,h4.up' l fun _ _ h=>h.up⟩
def PlD.dat (p : PlD) : Dat:=.agg [.int .i64 p.l,.sl 1 (p.ps.map (Dat.int .i64))]
def OpD.dat (o : OpD) : Dat:=.agg [.int .u8 o.k,.int .i64 o.n,o.pl.dat]
def PtD.dat (p : PtD) : Dat:=.agg [.int .u8 p.op,p.to.dat,p.a.dat,p.b.dat,.sl 4 (p.args.map OpD.dat),.str p.sign,p.fr.dat,.bool p.mu,.int .i64 p.fn,.int .i64 p.st,.int .i64 p.nx,.int .i64 p.el,.int .i64 p.tx]
def agY (x : Int × Int) : Dat:=.agg [.int .i64 x.1,.int .i64 x.2]
def GrD.dat (g : GrD) : Dat:=.agg [.str g.name,.int .i64 g.lv,.sl 2 (g.outs.map agY),.int .i64 g.pn,.sl 5 (g.tys.map TyD.dat),.sl 1 (g.nms.map Dat.str),.sl 21 (g.pts.map PtD.dat)]
def UnD.dat (u : UnD) : Dat:=.agg [.sl 2 (u.ss.map StD.dat),.sl 7 (u.fs.map GrD.dat),.int .i64 u.mn]
theorem Jo {r : Gh} {c : List Value} {p : PlD} (h : Rep r p.dat c) (k : p.ok) : PlG r c p:=by
 obtain ⟨a1,b1,rfl,e1,a2,b2,rfl,e2,e3⟩:=h
 obtain rfl : a1=_:=e1
 obtain rfl : b2 = []:=e3
 obtain ⟨v,rfl,hv⟩:=kC (D:=Dat.int .i64) (R:=ZK) (fun c x hx h=>⟨h,k.2 x hx⟩) e2 k.1
 exact ⟨v,rfl,hv⟩
theorem Jp {r : Gh} {c : List Value} {o : OpD} (h : Rep r o.dat c) (k : o.ok) : OpG r c o:=by
 obtain ⟨a1,b1,rfl,e1,a2,b2,rfl,e2,a3,b3,rfl,e3,e4⟩:=h
 obtain rfl : a1=_:=e1
 obtain rfl : a2=_:=e2
 obtain rfl : b3 = []:=e4
 obtain ⟨v,rfl,hv⟩:=Jo e3 k
 exact ⟨v,rfl,hv⟩
theorem ahT {r : Gh} {c : List Value} {p : PtD} (h : Rep r p.dat c) (k : p.ok) : PtG r c p:=by
 obtain ⟨a1,b1,rfl,e1,a2,b2,rfl,e2,a3,b3,rfl,e3,a4,b4,rfl,e4,a5,b5,rfl,e5,a6,b6,rfl,e6,a7,b7,rfl,e7,a8,b8,rfl,e8,a9,b9,rfl,e9,a10,b10,rfl,e10,a11,b11,rfl,e11,a12,b12,rfl,e12,a13,b13,rfl,e13,e14⟩:=h
 obtain rfl : a1=_:=e1
 obtain rfl : a6=_:=e6
 obtain rfl : a8=_:=e8
 obtain rfl : a9=_:=e9
 obtain rfl : a10=_:=e10
 obtain rfl : a11=_:=e11
 obtain rfl : a12=_:=e12
 obtain rfl : a13=_:=e13
 obtain rfl : b13 = []:=e14
 obtain ⟨v2,rfl,h2⟩:=Jo e2 k.1
 obtain ⟨v3,rfl,h3⟩:=Jp e3 k.2.1
 obtain ⟨v4,rfl,h4⟩:=Jp e4 k.2.2.1
 obtain ⟨v5,rfl,h5⟩:=kC (R:=OpG r) (fun c x hx h=>Jp h (k.2.2.2.1.2 x hx)) e5 k.2.2.2.1.1
 obtain ⟨v7,rfl,h7⟩:=Jo e7 k.2.2.2.2
 exact ⟨v2,v3,v4,v5,v7,rfl,h2,h3,h4,h5,h7⟩
theorem agZ {r : Gh} {c : List Value} {x : Int × Int} (h : Rep r (agY x) c) : aiR c x:=by
 obtain ⟨a1,b1,rfl,e1,a2,b2,rfl,e2,e3⟩:=h
 obtain rfl : a1=_:=e1
 obtain rfl : a2=_:=e2
 obtain rfl : b2 = []:=e3
 rfl
theorem ahU {r : Gh} {c : List Value} {g : GrD} (h : Rep r g.dat c) (k : g.ok) : GrG r c g:=by
 obtain ⟨a1,b1,rfl,e1,a2,b2,rfl,e2,a3,b3,rfl,e3,a4,b4,rfl,e4,a5,b5,rfl,e5,a6,b6,rfl,e6,a7,b7,rfl,e7,e8⟩:=h
 obtain rfl : a1=_:=e1
 obtain rfl : a2=_:=e2
 obtain rfl : a4=_:=e4
 obtain rfl : b7 = []:=e8
 obtain ⟨v3,rfl,h3⟩:=kC (R:=aiR) (fun c x _ h=>agZ h) e3 k.1
 obtain ⟨v5,rfl,h5⟩:=kC (R:=TyC r) (fun c x _ h=>TyG.of_rep h) e5 k.2.1
 obtain ⟨v6,rfl,h6⟩:=kC (D:=Dat.str) (R:=aiQ) (fun c x _ h=>h) e6 k.2.2.1
 obtain ⟨v7,rfl,h7⟩:=kC (R:=PtG r) (fun c x hx h=>ahT h (k.2.2.2.2 x hx)) e7 k.2.2.2.1
 exact ⟨v3,v5,v6,v7,rfl,h3,h5,h6,h7⟩
theorem ahV {r : Gh} {c : List Value} {u : UnD} (h : Rep r u.dat c) (k : u.ok) : UnG r (.agg c.toArray) u:=by
 obtain ⟨a1,b1,rfl,e1,a2,b2,rfl,e2,a3,b3,rfl,e3,e4⟩:=h
 obtain rfl : a3=_:=e3
 obtain rfl : b3 = []:=e4
 obtain ⟨q,cap,rfl,h1,h2,h3⟩:=e1
 obtain ⟨vf,rfl,hf⟩:=kC (R:=GrG r) (fun c x hx h=>ahU h (k.2.2 x hx)) e2 k.2.1
 rw [List.length_map] at h2 ⊢
 exact ⟨q,cap,vf,rfl,h1,h2,h3,k.1,hf⟩
end Go.Proofs
end
section
namespace Go.Sh
theorem p_id {P : Program} {s : Sem Value} {K : Value→Prop} (h : opP P s K) : opP P s K:=h
theorem q_id {P : Program} {w : World} {s : Sem Value} {K : Value→Prop} (h : opQ P w s K) : opQ P w s K:=h
end Go.Sh
end
section
namespace Go.Proofs
open Go.Sh
set_option maxRecDepth 100000
set_option linter.unusedSimpArgs false
set_option linter.unusedVariables false
end Go.Proofs
end
section
namespace Go.Proofs
open Go.Shelf
set_option maxRecDepth 100000
end Go.Proofs
end
section
namespace Go.Proofs.Tryz
open Go.Sh
set_option maxRecDepth 100000
def Jq (t0 t1 : Value) (w : World) (K : VW) : Prop:=
 pw w (Instr.box 43 t0) fun t2 w1=>
 fl w1 t2 43 6 41 fun t7=>xl w1 41 t7 t1 64 fun t10=>pw w1 (Instr.alloc 64 true (.tuple #[])) fun t5 w2=>
 so w2 64 t5 t10 fun w3=>fl w3 t5 64 0 55 fun t13=>bt .eql 55 t13 (Value.int .u8 14) fun t14=>zc t14 (K (Value.slice Option.none 0 0) w3) (fl w3 t5 64 0 55 fun t17=>bt .eql 55 t17 (Value.int .u8 12) fun t18=>za (fun K4=>gIf t18 true (fl w3 t5 64 11 3 fun t21=>fl w3 t5 64 10 3 fun t23=>bf .neq 3 t21 t23 fun t24=>K4 [t24] w3) (K4 [undef] w3)) (fun s5 _d6 w7=>
 zb t18 (s5.getD 0 undef) fa_ fun t25=>zc t25 (fl w7 t5 64 10 3 fun t27=>fl w7 t5 64 11 3 fun t29=>pw w7 (Instr.buildSlice 32 2 #[(0,t27),(1,t29)]) fun t30 w8=>
 K t30 w8) (fl w7 t5 64 10 3 fun t32=>pw w7 (Instr.buildSlice 32 1 #[(0,t32)]) fun t33 w9=>
 K t33 w9)))
theorem adz {t0 t1 : Value} {w : World} {K : VW} (h : Jq t0 t1 w K) : zd prog Yp #[t0,t1] w K:=
 okC false (.s (.r (rz 2 0 2)) (.s (.r (rz 7 0 10500)) (.s (.b (.s (.r (rz 4 0 4)) (.c (.s (.r (rz 1 0 0)) (.n)) (.s (.r (ra 4 0 4 (.grp 19 true (ri 5 4 68) [24] (rz 2 9 0)))) (.c (.s (.r (rz 6 0 580)) (.n)) (.n)))))) (.s (.r (rz 4 0 36)) (.n))))) func55 rfl (by kernel_rfl) (by kernel_rfl) h
def YA (t0 : Value) (w : World) (K : VW) : Prop:=
 pw w (Instr.box 64 t0) fun t1 w1=>
 za (fun K2=>
 pf 64 t1 2 fun t4=>fl w1 t4 61 0 59 fun t6=>bt .neq 59 t6 (Value.int .u8 0) fun t7=>zc t7 (fl w1 t1 64 2 61 fun t10=>pw w1 (Instr.buildSlice 62 1 #[(0,t10)]) fun t11 w6=>
 pw w6 (Builtin.append_ #[62,62] 62 #[(Value.slice Option.none 0 0),t11]) fun t12 w7=>
 K2 [t12] w7) (K2 [(Value.slice Option.none 0 0)] w1)) (fun s3 _d4 w5=>
 za (fun K8=>
 pf 64 t1 3 fun t13=>fl w5 t13 61 0 59 fun t15=>bt .neq 59 t15 (Value.int .u8 0) fun t16=>zc t16 (fl w5 t1 64 3 61 fun t19=>pw w5 (Instr.buildSlice 62 1 #[(0,t19)]) fun t20 w12=>
 pw w12 (Builtin.append_ #[62,62] 62 #[(s3.getD 0 undef),t20]) fun t21 w13=>
 K8 [t21] w13) (K8 [(s3.getD 0 undef)] w5)) (fun s9 _d10 w11=>
 fl w11 t1 64 4 62 fun t24=>pw w11 (Builtin.append_ #[62,62] 62 #[(s9.getD 0 undef),t24]) fun t25 w14=>
 K t25 w14))
theorem VA {t0 : Value} {w : World} {K : VW} (h : YA t0 w K) : zd prog jw #[t0] w K:=
 okC false (.s (.r (rz 2 0 2)) (.s (.r (rz 1 0 0)) (.j [3] (.s (.r (rz 4 0 16)) (.c (.r (rz 6 0 656)) (.n))) (.j [3] (.s (.r (rz 4 0 16)) (.c (.r (rz 6 0 656)) (.n))) (.s (.r (rz 5 0 144)) (.n)))))) func32 rfl (by kernel_rfl) (by kernel_rfl) h
def Xh (t0 : Value) (w : World) (K : VW) : Prop:=
 pw w (Instr.box 64 t0) fun t1 w1=>
 fl w1 t1 64 0 55 fun t4=>bt .geq 55 t4 (Value.int .u8 1) fun t5=>za (fun K2=>gIf t5 true (fl w1 t1 64 0 55 fun t8=>bt .leq 55 t8 (Value.int .u8 8) fun t9=>K2 [t9] w1) (K2 [undef] w1)) (fun s3 _d4 w5=>
 zb t5 (s3.getD 0 undef) fa_ fun t10=>K t10 w5)
theorem aav {t0 : Value} {w : World} {K : VW} (h : Xh t0 w K) : zd prog qc #[t0] w K:=
 okC false (.s (.r (rz 2 0 2)) (.s (.r (ra 4 0 4 (.grp 6 true (ri 3 4 4) [9] (rz 2 7 0)))) (.n))) func33 rfl (by kernel_rfl) (by kernel_rfl) h
end Go.Proofs.Tryz
end
section
namespace Go.Proofs
open Go.Sh Go.RowKit
set_option maxRecDepth 100000
set_option linter.unusedSimpArgs false
set_option linter.unusedVariables false
end Go.Proofs
end
section
namespace Go.Proofs.Tryz
open Go.Sh
set_option maxRecDepth 100000
end Go.Proofs.Tryz
end
section
namespace Go.Proofs
open Go.Sh
set_option maxRecDepth 100000
set_option linter.unusedSimpArgs false
set_option linter.unusedVariables false
end Go.Proofs
end
section
namespace Go.Proofs
open Go.Sh
set_option maxRecDepth 100000
set_option linter.unusedSimpArgs false
set_option linter.unusedVariables false
end Go.Proofs
end
section
namespace Go.Proofs
open Go.Sh
set_option linter.unusedVariables false
def stepG (ss : List StD) (s : TyD × Int) (k : Int) : Option (TyD × Int):=
 if k = -1∧s.1.k=3 then s.1.of.head?.map fun u=>(u,max s.2 1)
 else if k = -1∧s.1.k=4 then s.1.of.head?.map fun u=>(u,max s.2 (if s.1.m then 2 else 3))
 else if 0≤k∧s.1.k=5 then (ze ss s.1.st)[k.toNat]?.map fun u=>(u,s.2)
 else none
def goG (ss : List StD) : List Int→TyD × Int→Option (TyD × Int)
 |[],s=>some s
 |k::l,s=>(stepG ss s k).bind (goG ss l)
def zm (ss : List StD) (tys : List TyD) (p : PlD) : TyD × Int × Bool:=
 match (if p.l<0 then none else tys[p.l.toNat]?).bind fun t=>goG ss p.ps (t,0) with
 |some s=>(s.1,s.2,decide (p.ps.length≤8))
 |none=>(yc,0,false)
def jy : TyD:=⟨1,false,0,0,[]⟩
def Vl : TyD:=⟨2,false,0,0,[]⟩
def yR (p : PlD) : Bool:=decide (p.l=0)&&decide (p.ps.length=0)
def jr (o : OpD) : Bool:=(decide (o.k=0)&&decide (o.n=0))&&yR o.pl
def zr (ss : List StD) (tys : List TyD) (o : OpD) : TyD × Bool:=
 if o.k=1 then (jy,yR o.pl)
 else if o.k=2 then (Vl,yR o.pl&&(decide (o.n=0)||decide (o.n=1)))
 else if o.k=3 then ((zm ss tys o.pl).1,((zm ss tys o.pl).2.2&&decide (o.n=0))&&xK (zm ss tys o.pl).1)
 else if o.k=4 then ((zm ss tys o.pl).1,(((zm ss tys o.pl).2.2&&decide (o.n=0)) && !xK (zm ss tys o.pl).1)&&decide ((zm ss tys o.pl).2.1<2))
 else (yc,false)
structure aaw where
 to : Bool:=false
 a : Bool:=false
 b : Bool:=false
 args : Bool:=false
 sign : Bool:=false
 fr : Bool:=false
 mu : Bool:=false
 fn : Bool:=false
 st : Bool:=false
 el : Bool:=false
def x9 (p : PtD) (h : aaw) : List Bool:=
 [h.to||yR p.to,h.a||jr p.a,h.b||jr p.b,h.args||decide (p.args.length=0),h.sign||(p.sign.toList == []),h.fr||yR p.fr,h.mu || !p.mu,h.fn||decide (p.fn=0),h.st||decide (p.st=0),h.el||decide (p.el=0)]
def zB (p : PtD) (h : aaw) : Bool:=(x9 p h).all id
def yS (ss : List StD) (tys : List TyD) : List OpD→List TyD→Bool
 |[],[]=>true
 |o::l,t::r=>((zr ss tys o).2&&zO yg (zr ss tys o).1 t)&&yS ss tys l r
 |_,_=>false
def vR (g : GrD) (q : Int) : Bool:=decide (0≤q)&&decide (q<g.pts.length)
def isK (t : TyD) (k : Int) : Bool:=decide (t.k=k)
def yd (s : ByteArray) (l : List (List UInt8)) : Bool:=l.any fun x=>s.toList == x
noncomputable def ptG (u : UnD) (g : GrD) (p : PtD) : Bool:=
 let to:=zm u.ss g.tys p.to
 let fr:=zm u.ss g.tys p.fr
 let laid:=to.2.2&&decide (to.2.1<3)
 let a:=zr u.ss g.tys p.a
 let b:=zr u.ss g.tys p.b
 let ints:=isK a.1 1&&isK b.1 1
 if p.op=1 then ((zB p { to:=true,a:=true } && laid)&&a.2)&&zO yg a.1 to.1
 else if p.op=2 then
  (zB p { to:=true,a:=true,b:=true,sign:=true } && (laid&&(a.2&&b.2))) &&
   (if yd p.sign [[43],[45],[42],[47],[37]] then isK to.1 1&&ints
    else if yd p.sign [[60],[60,61],[62],[62,61]] then isK to.1 2&&ints
    else if yd p.sign [[61,61],[33,61]] then isK to.1 2&&(ints||(isK a.1 2&&isK b.1 2)) else false)
 else if p.op=3 then
  ((zB p { to:=true,a:=true,sign:=true } && laid)&&a.2) &&
   (if yd p.sign [[45]] then isK to.1 1&&isK a.1 1 else if yd p.sign [[33]] then isK to.1 2&&isK a.1 2 else false)
 else if p.op=4 then
  ((((zB p { to:=true,fr:=true,mu:=true } && laid)&&fr.2.2)&&isK to.1 4)&&decide (to.1.m=p.mu))&&(zO yg (to.1.of.headD yc) fr.1 && !(p.mu&&decide (fr.2.1=3)))
 else if p.op=5 then (((zB p { to:=true,a:=true } && laid)&&a.2)&&isK to.1 3)&&zO yg (to.1.of.headD yc) a.1
 else if p.op=6 then
  (((zB p { to:=true,args:=true,st:=true } && laid)&&isK to.1 5)&&decide (to.1.st=p.st))&&yS u.ss g.tys p.args (yl u.ss to.1).1
 else if p.op=7 then
  ((zB p { to:=true,args:=true,fn:=true } && laid)&&(decide (0≤p.fn)&&decide (p.fn<u.fs.length))) &&
   (match u.fs[p.fn.toNat]? with
    |some f=>zO yg to.1 (f.tys.headD yc)&&yS u.ss g.tys p.args ((f.tys.drop 1).take f.pn.toNat)
    |none=>false)
 else if p.op=8 then (zB p { to:=true } && laid)&&isK to.1 1
 else if p.op=9 then (zB p { a:=true } && a.2)&&isK a.1 1
 else if p.op=10 then ((zB p { fr:=true } && fr.2.2)&&(kL u.ss fr.1).1)&&decide (fr.2.1<2)
 else if p.op=11 then ((zB p { fr:=true } && fr.2.2)&&decide (0<p.fr.l))&&decide (p.fr.ps.length=0)
 else if p.op=12 then ((zB p { a:=true,el:=true } && a.2)&&isK a.1 2)&&vR g p.el
 else if p.op=13∨p.op=14 then zB p {}
 else false
noncomputable def zR (u : UnD) (g : GrD) (p : PtD) : Bool:=
 !((decide (p.tx<0)||(!decide (p.op=14) && !vR g p.nx))||(decide (p.op=14) && !decide (p.nx=0)))&&ptG u g p
def kD (x y : Int) : List Int→Bool
 |[]=>false
 |a::l=>(decide (a=y)&&l.contains x)||kD x y l
def js (tys : List TyD) (x y : Int) : Bool:=tys.any fun t=>kD x y (regsT t)
def qM (outs : List (Int × Int)) (x y : Int) : Bool:=outs.contains (x,y)
def kc (lv : Int) (o : Int × Int) : Bool:=!((decide (min o.1 o.2<0)||decide (lv≤max o.1 o.2))||decide (o.1=o.2))
def j2 (o w : Int × Int) : Bool:=decide (o.1<w.1)||(decide (o.1=w.1)&&decide (o.2<w.2))
def abk : List (Int × Int)→Bool
 |a::b::l=>j2 a b&&abk (b::l)
 |_=>true
def ag0 (n : Nat) (must says : Int→Int→Bool) : Bool:=
 (List.range n).all fun a : Nat=>(List.range n).all fun b : Nat=>
  ((List.range n).all fun c : Nat=>!((says a b&&says b c)&&(!decide (a=c) && !says a c))) && !(!decide (a=b)&&(must a b && !says a b))
def qN (g : GrD) : Bool:=
 (g.outs.all (kc g.lv)&&abk g.outs)&&ag0 g.lv.toNat (js (g.tys.take (g.pn.toNat+1))) (qM g.outs)
noncomputable def tyG (u : UnD) (g : GrD) (i : Nat) (t : TyD) : Bool:=
 mayB u.ss t&&(regsT t).all fun r=>!(decide (r<(if (i : Int)≤g.pn then 0 else -1))||decide (g.lv≤r))
noncomputable def qY (u : UnD) (g : GrD) : Nat→List TyD→Bool
 |_,[]=>true
 |i,t::l=>tyG u g i t&&qY u g (i+1) l
def yo (l : List PtD) : Nat:=l.countP fun p=>decide (p.op=4)
noncomputable def yT (u : UnD) (fn : Nat) (g : GrD) : Bool:=
 ((((((decide (0≤g.lv)&&decide (g.lv≤8))&&(decide (0≤g.pn)&&decide (g.pn≤8)))&&(decide (g.pn<g.tys.length)&&decide (g.tys.length≤512)))&&decide (g.nms.length=g.tys.length)) &&
  qY u g 0 g.tys)&&((decide (1≤g.pts.length)&&decide (g.pts.length≤1024))&&qN g)) &&
  (decide (yo g.pts≤256)&&(!decide ((fn : Int)=u.mn)||((decide (g.lv=0)&&decide (g.pn=0))&&isK (g.tys.headD yc) 1)))
noncomputable def jd (u : UnD) : Nat→List GrD→Option Nat
 |_,[]=>none
 |i,g::l=>if yT u i g then jd u (i+1) l else some i
noncomputable def Z9 (u : UnD) (g : GrD) : Nat→List PtD→Option Nat
 |_,[]=>none
 |q,p::l=>if zR u g p then Z9 u g (q+1) l else some q
noncomputable def YB (u : UnD) : Nat→List GrD→Option (Nat × Nat)
 |_,[]=>none
 |i,g::l=>match Z9 u g 0 g.pts with|some q=>some (i,q)|none=>YB u (i+1) l
noncomputable def je (u : UnD) : Int × Int × Int:=
 if !decide ((zw u.ss).2=0)||(decide (u.fs.length<1)||decide (32<u.fs.length))||(decide (u.mn<0)||decide ((u.fs.length : Int)≤u.mn)) then (-1,-1,100)
 else match jd u 0 u.fs with
  |some i=>(i,-1,100)
  |none=>match YB u 0 u.fs with
   |some (i,q)=>(i,q,100)
   |none=>(0,0,0)
noncomputable def vS (u : UnD) : Bool:=decide ((je u).2.2=0)
end Go.Proofs
end
section
namespace Go.Proofs
open Go.Sh
set_option linter.unusedVariables false
theorem acV : ∀ {n : Nat} {s s' : Int} {m : Nat} {t : TyD},zz s n t=true→n≤m→s≤s'→zz s' m t=true:=by
 intro n
 induction n with
 |zero=>intro s s' m t h;cases h
 |succ n ih=>
  intro s s' m t h hm hs
  obtain ⟨m,rfl⟩ : ∃ k,m=k+1:=⟨m - 1,by omega⟩
  have inn : inB s n t=true→inB s' m t=true:=by
   intro hi
   cases t with
   |mk k mm re st of=>
    cases of with
    |nil=>cases hi
    |cons u l=>exact ih (t:=u) hi (by omega) hs
  rw [xp] at h ⊢
  split
  ·rename_i h1;rw [if_pos h1] at h;exact h
  ·rename_i h1;rw [if_neg h1] at h
   split
   ·rename_i h2;rw [if_pos h2] at h
    simp only [Bool.and_eq_true,decide_eq_true_eq] at h ⊢
    exact ⟨h.1,by omega⟩
   ·rename_i h2;rw [if_neg h2] at h
    split
    ·rename_i h3;rw [if_pos h3] at h
     simp only [Bool.and_eq_true,decide_eq_true_eq] at h ⊢
     exact ⟨h.1,h.2.1,inn h.2.2⟩
    ·rename_i h3;rw [if_neg h3] at h
     split
     ·rename_i h4;rw [if_pos h4] at h
      simp only [Bool.and_eq_true,decide_eq_true_eq] at h ⊢
      exact ⟨h.1,h.2.1,inn h.2.2⟩
     ·rename_i h4;rw [if_neg h4] at h;cases h
def Fine (ss : List StD) (t : TyD) : Prop:=zz ss.length 48 t=true
theorem Fine.is {ss : List StD} {t : TyD} (h : Fine ss t) (hs : ss.length≤32) : isB t=true:=acV h (Nat.le_refl _) (by omega)
theorem Fine.cases {ss : List StD} {t : TyD} (h : Fine ss t) : (t.of = []∧(t.k=1∨t.k=2∨t.k=5))∨∃ u,t.of = [u]∧Fine ss u∧(t.k=3∨t.k=4):=by
 rcases ym h with h|⟨u,h1,h2,h3⟩
 ·exact .inl h
 ·exact .inr ⟨u,h1,acV h2 (by omega) (Int.le_refl _),h3⟩
theorem Fine.st {ss : List StD} {t : TyD} (h : Fine ss t) (hk : t.k=5) : 0≤t.st∧t.st<ss.length:=by
 have:=qI h hk
 exact ⟨this.1,this.2.1⟩
theorem ahW {ss : List StD} (hg : xG ss) {s : TyD × Int} {k : Int} {s' : TyD × Int} (h : Fine ss s.1) (e : stepG ss s k=some s') : Fine ss s'.1:=by
 have inside : ∀ {f : TyD→TyD × Int},(∀ u,(f u).1=u)→s.1.of.head?.map f=some s'→Fine ss s'.1:=by
  intro f hf e
  rcases h.cases with ⟨h1,_⟩|⟨u,h1,h2,_⟩
  ·rw [h1] at e;cases e
  ·rw [h1] at e
   obtain rfl:=Option.some.inj e
   rw [hf];exact h2
 unfold stepG at e
 split at e
 ·exact inside (fun _=>rfl) e
 split at e
 ·exact inside (fun _=>rfl) e
 split at e
 ·rename_i h3
  cases hu : (ze ss s.1.st)[k.toNat]? with
  |none=>rw [hu] at e;cases e
  |some u=>
   rw [hu] at e
   obtain rfl:=Option.some.inj e
   exact hg _ u (List.mem_of_getElem? hu)
 ·cases e
theorem acl {ss : List StD} (hg : xG ss) : ∀ {l : List Int} {s s' : TyD × Int},Fine ss s.1→goG ss l s=some s'→Fine ss s'.1
 |[],s,s',h,e=>by obtain rfl:=Option.some.inj e;exact h
 |k::l,s,s',h,e=>by
  rw [goG] at e
  cases hs : stepG ss s k with
  |none=>rw [hs] at e;cases e
  |some s2=>rw [hs] at e;exact acl hg (ahW hg h hs) e
structure xq (ss : List StD) (tys : List TyD) : Prop where
 few : ss.length≤32
 good : xG ss
 acy : ∀ k,¬ Rch ss k k
 all : ∀ t ∈ tys,Fine ss t
theorem qu {ss : List StD} {tys : List TyD} (h : xq ss tys) {p : PlD} (ho : (zm ss tys p).2.2=true) : Fine ss (zm ss tys p).1:=by
 unfold zm at ho ⊢
 cases hb : (if p.l<0 then none else tys[p.l.toNat]?).bind fun t=>goG ss p.ps (t,0) with
 |none=>rw [hb] at ho;cases ho
 |some s=>
  show Fine ss s.1
  split at hb
  ·cases hb
  ·cases ht : tys[p.l.toNat]? with
   |none=>rw [ht] at hb;cases hb
   |some t=>
    rw [ht] at hb
    exact acl h.good (h.all t (List.mem_of_getElem? ht)) hb
end Go.Proofs
end
section
namespace Go.Proofs
open Go.Sh
set_option linter.unusedVariables false
noncomputable def isU (u : UnD) (fn q : Int) : Bool:=(decide (0≤fn)&&decide (fn<u.fs.length))&&(vS u&&decide (q<((u.fs[fn.toNat]?.map fun g=>(g.pts.length : Int)).getD 0)))
end Go.Proofs
end
section
namespace Go.Proofs
open Go.Sh
set_option linter.unusedVariables false
end Go.Proofs
end
section
namespace Go.Proofs
open Go.Sh
set_option maxRecDepth 100000
set_option linter.unusedSimpArgs false
set_option linter.unusedVariables false
instance {P : Program} {t e ty : TypeId} {a b : Int} : PStep P (Builtin.max_ #[t,e] ty #[.int .i64 a,.int .i64 b]) (.int .i64 (max a b)):=⟨fun w=>Lib.run_max_ints w _ _ _ _ _ _⟩
instance (priority:=low) {P : Program} {t : TypeId} {c : Bool} {x : ByteArray} {m : List UInt8} : PStep P (zM .eql t c (.string x) (.string (bs m))) (.bool (x.toList == m)):=.of fun _ k=>
 yi (fun w=>by rw [aiL trivial,binOp_string_eql,acQ m];rfl) k
theorem akS {P : Program} {w : World} {s : Sem Value} {K : Value→World→Prop} (h : opQ P w s fun v=>K v w) : opW P w s K:=w_q (by
 obtain ⟨v,h1,h2⟩:=h
 exact ⟨v,h1,h2⟩)
theorem SlB.lt {α : Type} {sz : Nat} {r : Gh} {R : List Value→α→Prop} {v : Value} {l : List α} (h : SlB sz r R v l) : l.length≤9223372036854775807:=h.few
theorem XD {a : Nat} : decide ((a : Int)=0)=decide (a=0):=decide_eq_decide.2 (by omega)
theorem qv {p : PlD} {c : List Value} {w : World} {r : Gh} {K : Value→World→Prop} (hr : Holds r w) (hp : PlG r c p) (h : ∀ w',Ext w w'→K (.bool (yR p)) w') :
  zd Tryz.prog Tryz.xu #[.agg c.toArray] w K:=by
 obtain ⟨v,rfl,hl⟩:=hp
 obtain ⟨q,cap,rfl,_,_⟩:=hl.sl.shape
 refine Tryz.adp ?_
 unfold Tryz.Je
 have S:=St.start hr
 refine S.box fun b1 w1 S=>?_
 refine gG_ ?_
 refine zf (c:=decide (p.ps.length=0)) (fun _ K2 hK2=>?_) ?_
 ·refine gG_ ?_
  rw [XD]
  exact hK2
 exact h _ S.ext
def AskG (r : Gh) (v : Value) (u : UnD) (g : GrD) : Prop:=∃ p cap vf vo vt vn vp,v = .agg #[.slice p u.ss.length cap,vf,.int .i64 u.mn,.string g.name,.int .i64 g.lv,vo,.int .i64 g.pn,vt,vn,vp]∧
 UnG r (.agg #[.slice p u.ss.length cap,vf,.int .i64 u.mn]) u∧GrG r [.string g.name,.int .i64 g.lv,vo,.int .i64 g.pn,vt,vn,vp] g
theorem AskG.up {r s : Gh} {v : Value} {u : UnD} {g : GrD} (h : AskG r v u g) [l : Le r s] : AskG s v u g:=by
 obtain ⟨p,cap,vf,vo,vt,vn,vp,h0,h1,h2⟩:=h
 exact ⟨p,cap,vf,vo,vt,vn,vp,h0,h1.up,h2.up⟩
abbrev tyL (t : TyD) (q : Option Addr) (cap : Nat) : List Value:=[.int .u8 t.k,.bool t.m,.int .i64 t.re,.int .i64 t.st,.slice q t.of.length cap]
abbrev tyV (t : TyD) (q : Option Addr) (cap : Nat) : Value:=.agg #[.int .u8 t.k,.bool t.m,.int .i64 t.re,.int .i64 t.st,.slice q t.of.length cap]
abbrev spL (t : TyD) (q : Option Addr) (cap : Nat) (m : Int) (ok : Bool) : List Value:=[.int .u8 t.k,.bool t.m,.int .i64 t.re,.int .i64 t.st,.slice q t.of.length cap,.int .i64 m,.bool ok]
abbrev spV (t : TyD) (q : Option Addr) (cap : Nat) (m : Int) (ok : Bool) : Value:=.agg #[.int .u8 t.k,.bool t.m,.int .i64 t.re,.int .i64 t.st,.slice q t.of.length cap,.int .i64 m,.bool ok]
theorem yU {r : Gh} {c : List Value} {t : TyD} (h : TyG r (.agg c.toArray) t) : ∃ q cap,c=tyL t q cap∧TyG r (tyV t q cap) t:=by
 obtain ⟨p,cap,h1,_⟩:=Yx h
 subst h1
 exact ⟨p,cap,rfl,h⟩
theorem Zg {r : Gh} {s uu : TyD} {q : Option Addr} {cap : Nat} (h : TyG r (tyV s q cap) s) (hof : s.of = [uu]) : ∃ b off q2 cap2,q=some ⟨b,off,none⟩∧TyG r (tyV uu q2 cap2) uu∧∀ j v,(tyL uu q2 cap2)[j]? = some v→Ob r fun w=>w.cell? ⟨b,off+j,none⟩=some v:=by
 obtain ⟨_,_,hE,_,_,hreps⟩:=h
 cases hE
 obtain ⟨b,off,rfl,c,h1,h2,h3⟩:=NdG.of hreps (i:=0) (by rw [hof];exact Nat.one_pos)
 have h3 : TyG r (.agg c.toArray) uu:=by simpa [hof] using h3
 obtain ⟨q2,cap2,rfl,ht⟩:=yU h3
 exact ⟨b,off,q2,cap2,rfl,ht,by simpa using h2⟩
theorem abl (ss : List StD) : ∀ (l : List Int) (k : Int) (s : TyD × Int),goG ss (l ++ [k]) s=(goG ss l s).bind fun s'=>stepG ss s' k
 |[],k,s=>by
  show (stepG ss s k).bind (goG ss [])=stepG ss s k
  cases stepG ss s k<;>rfl
 |x::l,k,s=>by
  rw [List.cons_append,goG,goG]
  cases h : stepG ss s x with
  |none=>rfl
  |some s'=>exact abl ss l k s'
theorem aeM {ss : List StD} : ∀ {l m : List Int} {s : TyD × Int},goG ss l s=none→goG ss (l++m) s=none
 |[],m,s,h=>by cases h
 |x::l,m,s,h=>by
  rw [List.cons_append,goG]
  rw [goG] at h
  cases hs : stepG ss s x with
  |none=>rfl
  |some s'=>rw [hs] at h;exact aeM (l:=l) (m:=m) h
theorem ahX {ss : List StD} {tys : List TyD} {p : PlD} {t : TyD} {i : Nat} (h0 : 0≤p.l) (ht : tys[p.l.toNat]? = some t) (h : goG ss (p.ps.take i) (t,0)=none) : zm ss tys p=(yc,0,false):=by
 have:=aeM (m:=p.ps.drop i) h
 rw [List.take_append_drop] at this
 unfold zm
 rw [if_neg (by omega),ht]
 show (match goG ss p.ps (t,0) with|some s=>(s.1,s.2,decide (p.ps.length≤8))|none=>(yc,0,false))=_
 rw [this]
theorem ahY {ss : List StD} {tys : List TyD} {p : PlD} {t : TyD} {s : TyD × Int} (h0 : 0≤p.l) (ht : tys[p.l.toNat]? = some t) (h : goG ss p.ps (t,0)=some s) : zm ss tys p=(s.1,s.2,decide (p.ps.length≤8)):=by
 unfold zm
 rw [if_neg (by omega),ht]
 show (match goG ss p.ps (t,0) with|some s=>(s.1,s.2,decide (p.ps.length≤8))|none=>(yc,0,false))=_
 rw [h]
theorem aiS {ss : List StD} {tys : List TyD} {p : PlD} (h : p.l<0∨(tys.length : Int)≤p.l) : zm ss tys p=(yc,0,false):=by
 unfold zm
 by_cases h0 : p.l<0
 ·rw [if_pos h0];rfl
 ·rw [if_neg h0,List.getElem?_eq_none (by omega)];rfl
set_option maxHeartbeats 1000000 in
theorem xc {u : UnD} {g : GrD} {p : PlD} {c : List Value} {v : Value} {w : World} {r : Gh} {K : Value→World→Prop} {t : TyD} {m : Int} {ok : Bool} (hr : Holds r w) (hx : AskG r v u g) (hf : xq u.ss g.tys) (hp : PlG r c p) (hsp : zm u.ss g.tys p=(t,m,ok))
  (h : ∀ q cap w',Ext w w'→TyG r (tyV t q cap) t→K (spV t q cap m ok) w') : zd Tryz.prog Tryz.zu #[v,.agg c.toArray] w K:=by
 obtain ⟨p0,cap0,vf,vo,vt,vn,vp,rfl,hu,hg⟩:=hx
 obtain ⟨_,_,_,_,hE,_,htys,_,_⟩:=hg
 cases hE
 obtain ⟨_,_,_,hE,_,_,hst,_,_⟩:=hu
 cases hE
 obtain ⟨qt,capt,rfl,_,_⟩:=htys.sl.shape
 obtain ⟨v,rfl,hl⟩:=hp
 obtain ⟨qs,caps,rfl,_,_⟩:=hl.sl.shape
 have hbl:=hl.lt
 refine Tryz.QX ?_
 unfold Tryz.Zq
 have S:=St.start hr
 refine S.box fun b2 w1 S=>?_
 refine S.box fun b3 w2 S=>?_
 refine S.al fun b4 w3 S=>?_
 refine gG_ ?_
 refine zj (c:=decide ((g.tys.length : Int)≤p.l)) (fun _ K2 hK2=>?_) ?_
 ·refine gG_ ?_
  exact hK2
 refine c_b (fun ho=>?_) (fun hi=>?_)
 ·have hz:=aiS (ss:=u.ss) (tys:=g.tys) (p:=p) (by simpa using ho)
  rw [hz] at hsp;cases hsp
  refine zy (cs:=#[.int .u8 0,.bool false,.int .i64 0,.int .i64 0,.slice none 0 0,.int .i64 0,.bool false]) (by kernel_rfl) ?_
  refine S.stB (b:=b4) fun w5 S=>?_
  refine gG_ ?_
  exact h none 0 _ S.ext xe
 have hlo : 0≤p.l∧p.l<g.tys.length:=by
  simp only [Bool.or_eq_false_iff,decide_eq_false_iff_not] at hi;omega
 clear hi
 have hlt0 : p.l.toNat<g.tys.length:=by omega
 obtain ⟨bt,ot,ct,rfl,hct,htc,hcell⟩:=htys.sl.get (by decide) hlt0
 obtain ⟨t0,hti⟩ : ∃ t0,g.tys[p.l.toNat]=t0:=⟨_,rfl⟩
 rw [hti] at htc
 have hq : g.tys[p.l.toNat]? = some t0:=by rw [List.getElem?_eq_getElem hlt0,hti]
 have hfi : Fine u.ss t0:=hf.all _ (List.mem_of_getElem? hq)
 obtain ⟨q0,cap1,rfl,ht0⟩:=yU htc
 have S:=S.go (Ext.drew _)
 refine gG_ ?_
 refine zq (n:=5) hct (fun j v hj=>S.at (hcell j v hj)) ?_
 refine gG_ ?_
 refine S.alU fun b5 w10 S=>?_
 refine S.stB (b:=b5) fun w11 S=>?_
 refine gG_ ?_
 have hok : decide (p.ps.length≤8)=decide ((p.ps.length : Int)≤8):=decide_eq_decide.2 (by omega)
 refine zi (ι:=Nat × TyD × Int × Option Addr × Nat) (fun i=>[.int .i64 (i.1 : Nat)]) (fun i w'=>i.1≤p.ps.length∧goG u.ss (p.ps.take i.1) (t0,0)=some (i.2.1,i.2.2.1)∧TyG r (tyV i.2.1 i.2.2.2.1 i.2.2.2.2) i.2.1∧
  StX noX w r w' [.cell b5 (spL i.2.1 i.2.2.2.1 i.2.2.2.2 i.2.2.1 (decide ((p.ps.length : Int)≤8))) 189,.cell b4 [.int .u8 0,.bool false,.int .i64 0,.int .i64 0,.slice none 0 0,.int .i64 0,.bool false] 189,.cell b3 [.int .i64 p.l,.slice qs p.ps.length caps] 58,
   .cell b2 [.slice p0 u.ss.length cap0,vf,.int .i64 u.mn,.string g.name,.int .i64 g.lv,vo,.int .i64 g.pn,.slice (some ⟨bt,ot,none⟩) g.tys.length capt,vn,vp] 147]) (fun i=>p.ps.length - i.1) (0,t0,0,q0,cap1) rfl ⟨Nat.zero_le _,rfl,ht0,S⟩ ?_
 clear S
 rintro ⟨i,s,m',q,cap⟩ d w15 ⟨hi,hgo,hs,S⟩ K6 hK6
 simp only at hi hgo hs S ⊢
 rw [List.getD_cons_zero]
 refine gG_ ?_
 refine c_b (fun hlt=>?_) (fun hge=>?_)
 rotate_left
 ·have hie : i=p.ps.length:=by
   have:=of_decide_eq_false hge;omega
  rw [hie,List.take_length] at hgo
  rw [ahY hlo.1 hq hgo,hok] at hsp
  cases hsp
  refine gG_ ?_
  refine S.stB (b:=b4) fun w16 S=>?_
  refine gG_ ?_
  exact h _ _ _ S.ext hs
 have hlt : i<p.ps.length:=by simpa using hlt
 have hsf : Fine u.ss s:=acl hf.good hfi hgo
 obtain ⟨k,hke⟩ : ∃ k,p.ps[i]=k:=⟨_,rfl⟩
 obtain ⟨bs,os,cs,rfl,hcs,hck,hcl⟩:=hl.sl.get (by decide) hlt
 rw [hke] at hck
 obtain ⟨rfl,hin⟩:=hck
 have hstep : goG u.ss (p.ps.take (i+1)) (t0,0)=stepG u.ss (s,m') k:=by
  rw [List.take_succ_eq_append_getElem hlt,abl,hgo,hke];rfl
 refine zp (fun _ w'=>∃ s' m2 q' cap',stepG u.ss (s,m') k=some (s',m2)∧TyG r (tyV s' q' cap') s'∧
  StX noX w r w' [.cell b5 (spL s' q' cap' m2 (decide ((p.ps.length : Int)≤8))) 189,.cell b4 [.int .u8 0,.bool false,.int .i64 0,.int .i64 0,.slice none 0 0,.int .i64 0,.bool false] 189,.cell b3 [.int .i64 p.l,.slice (some ⟨bs,os,none⟩) p.ps.length caps] 58,
   .cell b2 [.slice p0 u.ss.length cap0,vf,.int .i64 u.mn,.string g.name,.int .i64 g.lv,vo,.int .i64 g.pn,.slice (some ⟨bt,ot,none⟩) g.tys.length capt,vn,vp] 147]) (fun K16 hK16=>?_) ?_
 rotate_left
 ·rintro _ w19 ⟨s',m2,q',cap',h1,h2,S⟩ d2
  refine gG_ ?_
  rw [show ((i : Int)+1)=((i+1 : Nat) : Int) by omega]
  exact hK6 (i+1,s',m2,q',cap') _ ⟨hlt,hstep.trans h1,h2,S⟩ (by show p.ps.length - (i+1)<p.ps.length - i;omega)
 refine gG_ ?_
 refine zg (v:=.int .i64 k) (by simpa using S.at (hcl 0 _ rfl)) ?_
 refine gP_ ?_
 refine S.ldN (b:=b5) ?_
 refine S.al fun b8 w20 S=>?_
 refine S.stB (b:=b8) fun w21 S=>?_
 refine gG_ ?_
 refine zf (c:=decide (s.k=3)) (fun _ K2 hK2=>?_) ?_
 ·refine gG_ ?_
  exact hK2
 have down : (s.k=3∨s.k=4)→∃ uu,s.of = [uu]:=by
  intro hk
  rcases hsf.cases with ⟨_,h1⟩|⟨uu,h1,_⟩
  ·omega
  ·exact ⟨uu,h1⟩
 refine c_b (fun hB=>?_) (fun hB=>?_)
 ·obtain ⟨hk1,hk3⟩ : k = -1∧s.k=3:=by simpa using hB
  obtain ⟨uu,hof⟩:=down (.inl hk3)
  obtain ⟨bo,oo,q2,cap2,rfl,ht2,hcc⟩:=Zg hs hof
  have hl1 : s.of.length=1:=by rw [hof];rfl
  refine gG_ ?_
  refine S.st (b:=b5) fun w26 S=>?_
  refine gG_ ?_
  refine zq (n:=5) (c:=tyL uu q2 cap2) rfl (fun j v hj=>by simpa using S.at (hcc j v hj)) ?_
  refine gG_ ?_
  refine S.stN (b:=b5) fun w27 S=>?_
  refine hK16 [] _ ⟨uu,max m' 1,q2,cap2,?_,ht2,S.drop b8⟩
  rw [stepG,if_pos ⟨hk1,hk3⟩,hof];rfl
 have hB : ¬ (k = -1∧s.k=3):=by simpa using hB
 refine gG_ ?_
 refine zf (c:=decide (s.k=4)) (fun _ K2 hK2=>?_) ?_
 ·refine gG_ ?_
  exact hK2
 refine c_b (fun hR=>?_) (fun hR=>?_)
 ·obtain ⟨hk1,hk3⟩ : k = -1∧s.k=4:=by simpa using hR
  obtain ⟨uu,hof⟩:=down (.inr hk3)
  obtain ⟨bo,oo,q2,cap2,rfl,ht2,hcc⟩:=Zg hs hof
  have hl1 : s.of.length=1:=by rw [hof];rfl
  refine zp (fun s' w'=>s' = [.int .i64 (if s.m then 2 else 3)]∧w'=w21) (fun K7 hK7=>?_) ?_
  ·refine gG_ ?_
   refine c_b (fun hm=>hK7 _ _ ⟨by rw [hm];rfl,rfl⟩) (fun hm=>hK7 _ _ ⟨by rw [hm];rfl,rfl⟩)
  rintro _ _ ⟨rfl,rfl⟩ d3
  refine gG_ ?_
  refine S.st (b:=b5) fun w26 S=>?_
  refine gG_ ?_
  refine zq (n:=5) (c:=tyL uu q2 cap2) rfl (fun j v hj=>by simpa using S.at (hcc j v hj)) ?_
  refine gG_ ?_
  refine S.stN (b:=b5) fun w27 S=>?_
  refine hK16 [] _ ⟨uu,max m' (if s.m then 2 else 3),q2,cap2,?_,ht2,S.drop b8⟩
  rw [stepG,if_neg (by omega),if_pos ⟨hk1,hk3⟩,hof];rfl
 have hR : ¬ (k = -1∧s.k=4):=by simpa using hR
 refine gG_ ?_
 refine zf (c:=decide (s.k=5)) (fun _ K2 hK2=>?_) ?_
 ·refine gG_ ?_
  exact hK2
 refine zf (c:=decide (k<(ze u.ss s.st).length)) (fun h5 K2 hK2=>?_) ?_
 ·obtain ⟨hk0,hk5⟩ : 0≤k∧s.k=5:=by simpa using h5
  obtain ⟨hst0,hst1⟩:=hsf.st hk5
  have hslt : s.st.toNat<u.ss.length:=by omega
  obtain ⟨b,off,q9,capq,rfl,hcell9,_,_,hfl⟩:=xE hst hslt
  have hlen : (ze u.ss s.st).length=u.ss[s.st.toNat].fs.length:=by
   rw [← Zs hslt];simp only [ze,Int.toNat_natCast]
  refine gG_ ?_
  refine zg (S.at hcell9) ?_
  refine gG_ ?_
  rw [← hlen]
  exact hK2
 refine c_b (fun hS=>?_) (fun hS=>?_)
 ·obtain ⟨⟨hk0,hk5⟩,hkl⟩ : (0≤k∧s.k=5)∧k<(ze u.ss s.st).length:=by simpa using hS
  obtain ⟨hst0,hst1⟩:=hsf.st hk5
  have hslt : s.st.toNat<u.ss.length:=by omega
  obtain ⟨b,off,q9,capq,rfl,hcell9,_,_,hfl⟩:=xE hst hslt
  have htl : ze u.ss s.st=u.ss[s.st.toNat].fs.map (·.2):=by
   rw [← yz hslt];simp only [ze,Int.toNat_natCast]
  have hkf : k.toNat<u.ss[s.st.toNat].fs.length:=by
   rw [htl,List.length_map] at hkl;omega
  obtain ⟨b9,off9,c9,rfl,hc9,hcell8,ht9⟩:=qd hfl hkf
  obtain ⟨q2,cap2,rfl,ht2⟩:=yU ht9
  refine gG_ ?_
  refine zg (S.at hcell9) ?_
  refine gG_ ?_
  refine zq (n:=5) (c:=tyL _ q2 cap2) rfl (fun j v hj=>by have:=S.at (hcell8 (j+1) v hj);rwa [show off9+k.toNat*6+(j+1)=off9+k.toNat*6+1+j by omega] at this) ?_
  refine gG_ ?_
  refine S.stN (b:=b5) fun w27 S=>?_
  refine hK16 [] _ ⟨_,m',q2,cap2,?_,ht2,S.drop b8⟩
  rw [stepG,if_neg (by omega),if_neg (by omega),if_pos ⟨hk0,hk5⟩,htl,List.getElem?_map,List.getElem?_eq_getElem hkf];rfl
 have hz : zm u.ss g.tys p=(yc,0,false):=by
  refine ahX hlo.1 hq (i:=i+1) (hstep.trans ?_)
  rw [stepG,if_neg hB,if_neg hR]
  split
  ·rename_i h5
   rw [List.getElem?_eq_none];· rfl
   have : ¬ k<(ze u.ss s.st).length:=by
    intro hh
    have : ((decide (0≤k)&&decide (s.k=5))&&decide (k<((ze u.ss s.st).length : Int)))=true:=by simp [h5,hh]
    rw [this] at hS;cases hS
   have h50 : 0≤k:=h5.1
   show (ze u.ss s.st).length≤k.toNat
   omega
  ·rfl
 rw [hz] at hsp;cases hsp
 refine gG_ ?_
 refine S.stB (b:=b4) fun w16 S=>?_
 refine gG_ ?_
 exact h none 0 _ S.ext xe
end Go.Proofs
end
section
namespace Go.Proofs
open Go.Sh
set_option maxRecDepth 100000
set_option linter.unusedSimpArgs false
set_option linter.unusedVariables false
theorem YC {r : Gh} {k : Int} {m : Bool} {re st : Int} : TyG r (tyV (.mk k m re st []) none 0) (.mk k m re st []):=xe
set_option maxHeartbeats 1000000 in
theorem kj {u : UnD} {g : GrD} {o : OpD} {c : List Value} {v : Value} {w : World} {r : Gh} {K : Value→World→Prop} {t : TyD} {ok : Bool} (hr : Holds r w) (hx : AskG r v u g) (hf : xq u.ss g.tys) (ho : OpG r c o) (hop : zr u.ss g.tys o=(t,ok))
  (h : ∀ q cap w',Ext w w'→TyG r (tyV t q cap) t→K (.tuple #[tyV t q cap,.bool ok]) w') : zd Tryz.prog Tryz.yJ #[v,.agg c.toArray] w K:=by
 obtain ⟨p0,cap0,vf,vo,vt,vn,vp,rfl,hu,hg⟩:=id hx
 obtain ⟨vq,rfl,hl⟩:=ho
 obtain ⟨qs,caps,rfl,_,_⟩:=hl.sl.shape
 have hpl : PlG r [.int .i64 o.pl.l,.slice qs o.pl.ps.length caps] o.pl:=⟨_,rfl,hl⟩
 refine Tryz.Xx ?_
 unfold Tryz.jH
 have S:=St.start hr
 refine S.box fun b2 w1 S=>?_
 refine S.box fun b3 w2 S=>?_
 refine S.al fun b4 w3 S=>?_
 refine gG_ ?_
 unfold zr at hop
 refine zk (fun h1=>?_) (fun h1=>?_)
 ·rw [if_pos h1] at hop;cases hop
  refine gG_ ?_
  refine S.ldN (b:=b3) ?_
  refine qv S.holds hpl fun w4 e4=>?_
  have S:=S.go e4
  refine S.stB (b:=b4) fun w5 S=>?_
  refine gG_ ?_
  exact h none 0 _ S.ext YC
 rw [if_neg h1] at hop
 refine gG_ ?_
 refine zk (fun h2=>?_) (fun h2=>?_)
 ·rw [if_pos h2] at hop;cases hop
  have S:=S.go (Ext.drew _)
  refine gG_ ?_
  refine S.ldN (b:=b3) ?_
  refine qv S.holds hpl fun w44 e4=>?_
  have S:=S.go e4
  have fin : ∀ {w9 : World},StX noX w r w9 [.cell b4 (tyL Vl none 0) 93,.cell b3 [.int .u8 o.k,.int .i64 o.n,.int .i64 o.pl.l,.slice qs o.pl.ps.length caps] 61,.cell b2 (Value.agg #[.slice p0 u.ss.length cap0,vf,.int .i64 u.mn,.string g.name,.int .i64 g.lv,vo,.int .i64 g.pn,vt,vn,vp]).cells.toList 147]→∀ x,x=(yR o.pl&&(decide (o.n=0)||decide (o.n=1)))→
    K (.tuple #[tyV Vl none 0,.bool x]) w9:=by
   intro w9 S x hx
   subst hx
   exact h none 0 _ S.ext YC
  have st : ∀ {w8 : World} {K : World→Prop},StX noX w r w8 [.cell b4 [.int .u8 0,.bool false,.int .i64 0,.int .i64 0,.slice none 0 0] 93,.cell b3 [.int .u8 o.k,.int .i64 o.n,.int .i64 o.pl.l,.slice qs o.pl.ps.length caps] 61,.cell b2 (Value.agg #[.slice p0 u.ss.length cap0,vf,.int .i64 u.mn,.string g.name,.int .i64 g.lv,vo,.int .i64 g.pn,vt,vn,vp]).cells.toList 147]→
    (∀ w9,StX noX w r w9 [.cell b4 (tyL Vl none 0) 93,.cell b3 [.int .u8 o.k,.int .i64 o.n,.int .i64 o.pl.l,.slice qs o.pl.ps.length caps] 61,.cell b2 (Value.agg #[.slice p0 u.ss.length cap0,vf,.int .i64 u.mn,.string g.name,.int .i64 g.lv,vo,.int .i64 g.pn,vt,vn,vp]).cells.toList 147]→K w9)→
    opU Tryz.prog w8 (Instr.storeAt 93 (.pointer (some ⟨b4,0,none⟩)) (.agg #[.int .u8 2,.bool false,.int .i64 0,.int .i64 0,.slice none 0 0])) K:=by
   intro w8 K S hK
   exact S.stB (b:=b4) fun w9 S=>hK w9 S
  cases hz : yR o.pl with
  |false=>
   (intro K9 hK9;refine gD_ ?_;refine hK9 _ _ fun _=>?_;clear hK9 K9)
   (intro K9 hK9;refine gD_ ?_;refine hK9 _ _ fun _=>?_;clear hK9 K9)
   refine ⟨?_,?_⟩
   ·(intro K9 hK9;refine gD_ ?_;refine hK9 _ _ fun _=>?_;clear hK9 K9)
    (intro K9 hK9;refine gD_ ?_;refine hK9 _ _ fun _=>?_;clear hK9 K9)
    refine gD_ ?_
    refine st S fun w9 S=>?_
    refine gG_ ?_
    exact fin S _ (by rw [hz]<;>rfl)
   ·refine st S fun w9 S=>?_
    (intro K9 hK9;refine gD_ ?_;refine hK9 _ _ fun _=>?_;clear hK9 K9)
    (intro K9 hK9;refine gD_ ?_;refine hK9 _ _ fun _=>?_;clear hK9 K9)
    refine gD_ ?_
    exact fin S _ (by rw [hz]<;>rfl)
  |true=>
   by_cases hn0 : o.n=0
   ·refine zp (fun s w'=>s = [.bool true]∧w'=w44) (fun K9 hK9=>?_) ?_
    ·refine gD_ ?_
     rw [decide_eq_true hn0]
     exact hK9 _ _ ⟨rfl,rfl⟩
    rintro _ w44 ⟨rfl,rfl⟩ d1
    (intro K9 hK9;refine gD_ ?_;refine hK9 _ _ fun _=>?_;clear hK9 K9)
    refine ⟨?_,?_⟩
    ·(intro K9 hK9;refine gD_ ?_;refine hK9 _ _ fun _=>?_;clear hK9 K9)
     (intro K9 hK9;refine gD_ ?_;refine hK9 _ _ fun _=>?_;clear hK9 K9)
     refine gD_ ?_
     refine st S fun w9 S=>?_
     refine gG_ ?_
     exact fin S _ (by rw [hz,hn0]<;>rfl)
    ·refine st S fun w9 S=>?_
     (intro K9 hK9;refine gD_ ?_;refine hK9 _ _ fun _=>?_;clear hK9 K9)
     (intro K9 hK9;refine gD_ ?_;refine hK9 _ _ fun _=>?_;clear hK9 K9)
     refine gD_ ?_
     exact fin S _ (by rw [hz,hn0]<;>rfl)
   ·refine zp (fun s w'=>s = [.bool false]∧w'=w44) (fun K9 hK9=>?_) ?_
    ·refine gD_ ?_
     rw [decide_eq_false hn0]
     exact hK9 _ _ ⟨rfl,rfl⟩
    rintro _ w44 ⟨rfl,rfl⟩ d1
    (intro K9 hK9;refine gD_ ?_;refine hK9 _ _ fun _=>?_;clear hK9 K9)
    refine ⟨?_,?_⟩
    ·refine zp (fun s w'=>s = [.bool (decide (o.n=1))]∧w'=w44) (fun K9 hK9=>?_) ?_
     ·refine gD_ ?_
      refine akS ?_
      refine gD_ ?_
      exact hK9 _ _ ⟨rfl,rfl⟩
     rintro _ w44 ⟨rfl,rfl⟩ d1
     (intro K9 hK9;refine gD_ ?_;refine hK9 _ _ fun _=>?_;clear hK9 K9)
     refine gD_ ?_
     refine st S fun w9 S=>?_
     refine gG_ ?_
     exact fin S _ (by rw [hz,decide_eq_false hn0];first|rfl|simp)
    ·refine st S fun w9 S=>?_
     refine zp (fun s w'=>s = [.bool (decide (o.n=1))]∧w'=w9) (fun K9 hK9=>?_) ?_
     ·refine gD_ ?_
      refine akS ?_
      refine gD_ ?_
      exact hK9 _ _ ⟨rfl,rfl⟩
     rintro _ w44 ⟨rfl,rfl⟩ d1
     (intro K9 hK9;refine gD_ ?_;refine hK9 _ _ fun _=>?_;clear hK9 K9)
     refine gD_ ?_
     exact fin S _ (by rw [hz,decide_eq_false hn0];first|rfl|simp)
 rw [if_neg h2] at hop
 obtain ⟨sty,sm,sok,hsp⟩ : ∃ sty sm sok,zm u.ss g.tys o.pl=(sty,sm,sok):=⟨_,_,_,rfl⟩
 simp only [hsp] at hop
 refine gG_ ?_
 refine S.ldN (b:=b3) ?_
 refine xc S.holds hx hf hpl hsp fun q cap w5 e5 ht=>?_
 have S:=S.go e5
 refine S.al fun b6 w6 S=>?_
 refine S.stB (b:=b6) fun w7 S=>?_
 refine gG_ ?_
 refine zf (c:=decide (o.n=0)) (fun _ K2 hK2=>?_) ?_
 ·refine gG_ ?_
  exact hK2
 refine gG_ ?_
 refine zk (fun h3=>?_) (fun h3=>?_)
 ·rw [if_pos h3] at hop;cases hop
  have S:=S.go (Ext.drew _)
  refine gP_ ?_
  refine S.ldN (b:=b6) ?_
  refine zs (c:=xK t) (fun _ K2 hK2=>?_) fun w9 e9=>?_
  ·refine gP_ ?_
   refine S.ldN (b:=b6) ?_
   exact XW S.holds ht fun w9 e9=>⟨e9,hK2 _ e9⟩
  have S:=S.go e9
  refine S.stB (b:=b4) fun w10 S=>?_
  refine gG_ ?_
  exact h _ _ _ S.ext ht
 rw [if_neg h3] at hop
 refine gG_ ?_
 refine zk (fun h4=>?_) (fun h4=>?_)
 ·rw [if_pos h4] at hop;cases hop
  have S:=S.go (Ext.drew _)
  refine gP_ ?_
  refine S.ldN (b:=b6) ?_
  refine zs (c:=!xK t) (fun _ K2 hK2=>?_) fun w9 e9=>?_
  ·refine gP_ ?_
   refine S.ldN (b:=b6) ?_
   refine XW S.holds ht fun w9 e9=>⟨e9,?_⟩
   refine gP_ ?_
   exact hK2 _ e9
  have S:=S.go e9
  cases hb : ((sok&&decide (o.n=0)) && !xK t) with
  |false=>
   (intro K9 hK9;refine gD_ ?_;refine hK9 _ _ fun _=>?_;clear hK9 K9)
   refine ⟨?_,?_⟩
   ·(intro K9 hK9;refine gD_ ?_;refine hK9 _ _ fun _=>?_;clear hK9 K9)
    refine gD_ ?_
    refine S.stB (b:=b4) fun w10 S=>?_
    refine gG_ ?_
    have:=h _ _ _ S.ext ht
    rwa [hb] at this
   ·refine S.stB (b:=b4) fun w10 S=>?_
    (intro K9 hK9;refine gD_ ?_;refine hK9 _ _ fun _=>?_;clear hK9 K9)
    refine gD_ ?_
    have:=h _ _ _ S.ext ht
    rwa [hb] at this
  |true=>
   (intro K9 hK9;refine gD_ ?_;refine hK9 _ _ fun _=>?_;clear hK9 K9)
   refine ⟨?_,?_⟩
   ·refine zp (fun s w'=>s = [.bool (decide (sm<2))]∧w'=w9) (fun K9 hK9=>?_) ?_
    ·refine gD_ ?_
     refine akO ?_
     refine gD_ ?_
     exact hK9 _ _ ⟨rfl,rfl⟩
    rintro _ _ ⟨rfl,rfl⟩ d1
    refine gD_ ?_
    refine S.stB (b:=b4) fun w10 S=>?_
    refine gG_ ?_
    have:=h _ _ _ S.ext ht
    rwa [hb] at this
   ·refine S.stB (b:=b4) fun w10 S=>?_
    refine zp (fun s w'=>s = [.bool (decide (sm<2))]∧w'=w10) (fun K9 hK9=>?_) ?_
    ·refine gD_ ?_
     refine akO ?_
     refine gD_ ?_
     exact hK9 _ _ ⟨rfl,rfl⟩
    rintro _ _ ⟨rfl,rfl⟩ d1
    refine gD_ ?_
    have:=h _ _ _ S.ext ht
    rwa [hb] at this
 rw [if_neg h4] at hop;cases hop
 refine gG_ ?_
 refine S.stB (b:=b4) fun w10 S=>?_
 refine gG_ ?_
 exact h none 0 _ S.ext YC
end Go.Proofs
end
section
namespace Go.Proofs
open Go.Sh
set_option maxRecDepth 100000
set_option linter.unusedSimpArgs false
set_option linter.unusedVariables false
theorem abm {x : Bool} {w : World} {p : Option Addr} {l : List Bool} {cap : Nat} {K : Value→World→Prop} (hl : Sl w p (l.map Value.bool)) (hb : l.length≤1000000000) (h : K (.bool (l.contains x)) w) :
  zd Tryz.prog Tryz.xa #[.slice p l.length cap,.bool x] w K:=by
 refine Tryz.vP ?_
 unfold Tryz.kx
 refine Tryz.Z8 ?_
 unfold Tryz.qj
 refine gP_ ?_
 refine zi (ι:=Nat) (fun i=>[.int .i64 (i : Nat)]) (fun i w'=>w'=w∧i≤l.length∧(l.take i).contains x=false) (fun i=>l.length - i) 0 rfl ⟨rfl,Nat.zero_le _,by simp⟩ ?_
 rintro i d w' ⟨rfl,hi,hn⟩ K6 hK6
 simp only [List.getD_cons_zero]
 refine gP_ ?_
 refine zk (fun hlt=>?_) (fun hge=>?_)
 ·have hlt : i<l.length:=by omega
  obtain ⟨b,off,rfl,hc⟩:=hl.at (i:=i) (by rw [List.length_map];exact hlt)
  refine gP_ ?_
  have hv : (l.map Value.bool)[i]'(by rw [List.length_map];exact hlt) = .bool l[i]:=by simp
  rw [hv] at hc
  refine zg (by simpa using hc) ?_
  refine gP_ ?_
  have ht : (l.take (i+1)).contains x=((l.take i).contains x||(x == l[i])):=by
   rw [List.take_succ_eq_append_getElem hlt];simp only [List.contains_eq_any_beq,List.any_append,List.any_cons,List.any_nil,Bool.or_false]
  refine c_b (fun hy=>?_) (fun hno=>?_)
  ·refine gP_ ?_
   rw [show decide ((i : Int)≥0)=true by simp]
   have : l.contains x=true:=List.contains_iff_mem.2 (by rw [eq_of_beq hy];exact List.getElem_mem hlt)
   rwa [this] at h
  ·refine gP_ ?_
   refine hK6 (i+1) _ ⟨rfl,hlt,?_⟩ (by omega)
   rw [ht,hn,hno];rfl
 ·have : i=l.length:=by omega
  subst this
  rw [List.take_length] at hn
  refine gP_ ?_
  rwa [hn] at h
theorem XZ {o : OpD} {c : List Value} {w : World} {r : Gh} {K : Value→World→Prop} (hr : Holds r w) (ho : OpG r c o) (h : ∀ w',Ext w w'→K (.bool (jr o)) w') :
  zH Tryz.prog (.func (.func Tryz.XL) #[] #[]) #[.agg c.toArray] w K:=by
 obtain ⟨vq,rfl,hl⟩:=ho
 obtain ⟨qs,caps,rfl,_,_⟩:=hl.sl.shape
 have hpl : PlG r [.int .i64 o.pl.l,.slice qs o.pl.ps.length caps] o.pl:=⟨_,rfl,hl⟩
 refine alA (by kernel_rfl) ?_
 refine Tryz.aa3 ?_
 unfold Tryz.XN
 have S:=St.start hr
 refine S.box fun b1 w1 S=>?_
 refine gG_ ?_
 refine zf (c:=decide (o.n=0)) (fun _ K2 hK2=>?_) ?_
 ·refine gG_ ?_
  exact hK2
 refine zs (c:=yR o.pl) (fun _ K2 hK2=>?_) fun w3 e3=>h _ (S.go e3).ext
 refine gP_ ?_
 refine S.ldN (b:=b1) ?_
 exact qv S.holds hpl fun w3 e3=>hK2 _ e3
abbrev alT (h : aaw) : Value:=.agg #[.bool h.to,.bool h.a,.bool h.b,.bool h.args,.bool h.sign,.bool h.fr,.bool h.mu,.bool h.fn,.bool h.st,.bool h.el]
theorem aeN (l : List Bool) : (!l.contains false)=l.all id:=by
 induction l with
 |nil=>rfl
 |cons x l ih=>
  rw [List.contains_cons,List.all_cons,← ih]
  cases x<;>simp
set_option maxHeartbeats 1000000 in
theorem yb {p : PtD} {f : aaw} {c : List Value} {w : World} {r : Gh} {K : Value→World→Prop} (hr : Holds r w) (hp : PtG r c p) (h : ∀ w',Ext w w'→K (.bool (zB p f)) w') :
  zd Tryz.prog Tryz.zT #[.agg c.toArray,alT f] w K:=by
 obtain ⟨vt,va,vb,vl,vf,rfl,h1,h2,h3,h4,h5⟩:=hp
 obtain ⟨qt,capt,rfl,_,_⟩:=h1.sl.shape
 obtain ⟨qa,capa,rfl,_,_⟩:=h2.sl.shape
 obtain ⟨qb,capb,rfl,_,_⟩:=h3.sl.shape
 obtain ⟨ql,capl,rfl,_,_⟩:=h4.sl.shape
 obtain ⟨qf,capf,rfl,_,_⟩:=h5.sl.shape
 refine Tryz.ado ?_
 unfold Tryz.Jd
 have S:=St.start hr
 refine S.box fun b2 w1 S=>?_
 refine S.box fun b3 w2 S=>?_
 have S:=S.go (Ext.drew _)
 refine gG_ ?_
 refine yP (c:=yR p.to) (fun _ K2 hK2=>?_) fun w4 e4=>?_
 ·refine gP_ ?_
  refine S.ldN (b:=b2) ?_
  exact qv S.holds ⟨_,rfl,h1⟩ fun w3 e3=>⟨e3,hK2 _ e3⟩
 have S:=S.go e4
 refine yP (c:=jr p.a) (fun _ K2 hK2=>?_) fun w5 e5=>?_
 ·refine gP_ ?_
  refine S.ldN (b:=b2) ?_
  exact XZ S.holds ⟨_,rfl,h2⟩ fun w3 e3=>⟨e3,hK2 _ e3⟩
 have S:=S.go e5
 refine yP (c:=jr p.b) (fun _ K2 hK2=>?_) fun w5 e5=>?_
 ·refine gP_ ?_
  refine S.ldN (b:=b2) ?_
  exact XZ S.holds ⟨_,rfl,h3⟩ fun w3 e3=>⟨e3,hK2 _ e3⟩
 have S:=S.go e5
 refine zj (c:=decide (p.args.length=0)) (fun _ K2 hK2=>?_) ?_
 ·refine gG_ ?_
  rw [XD]
  exact hK2
 refine zj (c:=p.sign.toList == []) (fun _ K2 hK2=>?_) ?_
 ·refine gG_ ?_
  exact hK2
 refine yP (c:=yR p.fr) (fun _ K2 hK2=>?_) fun w4 e4=>?_
 ·refine gP_ ?_
  refine S.ldN (b:=b2) ?_
  exact qv S.holds ⟨_,rfl,h5⟩ fun w3 e3=>⟨e3,hK2 _ e3⟩
 have S:=S.go e4
 refine zj (c:=!p.mu) (fun _ K2 hK2=>?_) ?_
 ·refine gG_ ?_
  exact hK2
 refine zj (c:=decide (p.fn=0)) (fun _ K2 hK2=>?_) ?_
 ·refine gG_ ?_
  exact hK2
 refine zj (c:=decide (p.st=0)) (fun _ K2 hK2=>?_) ?_
 ·refine gG_ ?_
  exact hK2
 refine zj (c:=decide (p.el=0)) (fun _ K2 hK2=>?_) ?_
 ·refine gG_ ?_
  exact hK2
 refine S.lit (e:=4) (cs:=(x9 p f).map Value.bool) (by kernel_rfl) fun b80 w80 S=>?_
 refine abm (l:=x9 p f) (x:=false) (Sl.blk (S.blk b80)) (by simp [x9]) ?_
 refine gP_ ?_
 rw [aeN]
 exact h _ S.ext
end Go.Proofs
end
section
namespace Go.Sh
section
variable {w : World} {Z : Value→World→Prop} {b c : Bool}
theorem vT {g : Bool} {A : (List Value→World→Prop)→World→Prop} {G : (List Value→World→Prop)→Prop} (hG : b=false→∀ K : List Value→World→Prop,K [.bool g] w→G K) (hA : g=true→∀ K : List Value→World→Prop,K [.bool c] w→A K w) (hZ : Z (.bool (b||(g&&c))) w) :
  za (fun K1=>gIf (.bool b) false (G K1) (K1 [undef] w)) fun s1 _ w1=>
   za (fun K2=>gIf (s1.getD 0 undef) true (A K2 w1) (K2 [undef] w1)) fun s2 _ w2=>
    za (fun K3=>gIf (.bool b) false (zb (s1.getD 0 undef) (s2.getD 0 undef) (.bool false) fun t=>K3 [t] w2) (K3 [undef] w2)) fun s3 _ w3=>
     zb (.bool b) (.bool true) (s3.getD 0 undef) fun t=>Z t w3:=by
 intro K1 hK1
 cases b with
 |true=>
  refine hK1 _ _ fun _=>?_
  intro K2 hK2
  refine hK2 _ _ fun _=>?_
  intro K3 hK3
  refine hK3 _ _ fun _=>⟨true,rfl,?_⟩
  rw [Bool.true_or] at hZ;exact hZ
 |false=>
  refine hG rfl _ (hK1 _ _ fun _=>?_)
  intro K2 hK2
  cases g with
  |true=>
   refine hA rfl _ (hK2 _ _ fun _=>?_)
   intro K3 hK3
   refine ⟨true,rfl,hK3 _ _ fun _=>⟨false,rfl,?_⟩⟩
   rw [Bool.false_or,Bool.true_and] at hZ;exact hZ
  |false=>
   refine hK2 _ _ fun _=>?_
   intro K3 hK3
   refine ⟨false,rfl,hK3 _ _ fun _=>⟨false,rfl,?_⟩⟩
   rw [Bool.false_or,Bool.false_and] at hZ;exact hZ
end
theorem afR {P : Program} {K : Value→Prop} {t e : TypeId} {n : Nat} {p : Option Addr} {len cap : Nat} {kd kd' : IntKind} {a b : Int} (h : slT P t=some (e,n)) (h0 : 0≤a) (h1 : a≤b) (h2 : b≤cap)
  (k : K (.slice (if cap=a.toNat then p else p.map (·.add (a.toNat*n))) (b.toNat - a.toNat) (cap - a.toNat))) : opP P (Instr.sliceAt t (.slice p len cap) (some (.int kd a)) (some (.int kd' b)) none) K:=by
 refine yi (fun w=>?_) k
 unfold slT at h
 cases hu : P.underlying t with
 |none=>rw [hu] at h;cases h
 |some d=>
  rw [hu] at h
  cases d<;>first|cases h|skip
  rename_i e'
  simp only [Option.map_eq_some_iff,Prod.mk.injEq] at h
  obtain ⟨m,hs,rfl,rfl⟩:=h
  have h3 : 0≤b:=by omega
  have h5 : a≤max b 0:=by omega
  simp [Instr.sliceAt,Instr.slice,Instr.sliceBounds,Instr.sliceBound,asIntOf,Sem.run_bind,zC hu,Result.andThen,Sem.run,pure,h0,h2,h3,h5,yk hs]
instance {P : Program} {t e : TypeId} {n : Nat} {p : Option Addr} {len cap : Nat} {i j : IntKind} {a b : Int} [h : SlT P t e n] : PCond P (Instr.sliceAt t (.slice p len cap) (some (.int i a)) (some (.int j b)) none) (.slice (if cap=a.toNat then p else p.map (·.add (a.toNat*n))) (b.toNat - a.toNat) (cap - a.toNat)) (0≤a∧a≤b∧b≤cap):=
 .of fun x _ k=>afR (e:=e) (n:=n) h.h x.1 x.2.1 x.2.2 k
theorem StX.holdW {X : Nat→Prop} {w0 w : World} {r : Gh} {L : List Asr} (S : StX X w0 r w L) (b : Nat) {c : List Value} {T : TypeId} {f : List Value→List Asr} [h : At b L c T f] : Holds (r.or (Go.Sh.one b c T)) w:=S.holds.or (ku (S.blk b))
end Go.Sh
namespace Go.Proofs
open Go.Sh
set_option maxRecDepth 100000
set_option linter.unusedSimpArgs false
set_option linter.unusedVariables false
section
variable {X : Nat→Prop} {w0 w : World} {r : Gh} {L : List Asr}
theorem acW {x n : Int} {b : Nat} {f : List Value→List Asr} {K : Value→World→Prop} (S : StX X w0 r w L) [At b L [.int .i64 n] 3 f] (h : K (.bool (decide (0≤x)&&decide (x<n))) w) :
  zH Tryz.prog (.func (.func Tryz.jD) #[] #[.pointer (some ⟨b,0,none⟩)]) #[.int .i64 x] w K:=by
 refine Qf (by kernel_rfl) ?_
 refine Tryz.Xw ?_
 unfold Tryz.jG
 refine gP_ ?_
 refine zf (c:=decide (x<n)) (fun _ K2 hK2=>?_) h
 refine S.ld (b:=b) ?_ rfl
 refine gP_ ?_
 exact hK2
end
theorem yp {t : TyD} {q : Option Addr} {cap : Nat} {k : Int} {w : World} {r : Gh} {K : Value→World→Prop} (hr : Holds r w) (h : ∀ w',Ext w w'→K (.bool (isK t k)) w') :
  zH Tryz.prog (.func (.func Tryz.jE) #[] #[]) #[tyV t q cap,.int .u8 k] w K:=by
 refine alB (by kernel_rfl) ?_
 refine Tryz.Xy ?_
 unfold Tryz.jI
 have S:=St.start hr
 refine S.box fun b1 w1 S=>?_
 refine gG_ ?_
 exact h _ S.ext
theorem afS {u : UnD} {g : GrD} {o : OpD} {t : TyD} {b2 : Nat} {c c2 : List Value} {q : Option Addr} {cap : Nat} {w : World} {r : Gh} {K : Value→World→Prop} (hr : Holds r w) (hb2 : Ob r fun w=>Blk w b2 c2 147) (hx : AskG r (.agg c2.toArray) u g)
  (hc2 : c2.length=10) (hf : xq u.ss g.tys) (ho : OpG r c o) (hc : c.length=4) (ht : TyG r (tyV t q cap) t)
  (h : ∀ w',Ext w w'→K (.bool ((zr u.ss g.tys o).2&&zO yg (zr u.ss g.tys o).1 t)) w') :
  zH Tryz.prog (.func (.func Tryz.qT) #[] #[.pointer (some ⟨b2,0,none⟩)]) #[.agg c.toArray,tyV t q cap] w K:=by
 refine alC (by kernel_rfl) ?_
 refine Tryz.Ys ?_
 unfold Tryz.qU
 have S:=St.start hr
 refine S.box fun b3 w1 S=>?_
 refine S.box fun b4 w2 S=>?_
 refine zq (n:=10) (c:=c2) hc2 (fun j v hj=>by rw [Nat.zero_add,(S.at hb2).cell];exact hj) ?_
 refine S.ldB (b:=b3) ?_ hc
 obtain ⟨t1,ok,hop⟩ : ∃ t1 ok,zr u.ss g.tys o=(t1,ok):=⟨_,_,rfl⟩
 rw [hop] at h
 refine kj S.holds hx hf ho hop fun q1 cap1 w3 e3 ht1=>?_
 have S:=S.go e3
 refine gP_ ?_
 refine gP_ ?_
 refine S.al fun b6 w4 S=>?_
 refine S.stB (b:=b6) fun w5 S=>?_
 refine zs (c:=zO yg t1 t) (fun _ K2 hK2=>?_) fun w9 e9=>h _ (S.go e9).ext
 refine S.ldB (b:=b6) ?_ rfl
 refine S.ldB (b:=b4) ?_ rfl
 exact kK S.holds ht1 ht fun w9 e9=>hK2 _ e9
theorem kE {ss : List StD} {tys : List TyD} {o : OpD} {l : List OpD} {t : TyD} {r : List TyD} : yS ss tys (o::l) (t::r)=(((zr ss tys o).2&&zO yg (zr ss tys o).1 t)&&yS ss tys l r):=rfl
theorem Js {ss : List StD} {tys : List TyD} : ∀ {l : List OpD} {r : List TyD},l.length≠r.length→yS ss tys l r=false
 |[],[],h=>absurd rfl h
 |[],_::_,_=>rfl
 |_::_,[],_=>rfl
 |o::l,t::r,h=>by rw [kE,Js (by simpa using h),Bool.and_false]
theorem TysG.up {s t : Gh} {q : Option Addr} {ts : List TyD} (h : TysG s q ts) [l : Le s t] : TysG t q ts:=fun i hi=>by
 obtain ⟨b,off,c,h1,h2,h3,h4⟩:=h i hi
 exact ⟨b,off,c,h1,h2,fun j v hj=>(h3 j v hj).up,h4.up⟩
theorem X0 {r : Gh} {q : Option Addr} {n cap : Nat} {ts : List TyD} (h : SlG 5 r (TyC r) (.slice q n cap) ts) : TysG r q ts:=fun i hi=>by
 obtain ⟨b,off,c,h1,h2,h3,h4⟩:=h.get (by decide) hi
 exact ⟨b,off,c,h1,h2,h4,h3⟩
theorem aiT {top : Gh} {gs : Nat→Gh} {q : Option Addr} {ts : List TyD} (h : akQ top gs q ts) : TysG (top.or (un gs 0 ts.length)) q ts:=fun i hi=>by
 obtain ⟨b,off,c,h1,h2,h3,h4,_⟩:=h.at' i hi
 exact ⟨b,off,c,h1,h2,fun j v hj=>(h3 j v hj).up,TyG.up h4 (l:=⟨fun b o hb=>.inr ⟨i,Nat.zero_le _,hi,hb⟩⟩)⟩
theorem TysG.sub {s : Gh} {q : Option Addr} {ts : List TyD} (h : TysG s q ts) {a n cap : Nat} (hc : ts.length≤cap) : TysG s (if cap=a then q else q.map (·.add (a*5))) ((ts.drop a).take n):=fun i hi=>by
 rw [List.length_take,List.length_drop] at hi
 obtain ⟨b,off,c,h1,h2,h3,h4⟩:=h (a+i) (by omega)
 refine ⟨b,off+a*5,c,?_,h2,fun j v hj=>?_,?_⟩
 ·rw [if_neg (by omega),h1,Option.map_some,kz]
 ·have:=h3 j v hj
  rwa [show off+(a+i)*5+j=off+a*5+i*5+j by omega] at this
 ·rw [List.getElem_take,List.getElem_drop];exact h4
theorem acX {u : UnD} {g : GrD} {p : PtD} {l : List TyD} {b2 b3 : Nat} {c2 c3 : List Value} {ql : Option Addr} {capl : Nat} {w : World} {r : Gh} {K : Value→World→Prop} (hr : Holds r w) (hb2 : Ob r fun w=>Blk w b2 c2 147) (hb3 : Ob r fun w=>Blk w b3 c3 64) (hx : AskG r (.agg c2.toArray) u g)
  (hc2 : c2.length=10) (hf : xq u.ss g.tys) (hp : PtG r c3 p) (hl : TysG r ql l)
  (h : ∀ w',Ext w w'→K (.bool (yS u.ss g.tys p.args l)) w') :
  zH Tryz.prog (.func (.func Tryz.jF) #[] #[.pointer (some ⟨b3,0,none⟩),.pointer (some ⟨b2,0,none⟩)]) #[.slice ql l.length capl] w K:=by
 refine abc (by kernel_rfl) ?_
 refine Tryz.Xz ?_
 unfold Tryz.jJ
 obtain ⟨vt,va,vb,va',vf,rfl,h1,h2,h3,h4,h5⟩:=hp
 obtain ⟨qa,capa,rfl,_,_⟩:=h4.sl.shape
 have S:=St.start hr
 have hlen:=h4.lt
 refine gP_ ?_
 refine zg (by rw [(S.at hb3).cell];rfl) ?_
 refine gP_ ?_
 refine Tryz.yN ?_
 unfold Tryz.zY
 refine gG_ ?_
 refine zk (fun hne=>?_) (fun heq=>?_)
 ·rw [Js (by omega)] at h
  exact h _ S.ext
 have heq : p.args.length=l.length:=by omega
 refine gG_ ?_
 refine zi (ι:=Nat) (fun i=>[.int .i64 (i : Nat)]) (fun i w'=>i≤p.args.length∧yS u.ss g.tys (p.args.drop i) (l.drop i)=yS u.ss g.tys p.args l∧StX noX w r w' []) (fun i=>p.args.length - i) 0 rfl ⟨Nat.zero_le _,rfl,S⟩ ?_
 clear S
 rintro i d w1 ⟨hi,hd,S⟩ K6 hK6
 rw [List.getD_cons_zero]
 refine gP_ ?_
 refine zk (fun hlt=>?_) (fun hge=>?_)
 ·have hlt : i<p.args.length:=by omega
  have hlt2 : i<l.length:=by omega
  obtain ⟨ba,oa,ca,rfl,hca,hao,hac⟩:=h4.sl.get (by decide) hlt
  obtain ⟨bt,ot,ct,rfl,hct,htc,hto⟩:=hl i hlt2
  obtain ⟨q2,cap2,rfl,ht2⟩:=yU hto
  rw [List.drop_eq_getElem_cons hlt,List.drop_eq_getElem_cons hlt2,kE] at hd
  refine gP_ ?_
  refine zq (n:=4) hca (fun j v hj=>by rw [Int.toNat_natCast];exact S.at (hac j v hj)) ?_
  refine S.al fun b8 w2 S=>?_
  obtain ⟨vq,hca',hlq⟩:=id hao
  subst hca'
  obtain ⟨qs,caps,rfl,_⟩:=hlq.sl.shape
  refine S.stB (b:=b8) fun w3 S=>?_
  refine gP_ ?_
  refine zq (n:=5) hct (fun j v hj=>by rw [Int.toNat_natCast];exact S.at (htc j v hj)) ?_
  refine S.al fun b9 w4 S=>?_
  refine S.stB (b:=b9) fun w5 S=>?_
  refine S.ldB (b:=b8) ?_ rfl
  refine S.ldB (b:=b9) ?_ rfl
  refine afS S.holds hb2 hx hc2 hf hao rfl ht2 fun w6 e6=>?_
  have S:=S.go e6
  refine gP_ ?_
  refine c_b (fun hno=>?_) (fun hy=>?_)
  ·have hno : ((zr u.ss g.tys p.args[i]).2&&zO yg (zr u.ss g.tys p.args[i]).1 l[i])=false:=by rw [← Bool.not_eq_true'];exact hno
   rw [hno,Bool.false_and] at hd
   rw [← hd] at h
   exact h _ S.ext
  ·have hy : ((zr u.ss g.tys p.args[i]).2&&zO yg (zr u.ss g.tys p.args[i]).1 l[i])=true:=by rw [← Bool.not_eq_false'];exact hy
   rw [hy,Bool.true_and] at hd
   refine gP_ ?_
   rw [show ((i : Int)+1)=((i+1 : Nat) : Int) by omega]
   exact hK6 (i+1) _ ⟨hlt,hd,S.to r |>.less (fun _ _ h=>h) (List.nil_sublist _)⟩ (by omega)
 ·have hie : i=p.args.length:=by omega
  rw [hie,List.drop_length,heq,List.drop_length] at hd
  rw [← hd] at h
  exact h _ S.ext
end Go.Proofs
end
section
namespace Go.Proofs.Tryz
open Go.Sh
set_option maxRecDepth 100000
end Go.Proofs.Tryz
end
section
namespace Go.Proofs
open Go.Sh
set_option maxRecDepth 100000
set_option linter.unusedSimpArgs false
set_option linter.unusedVariables false
theorem aax {f : Int→Bool} {fv : Value} {w : World} (hf : ∀ (x : Int) (K : Value→World→Prop),K (.bool (f x)) w→zH Tryz.prog fv #[.int .i64 x] w K) {p : Option Addr} {l : List Int} {cap : Nat} {K : Value→World→Prop}
  (hl : Sl w p (ints l)) (hb : l.length≤1000000000) (h : ∀ i : Int,(0≤i↔l.any f=true)→K (.int .i64 i) w) : zd Tryz.prog Tryz.yF #[.slice p l.length cap,fv] w K:=by
 refine Tryz.kv ?_
 unfold Tryz.xj
 refine gP_ ?_
 refine zi (ι:=Nat) (fun i=>[.int .i64 i]) (fun i w'=>w'=w∧i≤l.length∧(l.take i).any f=false) (fun i=>l.length - i) 0 rfl ⟨rfl,Nat.zero_le _,by simp⟩ ?_
 rintro i d w' ⟨rfl,hi,hn⟩ K6 hK6
 simp only [List.getD_cons_zero]
 refine gP_ ?_
 refine zk (fun hlt=>?_) (fun hge=>?_)
 ·have hlt : i<l.length:=by omega
  obtain ⟨b,off,rfl,hc⟩:=hl.at (i:=i) (by rw [jx];exact hlt)
  refine gP_ ?_
  have hv : (ints l)[i]'(by rw [jx];exact hlt) = .int .i64 l[i]:=by simp [ints]
  rw [hv] at hc
  refine zg (by simpa using hc) ?_
  refine hf _ _ ?_
  have ht : (l.take (i+1)).any f=((l.take i).any f||f l[i]):=by
   rw [List.take_succ_eq_append_getElem hlt,List.any_append];simp only [List.any_cons,List.any_nil,Bool.or_false]
  refine c_b (fun hy=>?_) (fun hno=>?_)
  ·refine h _ ⟨fun _=>?_,fun _=>Int.natCast_nonneg _⟩
   exact List.any_eq_true.2 ⟨l[i],List.getElem_mem hlt,hy⟩
  ·refine gP_ ?_
   refine hK6 (i+1) _ ⟨rfl,hlt,?_⟩ (by omega)
   rw [ht,hn,hno];rfl
 ·have : i=l.length:=by omega
  subst this
  rw [List.take_length] at hn
  exact h _ ⟨fun h=>by omega,fun h=>by rw [hn] at h;cases h⟩
theorem vD {f : Int→Bool} {fv : Value} {w : World} (hf : ∀ (x : Int) (K : Value→World→Prop),K (.bool (f x)) w→zH Tryz.prog fv #[.int .i64 x] w K) {p : Option Addr} {l : List Int} {cap : Nat} {K : Value→World→Prop}
  (hl : Sl w p (ints l)) (hb : l.length≤1000000000) (h : K (.bool (l.any f)) w) : zd Tryz.prog Tryz.zP #[.slice p l.length cap,fv] w K:=by
 refine Tryz.xQ ?_
 unfold Tryz.yW
 refine aax hf hl hb fun i hi=>?_
 refine gP_ ?_
 have e : decide (i≥0)=l.any f:=by
  by_cases hh : l.any f=true
  ·rw [hh];exact decide_eq_true (hi.2 hh)
  ·rw [Bool.eq_false_iff.2 hh];exact decide_eq_false fun h=>hh (hi.1 h)
 rw [e];exact h
abbrev ajL : Value:=.agg #[.int .u8 0,.bool false,.int .i64 0,.int .i64 0,.slice none 0 0]
abbrev ad8 : List Value:=[.int .u8 0,.bool false,.int .i64 0,.int .i64 0,.slice none 0 0]
end Go.Proofs
end
section
namespace Go.Proofs
open Go.Sh
set_option maxRecDepth 100000
set_option linter.unusedSimpArgs false
set_option linter.unusedVariables false
theorem aj5 {s : Int} {n : Nat} {t : TyD} (h : zz s (n+1) t=true) (h4 : t.k=4) : -1≤t.re:=by
 rw [xp,if_neg (by omega),if_neg (by omega),if_neg (by omega),if_pos h4] at h
 simp only [Bool.and_eq_true,decide_eq_true_eq] at h
 exact h.1.1
theorem aiU {s : Int} : ∀ (n : Nat) {t : TyD},zz s n t=true→∀ x ∈ t.regs,-1≤x:=by
 intro n
 induction n with
 |zero=>intro t h;cases h
 |succ n ih=>
  intro t h x hx
  rcases ym h with ⟨ho,hk⟩|⟨u,ho,hu,hk⟩
  ·rw [aas ho,if_neg (by omega)] at hx;cases hx
  ·rw [aat ho,List.mem_append] at hx
   rcases hx with hx|hx
   ·split at hx
    ·rw [List.mem_singleton.1 hx];exact aj5 h (by assumption)
    ·cases hx
   ·exact ih hu x hx
end Go.Proofs
end
section
namespace Go.Proofs
open Go.Sh
set_option linter.unusedVariables false
end Go.Proofs
end
section
namespace Go.Proofs
open Go.Sh
set_option linter.unusedVariables false
def zJ (f : Nat→Nat→Bool) : List Value:=(List.range 64).map fun k=>.bool (f (k / 8) (k % 8))
theorem jz {f : Nat→Nat→Bool} : (zJ f).length=64:=by rw [zJ,List.length_map,List.length_range]
theorem acm {f : Nat→Nat→Bool} {k : Nat} (h : k<64) : (zJ f)[k]? = some (.bool (f (k / 8) (k % 8))):=by
 rw [zJ,List.getElem?_map,List.getElem?_range h];rfl
theorem aiV {f : Nat→Nat→Bool} {x y : Nat} (hx : x<8) (hy : y<8) : (zJ f)[x*8+y]? = some (.bool (f x y)):=by
 rw [acm (by omega),show (x*8+y) / 8=x by omega,show (x*8+y) % 8=y by omega]
theorem yA {f g : Nat→Nat→Bool} (h : ∀ x y,x<8→y<8→f x y=g x y) : zJ f=zJ g:=by
 refine List.map_congr_left fun k hk=>?_
 have:=List.mem_range.1 hk
 rw [h _ _ (by omega) (by omega)]
theorem Qh {f : Nat→Nat→Bool} {x y : Nat} (hx : x<8) (hy : y<8) : (zJ f).set (x*8+y) (.bool true)=zJ fun a b=>f a b||(decide (a=x)&&decide (b=y)):=by
 refine List.ext_getElem? fun k=>?_
 by_cases hk : k<64
 ·rw [List.getElem?_set,acm hk,acm hk]
  by_cases e : x*8+y=k
  ·rw [if_pos e,if_pos (by rw [jz];omega)]
   subst e
   rw [show (x*8+y) / 8=x by omega,show (x*8+y) % 8=y by omega];simp
  ·rw [if_neg e]
   by_cases e1 : k / 8=x
   ·rw [decide_eq_false (show ¬ k % 8=y by omega),Bool.and_false,Bool.or_false]
   ·rw [decide_eq_false e1,Bool.false_and,Bool.or_false]
 ·rw [List.getElem?_eq_none (by rw [List.length_set,jz];omega),List.getElem?_eq_none (by rw [jz];omega)]
theorem acY {x y : Int} {a : Int} {l : List Int} : kD x y (a::l)=((decide (a=y)&&l.contains x)||kD x y l):=rfl
theorem aeO {l : List Int} {i : Nat} {x : Int} (h : i<l.length) : (l.take (i+1)).contains x=((l.take i).contains x||decide (x=l[i])):=by
 rw [List.take_succ_eq_append_getElem h,List.contains_eq_any_beq,List.any_append,← List.contains_eq_any_beq]
 simp only [List.any_cons,List.any_nil,Bool.or_false]
 congr 1
theorem acZ {x y : Int} {l : List TyD} {i : Nat} (h : i<l.length) : js (l.take (i+1)) x y=(js (l.take i) x y||kD x y (regsT l[i])):=by
 rw [List.take_succ_eq_append_getElem h,js,List.any_append,js]
 simp only [List.any_cons,List.any_nil,Bool.or_false]
theorem ac0 {x y : Int} {l : List (Int × Int)} {i : Nat} (h : i<l.length) : qM (l.take (i+1)) x y=(qM (l.take i) x y||(decide (x=l[i].1)&&decide (y=l[i].2))):=by
 rw [qM,List.take_succ_eq_append_getElem h,List.contains_eq_any_beq,List.any_append,← List.contains_eq_any_beq,← qM]
 simp only [List.any_cons,List.any_nil,Bool.or_false]
 congr 1
def kU (lv : Int) : Option (Int × Int)→List (Int × Int)→Bool
 |_,[]=>true
 |w,o::l=>(kc lv o&&(match w with|none=>true|some w=>j2 w o))&&kU lv (some o) l
theorem ac1 (lv : Int) : ∀ (l : List (Int × Int)) (w : Int × Int),kU lv (some w) l=(l.all (kc lv)&&abk (w::l))
 |[],w=>rfl
 |o::l,w=>by
  rw [kU,ac1 lv l o,List.all_cons,abk]
  cases kc lv o<;>cases j2 w o<;>cases l.all (kc lv)<;>simp
theorem ac2 (lv : Int) (l : List (Int × Int)) : kU lv none l=(l.all (kc lv)&&abk l):=by
 cases l with
 |nil=>rfl
 |cons o l=>
  rw [kU,ac1 lv l o,List.all_cons]
  cases kc lv o<;>cases l.all (kc lv)<;>simp
theorem aj6 {lv : Int} {w : Option (Int × Int)} {l : List (Int × Int)} {i : Nat} (h : i<l.length) : kU lv w (l.drop i)=((kc lv l[i]&&(match w with|none=>true|some w=>j2 w l[i]))&&kU lv (some l[i]) (l.drop (i+1))):=by
 rw [List.drop_eq_getElem_cons h];rfl
theorem not_lt {o w : Int × Int} : (decide (o.1<w.1)||(decide (w.1=o.1)&&decide (o.2≤w.2))) = !j2 w o:=by
 unfold j2
 rcases Int.lt_trichotomy o.1 w.1 with h|h|h
 ·rw [decide_eq_true h,decide_eq_false (show ¬ w.1<o.1 by omega),decide_eq_false (show ¬ w.1=o.1 by omega)];rfl
 ·rw [decide_eq_false (show ¬ o.1<w.1 by omega),decide_eq_false (show ¬ w.1<o.1 by omega),decide_eq_true (show w.1=o.1 by omega)]
  by_cases h2 : o.2≤w.2
  ·rw [decide_eq_true h2,decide_eq_false (show ¬ w.2<o.2 by omega)];rfl
  ·rw [decide_eq_false h2,decide_eq_true (show w.2<o.2 by omega)];rfl
 ·rw [decide_eq_false (show ¬ o.1<w.1 by omega),decide_eq_true (show w.1<o.1 by omega),decide_eq_false (show ¬ w.1=o.1 by omega)];rfl
theorem ag1 {n i : Nat} (h : i<n) : (List.range n).drop i=i::(List.range n).drop (i+1):=by
 rw [List.drop_eq_getElem_cons (by rwa [List.length_range]),List.getElem_range]
theorem jM {n i : Nat} {f : Nat→Bool} (h : i<n) : ((List.range n).drop i).all f=(f i&&((List.range n).drop (i+1)).all f):=by rw [ag1 h,List.all_cons]
theorem jN {n : Nat} {f : Nat→Bool} : ((List.range n).drop n).all f=true:=by rw [List.drop_of_length_le (by rw [List.length_range];exact Nat.le_refl _)];rfl
theorem ac3 {u : UnD} {g : GrD} {i : Nat} {t : TyD} {l : List TyD} : qY u g i (t::l)=(tyG u g i t&&qY u g (i+1) l):=rfl
theorem ac4 {u : UnD} {g : GrD} {i j : Nat} {l : List TyD} (h : i<l.length) : qY u g j (l.drop i)=(tyG u g j l[i]&&qY u g (j+1) (l.drop (i+1))):=by rw [List.drop_eq_getElem_cons h];rfl
theorem aeP {u : UnD} {g : GrD} : ∀ {l : List TyD} {i : Nat},qY u g i l=true→∀ t ∈ l,mayB u.ss t=true
 |[],i,_,t,ht=>by cases ht
 |x::l,i,h,t,ht=>by
  rw [ac3,Bool.and_eq_true] at h
  rcases List.mem_cons.1 ht with rfl|ht
  ·have:=h.1
   rw [tyG,Bool.and_eq_true] at this
   exact this.1
  ·exact aeP h.2 t ht
theorem aay {u : UnD} {g : GrD} : ∀ {l : List TyD} {i : Nat},qY u g i l=true→∀ {j : Nat} (hj : j<l.length),((i+j : Nat) : Int)≤g.pn→∀ x ∈ regsT l[j],0≤x∧x<g.lv
 |[],i,_,j,hj,_=>absurd hj (Nat.not_lt_zero _)
 |y::l,i,h,j,hj,hle=>by
  rw [ac3,Bool.and_eq_true] at h
  cases j with
  |zero=>
   have:=h.1
   rw [tyG,Bool.and_eq_true,List.all_eq_true] at this
   intro x hx
   have:=this.2 x hx
   rw [if_pos (by omega)] at this
   simp only [Bool.not_eq_true',Bool.or_eq_false_iff,decide_eq_false_iff_not] at this
   omega
  |succ j=>exact aay h.2 (j:=j) (by simpa using hj) (by omega)
theorem Qi {l : List PtD} {i : Nat} (h : i<l.length) : yo (l.take (i+1))=yo (l.take i)+(if l[i].op=4 then 1 else 0):=by
 rw [List.take_succ_eq_append_getElem h,yo,List.countP_append,yo]
 congr 1
 rw [List.countP_singleton]
 by_cases e : l[i].op=4<;>simp [e]
end Go.Proofs
end
section
namespace Go.Proofs
open Go.Sh
set_option maxRecDepth 100000
set_option linter.unusedSimpArgs false
set_option linter.unusedVariables false
theorem Sl.tail {w : World} {p : Option Addr} {a : Int} {l : List Int} {cap : Nat} (h : Sl w p (ints (a::l))) (hc : (a::l).length≤cap) : Sl w (if cap=(1 : Int).toNat then p else p.map (·.add ((1 : Int).toNat*1))) (ints l):=fun i v hv=>by
 have h1:=h (i+1) v (by simpa [ints] using hv)
 have hi : i<l.length:=by
  have:=(List.getElem?_eq_some_iff.1 hv).1
  rwa [jx] at this
 obtain ⟨b,off,hp,hcell⟩:=h1
 rw [List.length_cons] at hc
 rw [if_neg (show ¬ cap=(1 : Int).toNat by have : (1 : Int).toNat=1:=rfl;omega),hp,Option.map_some,kz]
 exact ⟨b,off+1,rfl,by rwa [show off+1+i=off+(i+1) by omega]⟩
abbrev fvI (b3 b4 : Nat) : Value:=.func (.func Tryz.ZW) #[] #[.pointer (some ⟨b3,0,none⟩),.pointer (some ⟨b4,0,none⟩)]
abbrev Qj (f : Nat→Nat→Bool) (l : List Int) : Nat→Nat→Bool:=fun x y=>f x y||kD x y l
abbrev ZL (f : Nat→Nat→Bool) (a : Int) (l : List Int) : Nat→Nat→Bool:=fun x y=>f x y||(decide (a=(y : Int))&&l.contains (x : Int))
theorem afT {b3 b4 bt : Nat} {M : List Asr} {w0 : World} {r : Gh} : ∀ (l : List Int) {p : Option Addr} {cap : Nat} {f : Nat→Nat→Bool} {w : World} {K : Value→World→Prop},(∀ x ∈ l,0≤x∧x<8)→(Ob r fun w=>Sl w p (ints l))→l.length≤cap→l.length≤1000→
  StX noX w0 r w (.cell b4 [fvI b3 b4] 81 :: .cell b3 [.pointer (some ⟨bt,0,none⟩)] 163 :: .cell bt (zJ f) 161::M)→
  (∀ w',StX noX w0 r w' (.cell b4 [fvI b3 b4] 81 :: .cell b3 [.pointer (some ⟨bt,0,none⟩)] 163 :: .cell bt (zJ (Qj f l)) 161::M)→K (.tuple #[]) w')→
  zH Tryz.prog (fvI b3 b4) #[.slice p l.length cap] w K:=by
 intro l
 induction l with
 |nil=>
  intro p cap f w K hx hl hc hb S h
  refine abc (by kernel_rfl) ?_
  refine Tryz.Zr ?_
  unfold Tryz.qX
  refine gP_ ?_
  refine gP_ ?_
  refine c_t (by simp) ?_
  refine h _ ?_
  rw [yA (g:=f) (fun x y _ _=>by show (f x y||kD x y [])=f x y;rw [kD,Bool.or_false])]
  exact S
 |cons a l ih=>
  intro p cap f w K hx hl hc hb S h
  refine abc (by kernel_rfl) ?_
  refine Tryz.Zr ?_
  unfold Tryz.qX
  obtain ⟨ha0,ha8⟩:=hx a List.mem_cons_self
  have hxl : ∀ x ∈ l,0≤x∧x<8:=fun x h=>hx x (List.mem_cons_of_mem _ h)
  have hal : (a::l).length=l.length+1:=List.length_cons
  have hll : l.length≤1000:=by rw [List.length_cons] at hb;omega
  have hlc : l.length+1≤cap:=by rwa [List.length_cons] at hc
  have hsl : Ob r fun w=>Sl w (if cap=(1 : Int).toNat then p else p.map (·.add ((1 : Int).toNat*1))) (ints l):=fun w k=>Sl.tail (hl w k) hc
  have hlen : (a::l).length - (1 : Int).toNat=l.length:=by simp
  obtain ⟨bp,op,rfl,hcell⟩:=Yd (S.at hl) (i:=0) (by simp)
  refine gP_ ?_
  refine gP_ ?_
  refine c_f (by rw [List.length_cons];exact decide_eq_false (by omega)) ?_
  refine gP_ ?_
  rw [hlen]
  refine gP_ ?_
  obtain ⟨p2,hp2⟩ : ∃ p2,(if cap=(1 : Int).toNat then (some ⟨bp,op,none⟩ : Option Addr) else (some ⟨bp,op,none⟩ : Option Addr).map (·.add ((1 : Int).toNat*1)))=p2:=⟨_,rfl⟩
  rw [hp2] at hsl ⊢
  refine zi (ι:=Nat) (fun i=>[.int .i64 (i : Nat)]) (fun i w'=>i≤l.length∧StX noX w0 r w' (.cell b4 [fvI b3 b4] 81 :: .cell b3 [.pointer (some ⟨bt,0,none⟩)] 163 :: .cell bt (zJ (ZL f a (l.take i))) 161::M)) (fun i=>l.length - i) 0 rfl
   ⟨Nat.zero_le _,by
    rw [yA (f:=ZL f a (l.take 0)) (g:=f) (fun x y _ _=>by simp [ZL])]
    exact S⟩ ?_
  clear S
  rintro i d w1 ⟨hi,S⟩ K6 hK6
  rw [List.getD_cons_zero]
  refine gP_ ?_
  refine zk (fun hlt=>?_) (fun hge=>?_)
  ·have hlt : i<l.length:=by omega
   obtain ⟨bq,oq,rfl,hcell2⟩:=Yd (S.at hsl) hlt
   obtain ⟨hi0,hi8⟩:=hxl _ (List.getElem_mem hlt)
   have S:=S.go (Ext.drew _)
   refine gP_ ?_
   refine zg (v:=.int .i64 l[i]) (by simpa using hcell2) ?_
   refine S.ld (b:=b3) ?_ rfl
   refine gP_ ?_
   have hc0:=(S.at hl 0 (.int .i64 a) (by simp [ints]))
   refine zg (v:=.int .i64 a) (by obtain ⟨b',o',h1,h2⟩:=hc0;cases h1;simpa using h2) ?_
   refine gG_ ?_
   refine S.st (b:=bt) (fun w2 S=>?_) (by rw [jz];omega)
   refine gP_ ?_
   rw [show ((i : Int)+1)=((i+1 : Nat) : Int) by omega]
   refine hK6 (i+1) _ ⟨hlt,?_⟩ (by omega)
   rw [show 0+l[i].toNat*8+a.toNat*1=l[i].toNat*8+a.toNat by omega,Qh (by omega) (by omega)] at S
   rw [yA (f:=ZL f a (l.take (i+1))) (g:=fun x y=>ZL f a (l.take i) x y||(decide (x=l[i].toNat)&&decide (y=a.toNat))) (fun x y _ _=>by
    show (f x y||(decide (a=(y : Int))&&(l.take (i+1)).contains (x : Int)))=((f x y||(decide (a=(y : Int))&&(l.take i).contains (x : Int)))||(decide (x=l[i].toNat)&&decide (y=a.toNat)))
    rw [aeO hlt,show decide ((x : Int)=l[i])=decide (x=l[i].toNat) from decide_eq_decide.2 (by omega),show decide (a=(y : Int))=decide (y=a.toNat) from decide_eq_decide.2 (by omega)]
    cases f x y<;>cases decide (y=a.toNat)<;>cases (l.take i).contains (x : Int)<;>cases decide (x=l[i].toNat)<;>rfl)]
   exact S
  ·have hie : i=l.length:=by omega
   rw [hie,List.take_length] at S
   have S:=S.go (Ext.drew _)
   refine S.ld (b:=b4) ?_ rfl
   refine gP_ ?_
   rw [hlen,hp2]
   refine ih hxl hsl (by show l.length≤cap - (1 : Int).toNat;have : (1 : Int).toNat=1:=rfl;omega) hll S fun w2 S=>?_
   refine h _ ?_
   rw [yA (f:=Qj f (a::l)) (g:=Qj (ZL f a l) l) (fun x y _ _=>by
    show (f x y||kD x y (a::l))=((f x y||(decide (a=(y : Int))&&l.contains (x : Int)))||kD x y l)
    rw [acY,Bool.or_assoc])]
   exact S
abbrev aaz (f : Nat→Nat→Bool) (l : List TyD) : Nat→Nat→Bool:=fun x y=>f x y||js l x y
theorem abn {bt : Nat} {M : List Asr} {w0 : World} {r : Gh} {l : List TyD} {q : Option Addr} {cap : Nat} {f : Nat→Nat→Bool} {w : World} {K : Value→World→Prop} (hl : TysG r q l) (hn : l.length≤maxLen) (hx : ∀ t ∈ l,∀ x ∈ regsT t,0≤x∧x<8)
  (S : StX noX w0 r w (.cell bt (zJ f) 161::M))
  (h : ∀ w',StX noX w0 r w' (.cell bt (zJ (aaz f l)) 161::M)→K (.tuple #[]) w') : zd Tryz.prog Tryz.jW #[.slice q l.length cap,.pointer (some ⟨bt,0,none⟩)] w K:=by
 refine Tryz.aai ?_
 unfold Tryz.Y2
 have hn' : l.length≤9223372036854775807:=hn
 refine S.box fun b3 w1 S=>?_
 refine S.al fun b4 w2 S=>?_
 refine gP_ ?_
 refine S.st (b:=b4) fun w3 S=>?_
 refine gP_ ?_
 refine zi (ι:=Nat) (fun i=>[.int .i64 (i : Nat)]) (fun i w'=>i≤l.length∧StX noX w0 r w' (.cell b4 [fvI b3 b4] 81 :: .cell b3 [.pointer (some ⟨bt,0,none⟩)] 163 :: .cell bt (zJ (aaz f (l.take i))) 161::M)) (fun i=>l.length - i) 0 rfl
  ⟨Nat.zero_le _,by
   rw [yA (f:=aaz f (l.take 0)) (g:=f) (fun x y _ _=>by simp [aaz,js])]
   exact S⟩ ?_
 clear S
 rintro i d w4 ⟨hi,S⟩ K6 hK6
 rw [List.getD_cons_zero]
 refine gP_ ?_
 refine zk (fun hlt=>?_) (fun hge=>?_)
 ·have hlt : i<l.length:=by omega
  obtain ⟨b1,o1,c1,rfl,hc1,htc,hto⟩:=hl i hlt
  obtain ⟨q2,cap2,rfl,ht2⟩:=yU hto
  refine gP_ ?_
  refine zq (n:=5) hc1 (fun j v hj=>by rw [Int.toNat_natCast];exact S.at (htc j v hj)) ?_
  refine S.al fun b6 w5 S=>?_
  refine S.stB (b:=b6) fun w6 S=>?_
  have S:=S.go (Ext.drew _)
  refine S.ld (b:=b4) ?_ rfl
  refine S.ldB (b:=b6) ?_ rfl
  refine Xd S.holds ht2 fun v7 w7 e7 o7=>⟨e7,?_⟩
  obtain ⟨s1,p1,cap1,n1,nb1,rfl,_,hc1,hs1⟩:=aey o7
  have S:=S.new e7 n1
  have S:=S.drop b6
  have hr48 : (regsT l[i]).length≤1000:=by
   rw [regsT];split
   ·have:=Xf (by assumption);omega
   ·simp
  refine afT (regsT l[i]) (fun x h=>hx _ (List.getElem_mem hlt) x h) hs1.up hc1 hr48 S fun w8 S=>?_
  refine gP_ ?_
  rw [show ((i : Int)+1)=((i+1 : Nat) : Int) by omega]
  refine hK6 (i+1) _ ⟨hlt,?_⟩ (by omega)
  have S:=S.to r
  rw [yA (f:=aaz f (l.take (i+1))) (g:=Qj (aaz f (l.take i)) (regsT l[i])) (fun x y _ _=>by
   show (f x y||js (l.take (i+1)) x y)=((f x y||js (l.take i) x y)||kD x y (regsT l[i]))
   rw [acZ hlt,Bool.or_assoc])]
  exact S
 ·have hie : i=l.length:=by omega
  rw [hie,List.take_length] at S
  exact h _ S.tl.tl
end Go.Proofs
end
