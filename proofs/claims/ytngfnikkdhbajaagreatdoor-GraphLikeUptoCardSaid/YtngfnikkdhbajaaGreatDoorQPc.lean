/-
  Structs as data; what stands in what: the plain laws.
  Contracts: words, endless, first of package types.
  Contracts: Structs, May, Words, Drops of package types.
  Contracts: the document's answer: plain, endless, words, Structs, May, Words, Drops, Copies.
  Contracts: the document's answer: endless, Structs, May, Words, Drops.
  Contracts: fits; a struct's fields in new memory, of both sides.
  A law's end: the answer is true, the input reads as it did.
  Whatever an argument reads as, it is a datum: one theorem for all types of numbers, texts, structs and slices.
  Lists in memory, of whatever things: what a slice tells, read and grown.
  Data that are of a type, taken apart; what slices of data tell.
  Programs as graphs, as data; what a memory tells of them.
  A step of a kind, told by its kind alone.
  Texts of places, operands and points: as plain lists of bytes; how long they are.
  Contracts of the library, laid at this program (by the kit's own tools).
  Shallow readings of functions. Made by a program (wip/gen/gen.py) out of the translation; the kernel checks each equality.
  A strings.Builder that a call has made itself: what it holds, and what it tells.
  Shallow readings of functions. Made by a program (wip/gen/gen.py) out of the translation; the kernel checks each equality.
  Texts of places and operands, of both sides.
  Texts of operands and of lists of operands, of both sides.
  Which programs may be: the plain law.
  Which programs may be: what is walked may be, plain facts.
  Regions of a graph: the plain law.
  Regions of a type turned, erased: step by step.
  Contracts: zero, the type of a place of a graph.
  Contracts: the type of an operand of a graph.
  Contracts: which fields a point may have.
  Contracts: the functions that stand in point.
  Nothing of this is in the seat.
  Contracts: regions of a type turned, erased, of both sides.
  Regions laid anew and numbered twice; words and drops of fields: the plain laws.
  Regions numbered: plain facts, one by one.
-/
import Derived.Test.YtngfnikkdhbajaaGreatDoorQPb
import Derived.Test.YtngfnikkdhbajaaGreatDoorQPa
import Derived.ChangeSame
import Derived.ChangeStays
import Derived.ReadAgain
import Derived.ProofKit
import Derived.OpenShut
import Derived.Deep.DeepHandedRow
import Derived.Lib.LaidTab
import Derived.Lib.SmallJoins
import Derived.ChangeArms
import Derived.DataReads
import Derived.Lib.ItoaLen
import Derived.Shelf.Strings.Builder1
import Derived.Shelf.Strings.OnBuilder
import Derived.Shelf.Small.Wraps
import Derived.Shelf.Strconv.Itoa3
import Derived.Shelf.Strconv.Itoa4
import Derived.Shelf.Slices.CompactI
import Derived.Test.YtngfnikkdhbajaaGreatDoorProg
import Derived.KernelRfl
section
namespace Go.Proofs
open Go.Sh
set_option maxRecDepth 100000
set_option linter.unusedSimpArgs false
set_option linter.unusedVariables false
structure StD where
 name : ByteArray
 fs : List (ByteArray × TyD)
def JW (f : ByteArray × TyD) : Dat:=.agg [.str f.1,f.2.dat]
def StD.dat (s : StD) : Dat:=.agg [.str s.name,.sl 6 (s.fs.map JW)]
def FlG (r : Gh) (p : Option Addr) (fs : List (ByteArray × TyD)) : Prop:=RepS r 6 p 0 (fs.map JW)
def StG (r : Gh) (p : Option Addr) (ss : List StD) : Prop:=RepS r 2 p 0 (ss.map StD.dat)
theorem StG.up {r s : Gh} {p : Option Addr} {ss : List StD} (h : StG r p ss) [l : Le r s] : StG s p ss:=RepS.up' l h
theorem YA {r : Gh} {p : Option Addr} {fs : List (ByteArray × TyD)} (h : FlG r p fs) {k : Nat} (hk : k<fs.length) : ∃ b off c,p=some ⟨b,off,none⟩∧c.length=5∧
  (∀ j v,(Value.string fs[k].1::c)[j]? = some v→Ob r fun w=>w.cell? ⟨b,off+k*6+j,none⟩=some v)∧TyG r (.agg c.toArray) fs[k].2:=by
 obtain ⟨c,h1,h2,h3⟩:=RepS.get h (i:=k) (d:=JW fs[k]) (by rw [List.getElem?_map,List.getElem?_eq_getElem hk];rfl)
 obtain ⟨a1,b1,rfl,e1,a2,b2,rfl,e2,e3⟩:=h3
 obtain rfl : a1=_:=e1
 obtain rfl : b2 = []:=e3
 rw [List.append_nil] at h1 h2
 obtain ⟨b,off,rfl,_⟩:=h2 0 _ rfl
 refine ⟨b,off,a2,rfl,by simpa using h1,fun j v hj=>?_,TyG.of_rep e2⟩
 obtain ⟨b',off',hp,ho⟩:=h2 j v hj
 cases hp
 rwa [Nat.zero_add] at ho
theorem vG {r : Gh} {p : Option Addr} {ss : List StD} (h : StG r p ss) {i : Nat} (hi : i<ss.length) : ∃ b off q cap,p=some ⟨b,off,none⟩∧
  (Ob r fun w=>w.cell? ⟨b,off+i*2+1,none⟩=some (.slice q ss[i].fs.length cap))∧(q=none→cap=0)∧ss[i].fs.length≤cap∧FlG r q ss[i].fs:=by
 obtain ⟨c,h1,h2,h3⟩:=RepS.get h (i:=i) (d:=StD.dat ss[i]) (by rw [List.getElem?_map,List.getElem?_eq_getElem hi];rfl)
 obtain ⟨a1,b1,rfl,e1,a2,b2,rfl,e2,e3⟩:=h3
 obtain rfl : a1=_:=e1
 obtain rfl : b2 = []:=e3
 obtain ⟨q,cap,rfl,hq,hc,hf⟩:=e2
 rw [List.length_map] at hc h2
 obtain ⟨b,off,rfl,_⟩:=h2 0 _ rfl
 obtain ⟨b',off',hp,ho⟩:=h2 1 (.slice q ss[i].fs.length cap) (by rfl)
 cases hp
 rw [Nat.zero_add] at ho
 exact ⟨b,off,q,cap,rfl,ho,hq,hc,hf⟩
def ze (ss : List StD) (k : Int) : List TyD:=match ss[k.toNat]? with|some s=>s.fs.map (·.2)|none=>[]
def Kid (ss : List StD) (k j : Int) : Prop:=∃ t ∈ ze ss k,t.k=5∧t.st=j
inductive Rch (ss : List StD) : Int→Int→Prop
 |one {k j : Int} : Kid ss k j→Rch ss k j
 |more {k j i : Int} : Rch ss k j→Kid ss j i→Rch ss k i
theorem Rch.trans {ss : List StD} {a b c : Int} (h : Rch ss a b) (k : Rch ss b c) : Rch ss a c:=by
 induction k with
 |one e=>exact .more h e
 |more _ e ih=>exact .more ih e
def jj (ss : List StD) : Prop:=∀ k,∀ t ∈ ze ss k,zO ss.length 48 t=true
theorem Yh {n : Int} {m : Nat} {t : TyD} (h : zO n (m+1) t=true) (hk : t.k=5) : 0≤t.st∧t.st<n∧t.of = []:=by
 rw [vF] at h
 rw [if_neg (by omega),if_pos hk] at h
 simp only [Bool.and_eq_true,decide_eq_true_eq] at h
 exact ⟨h.1.2,h.2,List.eq_nil_of_length_eq_zero h.1.1.2⟩
theorem Zi {ss : List StD} (hg : jj ss) {k j : Int} (h : Kid ss k j) : 0≤j∧j<ss.length:=by
 obtain ⟨t,ht,h5,rfl⟩:=h
 have:=Yh (hg k t ht) h5
 exact ⟨this.1,this.2.1⟩
theorem acE {ss : List StD} (hg : jj ss) {k j : Int} (h : Rch ss k j) : 0≤j∧j<ss.length:=by
 cases h with
 |one h=>exact Zi hg h
 |more _ h=>exact Zi hg h
open Classical in
noncomputable def rkS (ss : List StD) (k : Int) : Nat:=(List.range ss.length).countP fun j : Nat=>decide (Rch ss k (j : Int))
noncomputable def rkT (ss : List StD) (t : TyD) : Nat:=if t.k=5 then rkS ss t.st+1 else 0
open Classical in
theorem aem (ss : List StD) (t : TyD) : rkT ss t≤ss.length+1:=by
 unfold rkT rkS
 split
 ·have:=List.countP_le_length (p:=fun j : Nat=>decide (Rch ss t.st (j : Int))) (l:=List.range ss.length)
  rw [List.length_range] at this
  omega
 ·omega
theorem Vj {p q : Nat→Bool} : ∀ {l : List Nat},(∀ x ∈ l,p x=true→q x=true)→(∃ x ∈ l,p x=false∧q x=true)→l.countP p<l.countP q
 |[],_,h=>by obtain ⟨x,hx,_⟩:=h;cases hx
 |a::l,h1,h2=>by
  rw [List.countP_cons,List.countP_cons]
  have hle : l.countP p≤l.countP q:=List.countP_mono_left fun x hx=>h1 x (List.mem_cons_of_mem _ hx)
  have ha:=h1 a List.mem_cons_self
  by_cases hex : ∃ x ∈ l,p x=false∧q x=true
  ·have:=Vj (fun x hx=>h1 x (List.mem_cons_of_mem _ hx)) hex
   cases hp : p a<;>cases hq : q a<;>simp_all<;>omega
  ·obtain ⟨x,hx,hx1,hx2⟩:=h2
   rcases List.mem_cons.1 hx with rfl|hx
   ·rw [hx1,hx2];simp;omega
   ·exact absurd ⟨x,hx,hx1,hx2⟩ hex
open Classical in
theorem aen {ss : List StD} (hg : jj ss) (hac : ∀ k,¬ Rch ss k k) {t u : TyD} (h5 : t.k=5) (hu : u ∈ ze ss t.st) : rkT ss u<rkT ss t:=by
 unfold rkT
 rw [if_pos h5]
 split
 ·rename_i hu5
  have hk : Kid ss t.st u.st:=⟨u,hu,hu5,rfl⟩
  have hin:=Zi hg hk
  have:=Vj (p:=fun j : Nat=>decide (Rch ss u.st (j : Int))) (q:=fun j : Nat=>decide (Rch ss t.st (j : Int))) (l:=List.range ss.length)
   (fun x _ hx=>decide_eq_true (Rch.trans (.one hk) (of_decide_eq_true hx)))
   ⟨u.st.toNat,List.mem_range.2 (by omega),decide_eq_false (by rw [Int.toNat_of_nonneg hin.1];exact hac _),decide_eq_true (by rw [Int.toNat_of_nonneg hin.1];exact .one hk)⟩
  unfold rkS
  omega
 ·omega
def xj : List Nat→Nat
 |[]=>0
 |x::l=>x+xj l
theorem ZX : ∀ (a b : List Nat),xj (a++b)=xj a+xj b
 |[],b=>by simp [xj]
 |x::a,b=>by simp only [List.cons_append,xj,ZX a b];omega
def wF (ss : List StD) : Nat→TyD→Nat
 |0,_=>1
 |m+1,t=>if t.k=5 then xj ((ze ss t.st).map (wF ss m)) else 1
def dF (ss : List StD) : Nat→TyD→Bool
 |0,t=>decide (t.k=3)
 |m+1,t=>if t.k=5 then (ze ss t.st).any (dF ss m) else decide (t.k=3)
def xR (n : Nat) (p : Nat→Bool) : Nat:=((List.range n).find? p).getD n
theorem acF {n : Nat} {p : Nat→Bool} (h : ∀ j,j<n→p j=false) : xR n p=n:=by
 rw [xR,List.find?_eq_none.2 (by intro x hx;rw [h x (List.mem_range.1 hx)];decide)];rfl
theorem acG {n i : Nat} {p : Nat→Bool} (hi : i<n) (hp : p i=true) (h : ∀ j,j<i→p j=false) : xR n p=i:=by
 have : (List.range n).find? p=some i:=by
  rw [List.find?_range_eq_some]
  exact ⟨hp,List.mem_range.2 hi,fun j hj=>by rw [h j hj];rfl⟩
 rw [xR,this];rfl
theorem kW {n : Nat} {p : Nat→Bool} (h : ¬ xR n p<n) : ∀ j,j<n→p j=false:=by
 intro j hj
 by_cases hp : ∀ j,j<n→p j=false
 ·exact hp j hj
 ·exfalso
  apply h
  unfold xR
  cases hf : (List.range n).find? p with
  |none=>
   exfalso;apply hp
   intro j hj
   have:=List.find?_eq_none.1 hf j (List.mem_range.2 hj)
   simpa using this
  |some x=>exact List.mem_range.1 (List.mem_of_find?_eq_some hf)
def qj (ss : List StD) (k : Nat) : Bool:=
 (decide ((ze ss k).length<1)||decide (8<(ze ss k).length))||(ze ss k).any fun t=>!zO ss.length 48 t||decide (0<t.regs.length)
open Classical in
noncomputable def vh (ss : List StD) (k : Nat) : Bool:=decide (Rch ss k k)
def QE (ss : List StD) (k : Nat) : Bool:=decide (16<wF ss 40 (.mk 5 false 0 k []))
noncomputable def zU (ss : List StD) : Int × Int:=
 if 32<ss.length then (32,2)
 else if xR ss.length (qj ss)<ss.length then (xR ss.length (qj ss),2)
 else if xR ss.length (vh ss)<ss.length then (xR ss.length (vh ss),2)
 else if xR ss.length (QE ss)<ss.length then (xR ss.length (QE ss),2)
 else (0,0)
theorem kN {ss : List StD} {i : Nat} (hi : i<ss.length) : ze ss i=ss[i].fs.map (·.2):=by
 rw [ze,Int.toNat_natCast,List.getElem?_eq_getElem hi]
theorem Vk {ss : List StD} {i : Nat} (hi : i<ss.length) : (ze ss i).length=ss[i].fs.length:=by
 rw [kN hi,List.length_map]
theorem Vl {ss : List StD} {k : Int} (h : ¬ k.toNat<ss.length) : ze ss k = []:=by
 rw [ze,List.getElem?_eq_none (by omega)]
theorem JX {ss : List StD} (h : ∀ k,k<ss.length→qj ss k=false) : jj ss:=by
 intro k t ht
 by_cases hk : k.toNat<ss.length
 ·have:=h k.toNat hk
  have e : ze ss (k.toNat : Int)=ze ss k:=by rw [ze,ze,Int.toNat_natCast]
  rw [qj,e,Bool.or_eq_false_iff] at this
  have:=List.any_eq_false.1 this.2 t ht
  simp only [Bool.or_eq_true,Bool.not_eq_true',not_or] at this
  simpa using this.1
 ·rw [Vl hk] at ht;cases ht
theorem abw {ss : List StD} (hg : jj ss) (h : ∀ k,k<ss.length→vh ss k=false) : ∀ k,¬ Rch ss k k:=by
 intro k hk
 have hin:=acE hg hk
 have:=h k.toNat (by omega)
 rw [vh,decide_eq_false_iff_not,Int.toNat_of_nonneg hin.1] at this
 exact this hk
theorem kX {ss : List StD} (h : (zU ss).2=0) : ss.length≤32∧(∀ k,k<ss.length→qj ss k=false)∧jj ss∧(∀ k,¬ Rch ss k k)∧(∀ k,k<ss.length→QE ss k=false)∧zU ss=(0,0):=by
 unfold zU at h ⊢
 split at h
 ·cases h
 split at h
 ·cases h
 split at h
 ·cases h
 split at h
 ·cases h
 rename_i h1 h2 h3 h4
 have g:=JX (kW h2)
 refine ⟨by omega,kW h2,g,abw g (kW h3),kW h4,?_⟩
 rw [if_neg h1,if_neg h2,if_neg h3,if_neg h4]
end Go.Proofs
end
section
namespace Go.Proofs
open Go.Sh
set_option maxRecDepth 100000
set_option linter.unusedSimpArgs false
set_option linter.unusedVariables false
theorem acH {α : Type} (f : α→Nat) {l : List α} {i : Nat} (hi : i<l.length) : xj ((l.take (i+1)).map f)=xj ((l.take i).map f)+f l[i]:=by
 rw [List.take_succ_eq_append_getElem hi,List.map_append,ZX];simp [xj]
theorem aey {α : Type} (f : α→Nat) (l : List α) (i : Nat) : xj ((l.take i).map f)≤xj (l.map f):=by
 have:=congrArg (fun l=>xj (l.map f)) (List.take_append_drop i l)
 simp only [List.map_append,ZX] at this
 rw [← this]
 exact Nat.le_add_right _ _
theorem QF {r : Gh} {c : List Value} {s : ByteArray} {t : TyD} (h : TyG r (.agg c.toArray) t) : ∀ u ∈ (Value.string s::c).toArray.toList,u.oneCell'=true:=by
 intro u hu
 rcases List.mem_cons.1 (by simpa using hu) with rfl|hu
 ·rfl
 ·exact aex h u (by simpa using hu)
theorem _root_.Go.Sh.StX.fty {X : Nat→Prop} {w0 w : World} {r : Gh} {L : List Asr} {f : List Value→List Asr} {T : TypeId} {b : Nat} {s : ByteArray} {c : List Value} (S : StX X w0 r w L) [h : At b L (.string s::c) T f] (hc : c.length=5) {K : Value→Prop} (k : K (.agg c.toArray)) :
  opQ Tryz.prog w (Instr.loadAt 57 (.pointer (some ⟨b,0+1,none⟩))) K:=
 S.ldN (h:=h) (n:=5) (vs:=c) k (by rw [List.drop_succ_cons,List.drop_zero,List.take_of_length_le (by omega)]) hc
theorem VI {ss : List StD} {p : Option Addr} {cap : Nat} (hg : jj ss) (hac : ∀ k,¬ Rch ss k k) : ∀ (m : Nat) {t : TyD} {w : World} {r : Gh} {v : Value} {K : Value→World→Prop},m≤100→rkT ss t≤m→zO ss.length 48 t=true→ss.length≤32→(∀ k,(ze ss k).length≤8)→
  Holds r w→StG r p ss→TyG r v t→(∀ w',Ext w w'→K (.int .i64 (min (wF ss m t) 17 : Nat)) w')→zd Tryz.prog Tryz.qB #[.slice p ss.length cap,v] w K:=by
 intro m
 induction m with
 |zero=>
  intro t w r v K _ hrk hl h32 h8 hr hs hv h
  have h5 : ¬ t.k=5:=fun h=>by unfold rkT at hrk;rw [if_pos h] at hrk;omega
  refine Tryz.Ya ?_
  unfold Tryz.ve
  obtain ⟨p1,cap1,rfl,_⟩:=hv
  have S:=St.start hr
  refine S.box fun b3 w1 S=>?_
  refine gG_ ?_
  refine zg (fun _=>h _ S.ext) (fun hn=>absurd (by omega) h5)
 |succ m ih=>
  intro t w r v K hm hrk hl h32 h8 hr hs hv h
  refine Tryz.Ya ?_
  unfold Tryz.ve
  obtain ⟨p1,cap1,rfl,_⟩:=hv
  have S:=St.start hr
  refine S.box fun b3 w1 S=>?_
  refine gG_ ?_
  refine zg (fun hn=>?_) (fun h5=>?_)
  ·rw [wF,if_neg (by omega)] at h
   exact h _ S.ext
  have h5 : t.k=5:=by omega
  obtain ⟨hst0,hst1,_⟩:=Yh hl h5
  have hlt : t.st.toNat<ss.length:=by omega
  obtain ⟨b,off,q,capq,rfl,hcell,_,_,hf⟩:=vG hs hlt
  refine gG_ ?_
  refine zG (S.at hcell) ?_
  have htl : ze ss t.st=ss[t.st.toNat].fs.map (·.2):=by
   rw [← kN hlt];simp only [ze,Int.toNat_natCast]
  have hlen : (ze ss t.st).length=ss[t.st.toNat].fs.length:=by rw [htl,List.length_map]
  have h88:=h8 t.st
  refine gG_ ?_
  refine zk (ι:=Nat) (fun i=>[.int .i64 (xj (((ze ss t.st).take i).map (wF ss m)) : Nat),.int .i64 i]) (fun i w'=>i≤(ze ss t.st).length∧xj (((ze ss t.st).take i).map (wF ss m))≤16∧St w r w' _)
   (fun i=>(ze ss t.st).length - i) 0 rfl ⟨Nat.zero_le _,by simp [xj],S⟩ ?_
  clear S
  rintro i d w2 ⟨hi,hsum,S⟩ K6 hK6
  rw [List.getD_cons_zero,List.getD_cons_succ,List.getD_cons_zero]
  refine gG_ ?_
  refine c_b (fun hlt2=>?_) (fun hge=>?_)
  ·have hlt2 : i<ss[t.st.toNat].fs.length:=by simpa using hlt2
   have hlt3 : i<(ze ss t.st).length:=by omega
   obtain ⟨b2,off2,c,rfl,hcl,hcc,hty⟩:=YA hf hlt2
   refine gG_ ?_
   refine zt (n:=6) (c:=.string ss[t.st.toNat].fs[i].1::c) (by simp [hcl]) (fun j v hj=>by rw [Int.toNat_natCast];exact S.at (hcc j v hj)) ?_
   refine S.al fun b7 w3 S=>?_
   refine S.stB (cs:=(Value.string ss[t.st.toNat].fs[i].1::c).toArray) (fun w4 S=>?_) rfl (by simp [hcl]) (QF hty)
   refine gP_ ?_
   refine S.fty hcl ?_
   have hel : (ze ss t.st)[i]=ss[t.st.toNat].fs[i].2:=by simp only [htl,List.getElem_map]
   have hmem : ss[t.st.toNat].fs[i].2 ∈ ze ss t.st:=by rw [← hel];exact List.getElem_mem hlt3
   have hrk2:=aen hg hac h5 hmem
   refine ih (by omega) (by omega) (hg _ _ hmem) h32 h8 S.holds hs hty fun w5 e5=>?_
   have S:=(S.go e5).tl
   have hst:=acH (wF ss m) hlt3
   rw [hel] at hst
   refine gP_ ?_
   refine gP_ ?_
   have htot : xj (((ze ss t.st).take (i+1)).map (wF ss m))≤wF ss (m+1) t:=by
    rw [wF,if_pos h5];exact aey _ _ _
   refine c_b (fun hbig=>?_) (fun hsm=>?_)
   ·have hbig : 16<xj (((ze ss t.st).take i).map (wF ss m))+min (wF ss m ss[t.st.toNat].fs[i].2) 17:=by
     have:=of_decide_eq_true hbig;omega
    have e : min (wF ss (m+1) t) 17=17:=by omega
    rw [e] at h
    exact h _ S.ext
   ·have hsm : ¬ 16<xj (((ze ss t.st).take i).map (wF ss m))+min (wF ss m ss[t.st.toNat].fs[i].2) 17:=by
     have:=of_decide_eq_false hsm;omega
    refine gP_ ?_
    have e : (xj (((ze ss t.st).take i).map (wF ss m)) : Int)+((min (wF ss m ss[t.st.toNat].fs[i].2) 17 : Nat) : Int)=(xj (((ze ss t.st).take (i+1)).map (wF ss m)) : Nat):=by omega
    rw [e,show ((i : Int)+1)=((i+1 : Nat) : Int) by omega]
    exact hK6 (i+1) _ ⟨hlt3,by omega,S⟩ (by omega)
  ·have hie : i=(ze ss t.st).length:=by
    have : ¬ i<ss[t.st.toNat].fs.length:=by simpa using hge
    omega
   rw [hie,List.take_length] at hsum ⊢
   have e : min (wF ss (m+1) t) 17=xj ((ze ss t.st).map (wF ss m)):=by
    rw [wF,if_pos h5];omega
   rw [e] at h
   exact h _ S.ext
def mt (met : List Bool) (j : Int) : Bool:=met.getD j.toNat false
def cf : List Bool→Nat
 |[]=>0
 |b::l=>(if b then 0 else 1)+cf l
theorem acI : ∀ {l : List Bool} {i : Nat},l[i]? = some false→cf (l.set i true)+1=cf l
 |[],i,h=>by simp at h
 |b::l,0,h=>by
  simp only [List.getElem?_cons_zero,Option.some.injEq] at h
  subst h
  simp [cf];omega
 |b::l,i+1,h=>by
  have:=acI (l:=l) (i:=i) (by simpa using h)
  simp only [List.set_cons_succ,cf];omega
theorem afh {met : List Bool} {i j : Int} (hi : 0≤i) (hj : 0≤j) (hlt : i.toNat<met.length) : mt (met.set i.toNat true) j=(decide (j=i)||mt met j):=by
 unfold mt
 rw [List.getD_eq_getElem?_getD,List.getD_eq_getElem?_getD,List.getElem?_set]
 by_cases h : i.toNat=j.toNat
 ·have : j=i:=by omega
  subst this
  simp [hlt]
 ·have : ¬ j=i:=fun e=>h (by rw [e])
  rw [if_neg h];simp [this]
structure QI (ss : List StD) (k : Int) (N : Nat) (W : List Int) (met : List Bool) (x : Option (Int × Nat)) : Prop where
 len : met.length=N
 dom : ss.length≤N
 rng : ∀ y ∈ W,0≤y∧y<ss.length
 s1 : ∀ j,0≤j→mt met j=true→Rch ss k j
 s2 : ∀ y ∈ W,y=k∨mt met y=true
 s3 : ∀ y,0≤y→(y=k∨mt met y=true)→y ∉ W→(∀ q,x=some q→y≠q.1)→∀ j,Kid ss y j→mt met j=true
 s4 : ∀ q,x=some q→(q.1=k∨Rch ss k q.1)∧∀ t ∈ (ze ss q.1).take q.2,t.k=5→mt met t.st=true
theorem QI.start {ss : List StD} {k : Int} {N : Nat} (hd : ss.length≤N) (h0 : 0≤k) (h1 : k<ss.length) : QI ss k N [k] (List.replicate N false) none:=by
 have hm : ∀ j,mt (List.replicate N false) j=false:=fun j=>by
  unfold mt;rw [List.getD_eq_getElem?_getD,List.getElem?_replicate];split<;>rfl
 refine ⟨List.length_replicate,hd,by simp;omega,fun j _ h=>?_,by simp,fun y _ h hn=>?_,fun q h=>by cases h⟩
 ·rw [hm] at h;cases h
 ·rcases h with rfl|h
  ·simp at hn
  ·rw [hm] at h;cases h
theorem QI.pop {ss : List StD} {k x : Int} {N : Nat} {W : List Int} {met : List Bool} (h : QI ss k N (x::W) met none) : QI ss k N W met (some (x,0)):=by
 have hx:=h.rng x List.mem_cons_self
 refine ⟨h.len,h.dom,fun y hy=>h.rng y (List.mem_cons_of_mem _ hy),h.s1,fun y hy=>h.s2 y (List.mem_cons_of_mem _ hy),fun y hy hk hn hx j hj=>?_,fun q hq=>?_⟩
 ·refine h.s3 y hy hk ?_ (fun q hq=>by cases hq) j hj
  intro hm
  rcases List.mem_cons.1 hm with rfl|hm
  ·exact hx _ rfl rfl
  ·exact hn hm
 ·cases hq
  refine ⟨(h.s2 x List.mem_cons_self).imp id (h.s1 x hx.1),by simp⟩
theorem QI.skip {ss : List StD} {k x : Int} {N i : Nat} {W : List Int} {met : List Bool} (h : QI ss k N W met (some (x,i))) (hi : i<(ze ss x).length) (hs : (ze ss x)[i].k=5→mt met (ze ss x)[i].st=true) : QI ss k N W met (some (x,i+1)):=by
 refine ⟨h.len,h.dom,h.rng,h.s1,h.s2,fun y hy hk hn hx j hj=>h.s3 y hy hk hn (fun q hq=>by cases hq;exact hx (x,i+1) rfl) j hj,fun q hq=>?_⟩
 cases hq
 have:=h.s4 _ rfl
 refine ⟨this.1,fun t ht h5=>?_⟩
 simp only at ht
 rw [List.take_succ_eq_append_getElem hi,List.mem_append,List.mem_singleton] at ht
 rcases ht with ht|rfl
 ·exact this.2 t ht h5
 ·exact hs h5
theorem QI.push {ss : List StD} {k x : Int} {N i : Nat} {W : List Int} {met : List Bool} (hg : jj ss) (h : QI ss k N W met (some (x,i))) (hi : i<(ze ss x).length) (h5 : (ze ss x)[i].k=5) :
  QI ss k N (W ++ [(ze ss x)[i].st]) (met.set (ze ss x)[i].st.toNat true) (some (x,i+1)):=by
 have hk : Kid ss x (ze ss x)[i].st:=⟨_,List.getElem_mem hi,h5,rfl⟩
 have hin:=Zi hg hk
 have hd:=h.dom
 have hlen:=h.len
 have hms : ∀ j,0≤j→mt (met.set (ze ss x)[i].st.toNat true) j=(decide (j=(ze ss x)[i].st)||mt met j):=fun j hj=>afh hin.1 hj (by omega)
 refine ⟨by rw [List.length_set];exact h.len,h.dom,fun y hy=>?_,fun j hj hm=>?_,fun y hy=>?_,fun y hy hyk hn hx j hj=>?_,fun q hq=>?_⟩
 ·rcases List.mem_append.1 hy with hy|hy
  ·exact h.rng y hy
  ·rw [List.mem_singleton.1 hy];exact hin
 ·rw [hms j hj,Bool.or_eq_true,decide_eq_true_eq] at hm
  rcases hm with rfl|hm
  ·rcases (h.s4 _ rfl).1 with hx|hx
   ·have hx : x=k:=hx
    rw [← hx];exact .one hk
   ·exact .more hx hk
  ·exact h.s1 j hj hm
 ·rcases List.mem_append.1 hy with hy|hy
  ·refine (h.s2 y hy).imp id fun hm=>?_
   rw [hms y (h.rng y hy).1,hm,Bool.or_true]
  ·rw [List.mem_singleton.1 hy,hms _ hin.1];simp
 ·have hj0:=(Zi hg hj).1
  rw [hms j hj0]
  rw [hms y hy,Bool.or_eq_true,decide_eq_true_eq] at hyk
  have hnw : y ∉ W:=fun hm=>hn (List.mem_append_left _ hm)
  have hne : y≠(ze ss x)[i].st:=fun e=>hn (by rw [e];exact List.mem_append_right _ List.mem_cons_self)
  rw [h.s3 y hy (hyk.imp id fun hh=>hh.resolve_left hne) hnw (fun q hq=>by cases hq;exact hx (x,i+1) rfl) j hj,Bool.or_true]
 ·cases hq
  have:=h.s4 _ rfl
  refine ⟨this.1,fun t ht h5'=>?_⟩
  simp only at ht
  rw [List.take_succ_eq_append_getElem hi,List.mem_append,List.mem_singleton] at ht
  rcases ht with ht|rfl
  ·have ht0:=(Zi hg (k:=x) ⟨t,List.mem_of_mem_take ht,h5',rfl⟩).1
   rw [hms _ ht0,this.2 t ht h5',Bool.or_true]
  ·rw [hms _ hin.1];simp
theorem QI.done {ss : List StD} {k x : Int} {N i : Nat} {W : List Int} {met : List Bool} (h : QI ss k N W met (some (x,i))) (hi : (ze ss x).length≤i) : QI ss k N W met none:=by
 refine ⟨h.len,h.dom,h.rng,h.s1,h.s2,fun y hy hk hn _ j hj=>?_,fun q hq=>by cases hq⟩
 by_cases hyx : y=x
 ·subst hyx
  obtain ⟨t,ht,h5,rfl⟩:=hj
  have:=(h.s4 _ rfl).2 t (by simp only;rw [List.take_of_length_le hi];exact ht) h5
  exact this
 ·exact h.s3 y hy hk hn (fun q hq=>by cases hq;exact hyx) j hj
theorem QI.all {ss : List StD} {k : Int} {N : Nat} {met : List Bool} (hg : jj ss) (h0 : 0≤k) (h : QI ss k N [] met none) {j : Int} (hr : Rch ss k j) : mt met j=true:=by
 induction hr with
 |one e=>exact h.s3 k h0 (.inl rfl) (by simp) (fun q hq=>by cases hq) _ e
 |more hr e ih=>exact h.s3 _ (acE hg hr).1 (.inr ih) (by simp) (fun q hq=>by cases hq) _ e
open Classical in
theorem aez {ss : List StD} {k : Nat} {b : Bool} (h1 : b=true→Rch ss k k) (h2 : Rch ss k k→b=true) : b=vh ss k:=by
 rw [vh]
 by_cases hr : Rch ss k k
 ·rw [decide_eq_true hr];exact h2 hr
 ·rw [decide_eq_false hr]
  cases b
  ·rfl
  ·exact absurd (h1 rfl) hr
def kY (l : List Bool) : List Value:=l.map .bool
theorem acJ (l : List Bool) : (kY l).length=l.length:=List.length_map ..
theorem aaB {l : List Bool} {j : Int} (h : j.toNat<l.length) : (kY l)[j.toNat]? = some (.bool (mt l j)):=by
 unfold kY mt
 rw [List.getElem?_map,List.getD_eq_getElem?_getD,List.getElem?_eq_getElem h];rfl
theorem Jh {ss : List StD} {p : Option Addr} {cap k : Nat} (hg : jj ss) (h32 : ss.length≤32) (hk : k<ss.length) (h8 : ∀ k,(ze ss k).length≤8) {w : World} {r : Gh} {K : Value→World→Prop} (hr : Holds r w) (hs : StG r p ss)
  (h : ∀ w',Ext w w'→K (.bool (vh ss k)) w') : zd Tryz.prog Tryz.je #[.slice p ss.length cap,.int .i64 k] w K:=by
 refine Tryz.QA ?_
 unfold Tryz.ZI
 have S:=St.start hr
 refine S.al fun b5 w1 S=>?_
 refine S.lit (e:=3) (cs:=[.int .i64 k]) (by kernel_rfl) fun b11 w2 S=>?_
 have S:=S.toRow 1 1 rfl (by decide)
 have S:=S.toQue (.slice (some ⟨b11,0,none⟩) 1 1)
 have S : StX noX w r w2 [.que (.slice (some ⟨b11,0,none⟩) 1 1) 3 1 [(k : Int)].length (ints [(k : Int)]),.cell b5 (kY (List.replicate 32 false)) 192]:=S
 refine zk (ι:=List Int × List Bool × Value) (fun i=>[i.2.2]) (fun i w'=>QI ss k 32 i.1 i.2.1 none∧2*cf i.2.1+i.1.length≤65∧StX noX w r w' [.que i.2.2 3 1 i.1.length (ints i.1),.cell b5 (kY i.2.1) 192])
  (fun i=>2*cf i.2.1+i.1.length) ([(k : Int)],List.replicate 32 false,_) rfl ⟨QI.start h32 (by omega) (by omega),(show 2*cf (List.replicate 32 false)+1≤65 by decide),S⟩ ?_
 clear S
 rintro ⟨W,met,vq⟩ d w3 ⟨hq,h65,S⟩ K3 hK3
 simp only at hq h65 S ⊢
 rw [List.getD_cons_zero]
 obtain ⟨pq,capq,rfl,hp0,hcq,_,hsl⟩:=S.queS vq
 refine gP_ ?_
 refine gP_ ?_
 refine c_b (fun hpos=>?_) (fun hz=>?_)
 ·have hpos : 0<W.length:=by simpa using hpos
  cases W with
  |nil=>simp at hpos
  |cons x W=>
   obtain ⟨bq,oq,rfl,hcell⟩:=JV hsl hpos
   have hx:=hq.rng x List.mem_cons_self
   refine gP_ ?_
   refine zG (by simpa using hcell) ?_
   refine S.loQ (by omega) (by omega) hpos fun v' S=>?_
   have S : StX noX w r w3 [.que v' 3 1 W.length (ints W),.cell b5 (kY met) 192]:=S
   have hxn : x.toNat<ss.length:=by omega
   obtain ⟨bs',os',q,capf,rfl,hcs,_,_,hf⟩:=vG hs hxn
   refine gP_ ?_
   refine gP_ ?_
   refine zG (S.at hcs) ?_
   refine gP_ ?_
   have htl : ze ss x=ss[x.toNat].fs.map (·.2):=by
    rw [← kN hxn];simp only [ze,Int.toNat_natCast]
   have hlen : (ze ss x).length=ss[x.toNat].fs.length:=by rw [htl,List.length_map]
   have h88:=h8 x
   refine zk (ι:=Nat × List Int × List Bool × Value) (fun i=>[i.2.2.2,.int .i64 i.1]) (fun i w'=>i.1≤(ze ss x).length∧QI ss k 32 i.2.1 i.2.2.1 (some (x,i.1))∧2*cf i.2.2.1+i.2.1.length≤2*cf met+W.length∧
    StX noX w r w' [.que i.2.2.2 3 1 i.2.1.length (ints i.2.1),.cell b5 (kY i.2.2.1) 192]) (fun i=>(ze ss x).length - i.1) (0,W,met,v') rfl ⟨Nat.zero_le _,hq.pop,Nat.le_refl _,S⟩ ?_
   clear S
   rintro ⟨i,W',met',vq'⟩ d w4 ⟨hi,hq',hme,S⟩ K7 hK7
   simp only at hi hq' hme S ⊢
   rw [List.getD_cons_zero,List.getD_cons_succ,List.getD_cons_zero]
   refine gP_ ?_
   refine c_b (fun hlt2=>?_) (fun hge=>?_)
   ·have hlt2 : i<ss[x.toNat].fs.length:=by simpa using hlt2
    have hlt3 : i<(ze ss x).length:=by omega
    have hel : (ze ss x)[i]=ss[x.toNat].fs[i].2:=by simp only [htl,List.getElem_map]
    refine zA (fun s w'=>∃ W2 met2 v2,s = [v2]∧QI ss k 32 W2 met2 (some (x,i+1))∧2*cf met2+W2.length≤2*cf met'+W'.length∧StX noX w r w' [.que v2 3 1 W2.length (ints W2),.cell b5 (kY met2) 192]) (fun K11 hK11=>?_) ?_
    ·obtain ⟨b2,off2,c,rfl,hcl,hcc,hty⟩:=YA hf hlt2
     refine gP_ ?_
     refine zt (n:=6) (c:=.string ss[x.toNat].fs[i].1::c) (by simp [hcl]) (fun j v hj=>by rw [Int.toNat_natCast];exact S.at (hcc j v hj)) ?_
     refine S.al fun b9 w5 S=>?_
     refine S.stB (cs:=(Value.string ss[x.toNat].fs[i].1::c).toArray) (fun w6 S=>?_) rfl (by simp [hcl]) (QF hty)
     obtain ⟨pt,capt,rfl,_⟩:=QD hty
     have S : StX noX w r w6 [.cell b9 [.string ss[x.toNat].fs[i].1,.int .u8 ss[x.toNat].fs[i].2.k,.bool ss[x.toNat].fs[i].2.m,.int .i64 ss[x.toNat].fs[i].2.re,.int .i64 ss[x.toNat].fs[i].2.st,.slice pt ss[x.toNat].fs[i].2.of.length capt] 86,.que vq' 3 1 W'.length (ints W'),.cell b5 (kY met') 192]:=S
     refine gG_ ?_
     rw [← hel]
     by_cases h5 : (ze ss x)[i].k=5
     ·have hkid : Kid ss x (ze ss x)[i].st:=⟨_,List.getElem_mem hlt3,h5,rfl⟩
      have hin:=Zi hg hkid
      have hml:=hq'.len
      refine zh (c:=mt met' (ze ss x)[i].st) (fun _ K2 hK2=>?_) ?_
      ·refine gG_ ?_
       rw [← hel]
       refine gP_ ?_
       refine S.ld (b:=b5) ?_ (by rw [Nat.zero_add,Nat.mul_one];exact aaB (by omega))
       exact hK2
      rw [show decide ((ze ss x)[i].k≠5)=false by simp [h5],Bool.false_or]
      refine c_b (fun hm=>?_) (fun hm=>?_)
      ·exact hK11 _ _ ⟨W',met',vq',rfl,hq'.skip hlt3 fun _=>hm,Nat.le_refl _,S.tl⟩
      ·refine gG_ ?_
       rw [← hel]
       refine gP_ ?_
       refine S.st (b:=b5) (fun w7 S=>?_) (by rw [acJ];omega)
       refine gG_ ?_
       rw [← hel]
       refine S.lit (e:=3) (cs:=[.int .i64 (ze ss x)[i].st]) (by kernel_rfl) fun b49 w8 S=>?_
       simp only [List.length_cons] at h65
       refine S.apQ (m:=1) (Sl.blk (S.blk b49)) (fun v50 w9 S=>?_) (by omega)
       have hset : mt met' (ze ss x)[i].st=false:=hm
       have hcf:=acI (l:=met') (i:=(ze ss x)[i].st.toNat) (by
        unfold mt at hset
        rw [List.getD_eq_getElem?_getD,List.getElem?_eq_getElem (by omega)] at hset
        rw [List.getElem?_eq_getElem (by omega)]
        simpa using hset)
       refine hK11 _ _ ⟨W' ++ [(ze ss x)[i].st],met'.set (ze ss x)[i].st.toNat true,v50,rfl,hq'.push hg hlt3 h5,by rw [List.length_append,List.length_singleton];omega,?_⟩
       have e1 : (kY met').set (0+(ze ss x)[i].st.toNat*1) (.bool true)=kY (met'.set (ze ss x)[i].st.toNat true):=by
        rw [Nat.zero_add,Nat.mul_one,kY,kY,List.map_set]
       rw [e1] at S
       rw [List.length_append,abg]
       exact S.tl.tl
     ·refine zh (c:=true) (fun hn=>absurd hn (by simp [h5])) ?_
      rw [Bool.or_true]
      refine c_t rfl ?_
      exact hK11 _ _ ⟨W',met',vq',rfl,hq'.skip hlt3 fun e=>absurd e h5,Nat.le_refl _,S.tl⟩
    ·rintro _ w5 ⟨W2,met2,v2,rfl,hq2,hme2,S⟩ d5
     rw [List.getD_cons_zero]
     refine gP_ ?_
     rw [show ((i : Int)+1)=((i+1 : Nat) : Int) by omega]
     exact hK7 (i+1,W2,met2,v2) _ ⟨hlt3,hq2,by simp only;omega,S⟩ (by simp only;omega)
   ·have hge : (ze ss x).length≤i:=by
     have : ¬ i<ss[x.toNat].fs.length:=by simpa using hge
     omega
    exact hK3 (W',met',vq') _ ⟨hq'.done hge,by simp only [List.length_cons] at h65 ⊢;omega,S⟩ (by simp only [List.length_cons];omega)
 ·have hz : W = []:=List.eq_nil_of_length_eq_zero (by
   have : ¬ 0<W.length:=by simpa using hz
   omega)
  subst hz
  have hml:=hq.len
  refine gP_ ?_
  refine S.ld (b:=b5) ?_ (by rw [Nat.zero_add,Nat.mul_one];exact aaB (by omega))
  have e : mt met (k : Int)=vh ss k:=aez (hq.s1 _ (by omega)) (hq.all hg (by omega))
  rw [e]
  exact h _ S.ext
end Go.Proofs
end
section
namespace Go.Proofs
open Go.Sh
set_option maxRecDepth 100000
set_option linter.unusedSimpArgs false
set_option linter.unusedVariables false
theorem vi {X : Nat→Prop} {w0 : World} {r : Gh} {L : List Asr} {n : Nat} {q : Nat→Bool} {fv : Value} (hn : n≤1000)
  (hf : ∀ (i : Nat),i<n→∀ {w : World} {K : Value→World→Prop},StX X w0 r w L→(∀ w',StX X w0 r w' L→K (.bool (q i)) w')→zQ Tryz.prog fv #[.int .i64 i] w K) {w : World} {K : Value→World→Prop} (S : StX X w0 r w L)
  (h : ∀ w',StX X w0 r w' L→K (.int .i64 (xR n q)) w') : zd Tryz.prog Tryz.j9 #[.int .i64 n,fv] w K:=by
 refine Tryz.JN ?_
 unfold Tryz.YS
 refine zk (ι:=Nat) (fun i=>[.int .i64 i]) (fun i w'=>i≤n∧(∀ j,j<i→q j=false)∧StX X w0 r w' L) (fun i=>n - i) 0 rfl ⟨Nat.zero_le _,fun j hj=>by omega,S⟩ ?_
 clear S
 rintro i d w1 ⟨hi,hq,S⟩ K6 hK6
 rw [List.getD_cons_zero]
 refine gP_ ?_
 refine c_b (fun hlt=>?_) (fun hge=>?_)
 ·have hlt : i<n:=by simpa using hlt
  refine hf i hlt S fun w2 S=>?_
  refine c_b (fun hy=>?_) (fun hno=>?_)
  ·have:=h _ S
   rwa [acG hlt hy hq] at this
  ·refine gP_ ?_
   rw [show ((i : Int)+1)=((i+1 : Nat) : Int) by omega]
   refine hK6 (i+1) _ ⟨hlt,fun j hj=>?_,S⟩ (by omega)
   by_cases hji : j=i
   ·rw [hji];exact hno
   ·exact hq j (by omega)
 ·have hge : i=n:=by
   have : ¬ i<n:=by simpa using hge
   omega
  have:=h _ S
  rwa [acF (fun j hj=>hq j (by omega))] at this
theorem j0 {X : Nat→Prop} {w0 : World} {r s : Gh} {L : List Asr} {p : Option Addr} {cap : Nat} {fs : List (ByteArray × TyD)} {g : TyD→Bool} {fv : Value} (hfl : FlG s p fs) [Le s r] (hb : fs.length≤1000000000)
  (hf : ∀ f ∈ fs,∀ {c : List Value} {w : World} {K : Value→World→Prop},c.length=5→TyG s (.agg c.toArray) f.2→StX X w0 r w L→(∀ w',StX X w0 r w' L→K (.bool (g f.2)) w')→zQ Tryz.prog fv #[.agg (.string f.1::c).toArray] w K)
  {w : World} {K : Value→World→Prop} (S : StX X w0 r w L) (h : ∀ w',StX X w0 r w' L→K (.bool ((fs.map (·.2)).any g)) w') : zd Tryz.prog Tryz.zF #[.slice p fs.length cap,fv] w K:=by
 refine Tryz.xQ ?_
 unfold Tryz.ys
 refine Tryz.kk ?_
 unfold Tryz.yJ
 refine gP_ ?_
 refine zk (ι:=Nat) (fun i=>[.int .i64 i]) (fun i w'=>i≤fs.length∧((fs.take i).map (·.2)).any g=false∧StX X w0 r w' L) (fun i=>fs.length - i) 0 rfl ⟨Nat.zero_le _,by simp,S⟩ ?_
 clear S
 rintro i d w1 ⟨hi,hq,S⟩ K6 hK6
 rw [List.getD_cons_zero]
 refine gP_ ?_
 refine c_b (fun hlt=>?_) (fun hge=>?_)
 ·have hlt : i<fs.length:=by simpa using hlt
  obtain ⟨b2,off2,c,rfl,hcl,hcc,hty⟩:=YA hfl hlt
  refine gP_ ?_
  refine zt (n:=6) (c:=.string fs[i].1::c) (by simp [hcl]) (fun j v hj=>by rw [Int.toNat_natCast];exact S.at (hcc j v hj)) ?_
  refine hf fs[i] (List.getElem_mem hlt) hcl hty S fun w2 S=>?_
  refine c_b (fun hy=>?_) (fun hno=>?_)
  ·refine gP_ ?_
   have:=h _ S
   have e : (fs.map (·.2)).any g=true:=List.any_eq_true.2 ⟨fs[i].2,List.mem_map.2 ⟨_,List.getElem_mem hlt,rfl⟩,hy⟩
   rw [e] at this
   rw [show decide ((i : Int)≥0)=true by simp]
   exact this
  ·refine gP_ ?_
   rw [show ((i : Int)+1)=((i+1 : Nat) : Int) by omega]
   refine hK6 (i+1) _ ⟨hlt,?_,S⟩ (by omega)
   rw [List.take_succ_eq_append_getElem hlt,List.map_append,List.any_append,hq]
   simp [hno]
 ·have hge : i=fs.length:=by
   have : ¬ i<fs.length:=by simpa using hge
   omega
  rw [hge,List.take_length] at hq
  refine gP_ ?_
  have:=h _ S
  rw [hq] at this
  exact this
theorem Yi {ss : List StD} (h : ∀ k,k<ss.length→qj ss k=false) (k : Int) : (ze ss k).length≤8:=by
 by_cases hk : k.toNat<ss.length
 ·have:=h k.toNat hk
  have e : ze ss (k.toNat : Int)=ze ss k:=by rw [ze,ze,Int.toNat_natCast]
  rw [qj,e,Bool.or_eq_false_iff,Bool.or_eq_false_iff] at this
  simp only [decide_eq_false_iff_not] at this
  omega
 ·rw [Vl hk];simp
section
variable {X : Nat→Prop} {w0 w : World} {r : Gh} {L : List Asr} {ss : List StD} {p : Option Addr} {cap b1 b4 : Nat} {f1 f4 : List Value→List Asr} {K : Value→World→Prop}
theorem X6 {k : Nat} (hk : k<ss.length) (hs : StG r p ss) (S : StX X w0 r w L) [At b1 L [.slice p ss.length cap] 22 f1] [At b4 L [.int .i64 (ss.length : Nat)] 3 f4] (h : ∀ w',StX X w0 r w' L→K (.bool (qj ss k)) w') :
  zQ Tryz.prog (.func (.func Tryz.xI) #[] #[.pointer (some ⟨b1,0,none⟩),.pointer (some ⟨b4,0,none⟩)]) #[.int .i64 k] w K:=by
 refine kE (by kernel_rfl) ?_
 refine Tryz.Xg (t0:=.int .i64 k) (t1:=.pointer (some ⟨b1,0,none⟩)) (t2:=.pointer (some ⟨b4,0,none⟩)) ?_
 unfold Tryz.vw
 refine gL_ ?_
 obtain ⟨b,off,q,capq,rfl,hcell,hq0,hqc,hf⟩:=vG hs hk
 refine gP_ ?_
 refine gP_ ?_
 refine zG (by rw [Int.toNat_natCast];exact S.at hcell) ?_
 refine gP_ ?_
 refine gP_ ?_
 have hlen:=Vk hk
 refine zh (c:=decide (8<(ze ss k).length)) (fun _ K2 hK2=>?_) ?_
 ·refine gP_ ?_
  refine gP_ ?_
  rw [show decide ((8 : Int)<(ss[k].fs.length : Int))=decide (8<(ze ss k).length) from decide_eq_decide.2 (by omega)]
  exact hK2
 refine aff (fun w'=>StX X w0 r w' L) (c:=(ze ss k).any fun t=>!zO ss.length 48 t||decide (0<t.regs.length)) (fun _=>S) (fun hsm2 K2 hK2=>?_) fun w9 S=>?_
 ·have hsm2 : ss[k].fs.length≤8:=by
   simp only [Bool.or_eq_false_iff,decide_eq_false_iff_not] at hsm2;omega
  refine gP_ ?_
  refine j0 (g:=fun t=>!zO ss.length 48 t||decide (0<t.regs.length)) hf (by omega) (fun f hfm {c} {w7} {K} hcl hty S hK=>?_) S fun w8 S=>?_
  ·refine abZ (by kernel_rfl) ?_
   refine Tryz.Yx ?_
   unfold Tryz.jv
   refine S.box fun b2 w8 S=>?_
   have S : StX X w0 r w8 (.cell b2 (.string f.1::c) 86::L):=S
   refine gP_ ?_
   refine S.fty hcl ?_
   refine S.ld (b:=b4) ?_ rfl
   refine Zh 48 (by decide) S.holds hty fun w9 e9=>?_
   have S:=S.go e9
   refine gP_ ?_
   refine xM (c:=decide (0<f.2.regs.length)) (fun hl K2 hK2=>?_) fun w10 e10=>?_
   ·have hl : zO ss.length 48 f.2=true:=by simpa using hl
    refine gP_ ?_
    refine S.fty hcl ?_
    refine ZL S.holds hty (by have:=XU hl;omega) fun v11 w11 e11 o11=>?_
    obtain ⟨p11,cap11,rfl,_⟩:=Xa o11
    refine gP_ ?_
    refine gP_ ?_
    rw [show decide ((f.2.regs.length : Int) > 0)=decide (0<f.2.regs.length) from decide_eq_decide.2 (by omega)]
    exact hK2 _ e11
   exact hK _ (S.go e10).tl
  ·rw [← kN hk]
   exact hK2 _ S
 ·have:=h _ S
  rw [qj] at this
  rw [show decide ((ss[k].fs.length : Int)<1)=decide ((ze ss k).length<1) from decide_eq_decide.2 (by omega)]
  exact this
theorem X7 {k : Nat} (hk : k<ss.length) (h32 : ss.length≤32) (h1 : ¬ xR ss.length (qj ss)<ss.length) (hs : StG r p ss) (S : StX X w0 r w L) [At b1 L [.slice p ss.length cap] 22 f1] (h : ∀ w',StX X w0 r w' L→K (.bool (vh ss k)) w') :
  zQ Tryz.prog (.func (.func Tryz.xJ) #[] #[.pointer (some ⟨b1,0,none⟩)]) #[.int .i64 k] w K:=by
 refine kE (by kernel_rfl) ?_
 refine Tryz.Xh (t0:=.int .i64 k) (t1:=.pointer (some ⟨b1,0,none⟩)) ?_
 unfold Tryz.vx
 refine gL_ ?_
 exact Jh (JX (kW h1)) h32 hk (fun k=>Yi (kW h1) k) S.holds hs fun w9 e9=>h _ (S.go e9)
theorem X8 {k : Nat} (hk : k<ss.length) (h32 : ss.length≤32) (h1 : ¬ xR ss.length (qj ss)<ss.length) (h2 : ¬ xR ss.length (vh ss)<ss.length) (hs : StG r p ss) (S : StX X w0 r w L) [At b1 L [.slice p ss.length cap] 22 f1] (h : ∀ w',StX X w0 r w' L→K (.bool (QE ss k)) w') :
  zQ Tryz.prog (.func (.func Tryz.xK) #[] #[.pointer (some ⟨b1,0,none⟩)]) #[.int .i64 k] w K:=by
 refine kE (by kernel_rfl) ?_
 refine Tryz.Xi (t0:=.int .i64 k) (t1:=.pointer (some ⟨b1,0,none⟩)) ?_
 unfold Tryz.vy
 refine gL_ ?_
 refine zz (cs:=#[.int .u8 5,.bool false,.int .i64 0,.int .i64 k,.slice none 0 0]) (by kernel_rfl) ?_
 have hg:=JX (kW h1)
 refine VI hg (abw hg (kW h2)) 40 (t:=.mk 5 false 0 k []) (by decide) (by have:=aem ss (.mk 5 false 0 k []);omega) ?_ (by omega) (fun k=>Yi (kW h1) k) S.holds hs (vO (r:=r)) fun w9 e9=>?_
 ·rw [vF]
  simp [TyD.k,TyD.m,TyD.re,TyD.of,TyD.st]
  omega
 ·refine gP_ ?_
  have:=h _ (S.go e9)
  rw [QE] at this
  rw [show decide ((((min (wF ss 40 (.mk 5 false 0 k [])) 17 : Nat) : Int)) > 16)=decide (16<wF ss 40 (.mk 5 false 0 k [])) from decide_eq_decide.2 (by omega)]
  exact this
end
theorem ZN {ss : List StD} {p : Option Addr} {cap : Nat} {w : World} {r : Gh} {K : Value→World→Prop} (hr : Holds r w) (hs : StG r p ss)
  (h : ∀ w',Ext w w'→K (.tuple #[.int .i64 (zU ss).1,.int .i64 (zU ss).2]) w') : zd Tryz.prog Tryz.kC #[.slice p ss.length cap] w K:=by
 refine Tryz.Qz ?_
 unfold Tryz.ZH
 have S:=St.start hr
 refine S.box fun b1 w1 S=>?_
 refine gL_ ?_
 refine gP_ ?_
 refine S.al fun b4 w2 S=>?_
 refine S.st fun w3 S=>?_
 refine gL_ ?_
 refine gP_ ?_
 refine c_b (fun hbig=>?_) (fun hsm=>?_)
 ·have hbig : 32<ss.length:=by have:=of_decide_eq_true hbig;omega
  rw [zU,if_pos hbig] at h
  exact h _ S.ext
 have hsm : ¬ 32<ss.length:=by have:=of_decide_eq_false hsm;omega
 rw [zU,if_neg hsm] at h
 refine gP_ ?_
 refine gP_ ?_
 refine gP_ ?_
 refine S.lit (e:=147) (cs:=[.func (.func Tryz.xI) #[] #[.pointer (some ⟨b1,0,none⟩),.pointer (some ⟨b4,0,none⟩)],.func (.func Tryz.xJ) #[] #[.pointer (some ⟨b1,0,none⟩)],.func (.func Tryz.xK) #[] #[.pointer (some ⟨b1,0,none⟩)]]) (by kernel_rfl) fun b16 w4 S=>?_
 refine gP_ ?_
 have S : StX noX w r w4 [.cell b16 [.func (.func Tryz.xI) #[] #[.pointer (some ⟨b1,0,none⟩),.pointer (some ⟨b4,0,none⟩)],.func (.func Tryz.xJ) #[] #[.pointer (some ⟨b1,0,none⟩)],.func (.func Tryz.xK) #[] #[.pointer (some ⟨b1,0,none⟩)]] 147,
  .cell b4 [.int .i64 (ss.length : Nat)] 3,.cell b1 [.slice p ss.length cap] 22]:=S
 refine zk (ι:=Nat) (fun i=>[.int .i64 i]) (fun i w'=>i≤3∧(0<i→¬ xR ss.length (qj ss)<ss.length)∧(1<i→¬ xR ss.length (vh ss)<ss.length)∧(2<i→¬ xR ss.length (QE ss)<ss.length)∧StX noX w r w' _) (fun i=>3 - i) 0 rfl
  ⟨by decide,fun h=>by omega,fun h=>by omega,fun h=>by omega,S⟩ ?_
 clear S
 rintro i d w5 ⟨hi,h1,h2,h3,S⟩ K6 hK6
 rw [List.getD_cons_zero]
 refine gP_ ?_
 match i,hi,h1,h2,h3 with
 |0,_,_,_,_=>
  refine c_t (by decide) ?_
  refine gP_ ?_
  refine S.ld (b:=b16) ?_ rfl
  refine S.ld (b:=b4) ?_ rfl
  refine vi (q:=qj ss) (by omega) (fun i hi {w} {K} S k=>X6 hi hs S k) S fun w9 S=>?_
  refine S.ld (b:=b4) ?_ rfl
  refine gP_ ?_
  refine c_b (fun hl=>?_) (fun hl=>?_)
  ·rw [if_pos (by have:=of_decide_eq_true hl;omega)] at h
   exact h _ S.ext
  ·refine gP_ ?_
   exact hK6 1 _ ⟨by decide,fun _=>by have:=of_decide_eq_false hl;omega,fun h=>by omega,fun h=>by omega,S⟩ (by decide)
 |1,_,h1,_,_=>
  have h1:=h1 (by decide)
  rw [if_neg h1] at h
  refine c_t (by decide) ?_
  refine gP_ ?_
  refine S.ld (b:=b16) ?_ rfl
  refine S.ld (b:=b4) ?_ rfl
  refine vi (q:=vh ss) (by omega) (fun i hi {w} {K} S k=>X7 hi (by omega) h1 hs S k) S fun w9 S=>?_
  refine S.ld (b:=b4) ?_ rfl
  refine gP_ ?_
  refine c_b (fun hl=>?_) (fun hl=>?_)
  ·rw [if_pos (by have:=of_decide_eq_true hl;omega)] at h
   exact h _ S.ext
  ·refine gP_ ?_
   exact hK6 2 _ ⟨by decide,fun _=>h1,fun _=>by have:=of_decide_eq_false hl;omega,fun h=>by omega,S⟩ (by decide)
 |2,_,h1,h2,_=>
  have h1:=h1 (by decide)
  have h2:=h2 (by decide)
  rw [if_neg h1,if_neg h2] at h
  refine c_t (by decide) ?_
  refine gP_ ?_
  refine S.ld (b:=b16) ?_ rfl
  refine S.ld (b:=b4) ?_ rfl
  refine vi (q:=QE ss) (by omega) (fun i hi {w} {K} S k=>X8 hi (by omega) h1 h2 hs S k) S fun w9 S=>?_
  refine S.ld (b:=b4) ?_ rfl
  refine gP_ ?_
  refine c_b (fun hl=>?_) (fun hl=>?_)
  ·rw [if_pos (by have:=of_decide_eq_true hl;omega)] at h
   exact h _ S.ext
  ·refine gP_ ?_
   exact hK6 3 _ ⟨by decide,fun _=>h1,fun _=>h2,fun _=>by have:=of_decide_eq_false hl;omega,S⟩ (by decide)
 |3,_,h1,h2,h3=>
  have h1:=h1 (by decide)
  have h2:=h2 (by decide)
  have h3:=h3 (by decide)
  rw [if_neg h1,if_neg h2,if_neg h3] at h
  refine c_f (by decide) ?_
  exact h _ S.ext
noncomputable def x7 (ss : List StD) (t : TyD) : Bool:=decide ((zU ss).2=0)&&zO ss.length 48 t
theorem Ji {ss : List StD} {t : TyD} (h : x7 ss t=true) : (zU ss).2=0∧zO ss.length 48 t=true:=by
 simpa [x7] using h
theorem ZY {ss : List StD} {t : TyD} {p : Option Addr} {cap : Nat} {w : World} {r : Gh} {v : Value} {K : Value→World→Prop} (hr : Holds r w) (hs : StG r p ss) (hv : TyG r v t)
  (h : ∀ w',Ext w w'→K (.bool (x7 ss t)) w') : zd Tryz.prog Tryz.qv #[.slice p ss.length cap,v] w K:=by
 refine Tryz.aaw ?_
 unfold Tryz.Qk
 have hv0:=hv
 obtain ⟨p1,cap1,rfl,_⟩:=hv
 have S:=St.start hr
 refine S.box fun b3 w1 S=>?_
 refine ZN S.holds hs fun w2 e2=>?_
 have S:=S.go e2
 refine gP_ ?_
 refine gP_ ?_
 refine gP_ ?_
 refine zm (c:=zO ss.length 48 t) (fun _ K2 hK2=>?_) fun w3 e3=>h _ (S.go e3).ext
 refine gL_ ?_
 refine gP_ ?_
 exact Zh 48 (by decide) S.holds hv0 fun w3 e3=>hK2 _ e3
theorem VJ {ss : List StD} {p : Option Addr} {cap : Nat} (hg : jj ss) (hac : ∀ k,¬ Rch ss k k) : ∀ (m : Nat) {t : TyD} {w : World} {r : Gh} {v : Value} {K : Value→World→Prop},m≤100→rkT ss t≤m→zO ss.length 48 t=true→ss.length≤32→(∀ k,(ze ss k).length≤8)→
  Holds r w→StG r p ss→TyG r v t→(∀ w',Ext w w'→K (.bool (dF ss m t)) w')→zd Tryz.prog Tryz.qC #[.slice p ss.length cap,v] w K:=by
 intro m
 induction m with
 |zero=>
  intro t w r v K _ hrk hl h32 h8 hr hs hv h
  have h5 : ¬ t.k=5:=fun h=>by unfold rkT at hrk;rw [if_pos h] at hrk;omega
  refine Tryz.Yd ?_
  unfold Tryz.vg
  obtain ⟨p1,cap1,rfl,_⟩:=hv
  have S:=St.start hr
  refine S.box fun b2 w1 S=>?_
  refine S.box fun b3 w2 S=>?_
  refine gG_ ?_
  refine c_b (fun h3=>?_) (fun h3=>?_)
  ·have:=h _ S.ext
   rwa [dF,h3] at this
  ·refine gG_ ?_
   refine c_b (fun h5'=>absurd (of_decide_eq_true h5') h5) (fun _=>?_)
   have:=h _ S.ext
   rwa [dF,h3] at this
 |succ m ih=>
  intro t w r v K hm hrk hl h32 h8 hr hs hv h
  refine Tryz.Yd ?_
  unfold Tryz.vg
  obtain ⟨p1,cap1,rfl,_⟩:=hv
  have S:=St.start hr
  refine S.box fun b2 w1 S=>?_
  refine S.box fun b3 w2 S=>?_
  refine gG_ ?_
  refine c_b (fun h3=>?_) (fun h3=>?_)
  ·have:=h _ S.ext
   have h3':=of_decide_eq_true h3
   rwa [dF,if_neg (by omega),h3] at this
  refine gG_ ?_
  refine c_b (fun h5=>?_) (fun h5=>?_)
  ·have h5 : t.k=5:=of_decide_eq_true h5
   obtain ⟨hst0,hst1,_⟩:=Yh hl h5
   have hlt : t.st.toNat<ss.length:=by omega
   obtain ⟨b,off,q,capq,rfl,hcell,_,_,hf⟩:=vG hs hlt
   refine gG_ ?_
   refine zG (S.at hcell) ?_
   have htl : ze ss t.st=ss[t.st.toNat].fs.map (·.2):=by
    rw [← kN hlt];simp only [ze,Int.toNat_natCast]
   have hlen : (ze ss t.st).length=ss[t.st.toNat].fs.length:=by rw [htl,List.length_map]
   have h88:=h8 t.st
   refine gP_ ?_
   refine j0 (g:=dF ss m) hf (by omega) (fun f hfm {c} {w7} {K} hcl hty S hK=>?_) S fun w8 S=>?_
   ·refine abZ (by kernel_rfl) ?_
    refine Tryz.QC ?_
    unfold Tryz.ZK
    refine S.box fun b4 w8 S=>?_
    have S : StX noX w r w8 (.cell b4 (.string f.1::c) 86::_):=S
    refine S.ld (b:=b2) ?_ rfl
    refine gP_ ?_
    refine S.fty hcl ?_
    have hmem : f.2 ∈ ze ss t.st:=by rw [htl];exact List.mem_map.2 ⟨f,hfm,rfl⟩
    have hrk2:=aen hg hac h5 hmem
    exact ih (by omega) (by omega) (hg _ _ hmem) h32 h8 S.holds hs hty fun w5 e5=>hK _ (S.go e5).tl
   ·rw [dF,if_pos h5,htl] at h
    exact h _ S.ext
  ·have:=h _ S.ext
   rwa [dF,if_neg (of_decide_eq_false h5),h3] at this
noncomputable def Zj (ss : List StD) (t : TyD) : Bool × Int:=if x7 ss t then (dF ss 40 t,0) else (false,2)
theorem VK {ss : List StD} {t : TyD} {p : Option Addr} {cap : Nat} {w : World} {r : Gh} {v : Value} {K : Value→World→Prop} (hr : Holds r w) (hs : StG r p ss) (hv : TyG r v t)
  (h : ∀ w',Ext w w'→K (.tuple #[.bool (Zj ss t).1,.int .i64 (Zj ss t).2]) w') : zd Tryz.prog Tryz.vc #[.slice p ss.length cap,v] w K:=by
 refine Tryz.JP ?_
 unfold Tryz.YU
 have hv0:=hv
 obtain ⟨p1,cap1,rfl,_⟩:=hv
 have S:=St.start hr
 refine S.box fun b3 w1 S=>?_
 refine gL_ ?_
 refine ZY S.holds hs hv0 fun w2 e2=>?_
 have S:=S.go e2
 refine gP_ ?_
 refine c_b (fun hn=>?_) (fun hn=>?_)
 ·have hn : x7 ss t=false:=by simpa using hn
  rw [Zj,hn] at h
  exact h _ S.ext
 have hn : x7 ss t=true:=by simpa using hn
 rw [Zj,if_pos hn] at h
 obtain ⟨hok,hl⟩:=Ji hn
 obtain ⟨h32,hb1,hg,hac,_,_⟩:=kX hok
 refine gL_ ?_
 refine VJ hg hac 40 (by decide) (by have:=aem ss t;omega) hl h32 (Yi hb1) S.holds hs hv0 fun w3 e3=>h _ (S.go e3).ext
end Go.Proofs
end
section
namespace Go.Proofs
open Go.Sh
set_option maxRecDepth 100000
set_option linter.unusedSimpArgs false
set_option linter.unusedVariables false
end Go.Proofs
end
section
namespace Go.Proofs
open Go.Sh
set_option maxRecDepth 100000
set_option linter.unusedSimpArgs false
set_option linter.unusedVariables false
end Go.Proofs
end
section
namespace Go.Proofs
open Go.Sh
set_option maxRecDepth 100000
set_option linter.unusedSimpArgs false
set_option linter.unusedVariables false
def un (gs : Nat→Gh) (i n : Nat) : Gh:=fun b o=>∃ j,i≤j∧j<n∧gs j b o
structure afi (top : Gh) (gs : Nat→Gh) (q : Option Addr) (ts : List TyD) : Prop where
 at' : ∀ (i : Nat) (hi : i<ts.length),∃ (b off : Nat) (c : List Value),q=some ⟨b,off,none⟩∧c.length=5∧(∀ j v,c[j]? = some v→Ob top fun w=>w.cell? ⟨b,off+i*5+j,none⟩=some v)∧TyG (gs i) (.agg c.toArray) ts[i]∧JU (gs i) (.agg c.toArray) ts[i]
 dis : ∀ i j,i≠j→i<ts.length→j<ts.length→Dis (gs i) (gs j)
 dtop : ∀ i,i<ts.length→Dis (gs i) top
def TysG (s : Gh) (q : Option Addr) (ts : List TyD) : Prop:=
 ∀ (i : Nat) (hi : i<ts.length),∃ (b off : Nat) (c : List Value),q=some ⟨b,off,none⟩∧c.length=5∧(∀ j v,c[j]? = some v→Ob s fun w=>w.cell? ⟨b,off+i*5+j,none⟩=some v)∧TyG s (.agg c.toArray) ts[i]
theorem ChnL.frz2 {X : Nat→Prop} {w0 w : World} {c : List Value} {t : TyD} {N : List Asr} (h : ChnL c t N) : ∀ {r : Gh} {L : List Asr},StX X w0 r w (N++L)→
  ∃ sn,StX X w0 (r.or sn) w L∧TyG sn (.agg c.toArray) t∧JU sn (.agg c.toArray) t∧(∀ b o,sn b o→w0.heap.size≤b∨X b)∧Dis sn r:=by
 induction h with
 |nil=>
  intro r L S
  exact ⟨nothing,S.to _,vO,.nil,fun _ _ h=>h.elim,fun _ _ _ h=>h.elim⟩
 |@one b c k re st m u N hu ih=>
  intro r L S
  have S : StX X w0 r w (N++(.cell b c 57::L)):=S.perm List.perm_middle.symm
  have hm0:=S.mine (.cell b c 57) (by simp) b rfl
  obtain ⟨sn,S,ht,hg,hf,hd⟩:=ih S
  have hm:=S.mine (.cell b c 57) (by simp) b rfl
  have S:=S.frz
  refine ⟨sn.or (Go.Sh.one b c 57),S.to _,afg ht,.one (fun o ho=>hm.2 o (.inr ho)) hu.len ht hg,fun b' o ho=>?_,fun b' o o' ho hr=>?_⟩
  ·rcases ho with ho|⟨rfl,_⟩
   ·exact hf b' o ho
   ·exact hm.1
  ·rcases ho with ho|⟨rfl,_⟩
   ·exact hd b' o o' ho hr
   ·exact hm0.2 o' hr
theorem aeA {c : List Value} {t : TyD} {N : List Asr} (h : ChnL c t N) : aal Tryz.prog 29 1 #[(0,.agg c.toArray)]=some (57,c):=by
 cases h<;>kernel_rfl
noncomputable def xq (ss : List StD) (t : TyD) : List TyD × Int:=if x7 ss t&&decide (t.k=5) then (ze ss t.st,0) else ([],2)
theorem JY {ss : List StD} {t : TyD} {p : Option Addr} {cap : Nat} {w : World} {r : Gh} {v : Value} {K : Value→World→Prop} (hr : Holds r w) (hs : StG r p ss) (hv : TyG r v t)
  (h : ∀ q cp top gs w',Ext w w'→New w (top.or (un gs 0 (xq ss t).1.length)) w'→afi top gs q (xq ss t).1→(xq ss t).1.length≤cp→K (.tuple #[.slice q (xq ss t).1.length cp,.int .i64 (xq ss t).2]) w') : zd Tryz.prog Tryz.jB #[.slice p ss.length cap,v] w K:=by
 refine Tryz.Jb ?_
 unfold Tryz.Yb
 have hv0:=hv
 obtain ⟨p1,cap1,rfl,_⟩:=hv
 have S:=St.start hr
 refine S.box fun b3 w1 S=>?_
 refine gL_ ?_
 refine ZY S.holds hs hv0 fun w2 e2=>?_
 have S:=S.go e2
 refine gP_ ?_
 refine zh (c:=decide (t.k≠5)) (fun _ K2 hK2=>?_) ?_
 ·refine gG_ ?_
  exact hK2
 refine c_b (fun hn=>?_) (fun hn=>?_)
 ·have hn : (x7 ss t&&decide (t.k=5))=false:=by
   cases hm : x7 ss t
   ·rfl
   ·rw [hm] at hn;simpa using hn
  rw [xq,hn] at h
  exact h none 0 nothing (fun _=>nothing) _ S.ext ⟨fun b o ho=>by rcases ho with ho|⟨_,_,_,ho⟩<;>exact ho.elim,fun b o ho=>by rcases ho with ho|⟨_,_,_,ho⟩<;>exact ho.elim⟩
   ⟨fun i hi=>by simp at hi,fun i j _ hi=>by simp at hi,fun i hi=>by simp at hi⟩ (Nat.le_refl _)
 have hn : x7 ss t=true∧t.k=5:=by
  cases hm : x7 ss t
  ·rw [hm] at hn;simp at hn
  ·rw [hm] at hn;exact ⟨rfl,by simpa using hn⟩
 obtain ⟨hm,h5⟩:=hn
 rw [xq,hm,decide_eq_true h5] at h
 simp only [Bool.and_true,if_true] at h
 obtain ⟨hok,hl⟩:=Ji hm
 obtain ⟨h32,hb1,hg,hac,_,_⟩:=kX hok
 obtain ⟨hst0,hst1,_⟩:=Yh hl h5
 have hlt : t.st.toNat<ss.length:=by omega
 obtain ⟨b,off,q,capq,rfl,hcell,_,_,hf⟩:=vG hs hlt
 have htl : ze ss t.st=ss[t.st.toNat].fs.map (·.2):=by
  rw [← kN hlt];simp only [ze,Int.toNat_natCast]
 have hlen : (ze ss t.st).length=ss[t.st.toNat].fs.length:=by rw [htl,List.length_map]
 have h88:=Yi hb1 t.st
 refine gG_ ?_
 refine zG (S.at hcell) ?_
 refine gP_ ?_
 have S:=S.tl
 have S:=S.ownNil 57 5
 have S:=S.to (r.or (un (fun _=>nothing) 0 0)) (l:=⟨fun b o ho=>by rcases ho with ho|⟨_,_,h2,_⟩;exact ho;omega⟩)
 refine zk (ι:=Nat × Value × List Value × (Nat→Gh)) (fun i=>[i.2.1,.int .i64 i.1]) (fun i w'=>i.1≤(ze ss t.st).length∧i.2.2.1.length=i.1*5∧
   (∀ j (hj : j<(ze ss t.st).length),j<i.1→((i.2.2.1.drop (j*5)).take 5).length=5∧TyG (i.2.2.2 j) (.agg ((i.2.2.1.drop (j*5)).take 5).toArray) (ze ss t.st)[j]∧JU (i.2.2.2 j) (.agg ((i.2.2.1.drop (j*5)).take 5).toArray) (ze ss t.st)[j])∧
   (∀ j,j<i.1→∀ b o,i.2.2.2 j b o→w.heap.size≤b)∧(∀ j k,j≠k→j<i.1→k<i.1→Dis (i.2.2.2 j) (i.2.2.2 k))∧StX noX w (r.or (un i.2.2.2 0 i.1)) w' [.row i.2.1 57 5 i.1 i.2.2.1])
  (fun i=>(ze ss t.st).length - i.1) (0,.slice none 0 0,[],fun _=>nothing) rfl ⟨Nat.zero_le _,rfl,fun j _ hj=>by omega,fun j hj=>by omega,fun j k _ hj=>by omega,S⟩ ?_
 clear S
 rintro ⟨i,v,xs,gs⟩ d w3 ⟨hi,hxl,hel,hfr,hdis,S⟩ K7 hK7
 simp only at hi hxl hel hfr hdis S ⊢
 rw [List.getD_cons_zero,List.getD_cons_succ,List.getD_cons_zero]
 refine gP_ ?_
 refine c_b (fun hlt2=>?_) (fun hge=>?_)
 ·have hlt2 : i<ss[t.st.toNat].fs.length:=by simpa using hlt2
  have hlt3 : i<(ze ss t.st).length:=by omega
  have hel2 : (ze ss t.st)[i]=ss[t.st.toNat].fs[i].2:=by simp only [htl,List.getElem_map]
  have hmem : ss[t.st.toNat].fs[i].2 ∈ ze ss t.st:=by rw [← hel2];exact List.getElem_mem hlt3
  obtain ⟨b2,off2,c,rfl,hcl,hcc,hty⟩:=YA hf hlt2
  refine gP_ ?_
  refine zt (n:=6) (c:=.string ss[t.st.toNat].fs[i].1::c) (by simp [hcl]) (fun j v hj=>by rw [Int.toNat_natCast];exact S.at (hcc j v hj)) ?_
  refine S.al fun b8 w4 S=>?_
  refine S.stB (b:=b8) (cs:=(Value.string ss[t.st.toNat].fs[i].1::c).toArray) (fun w5 S=>?_) rfl (by simp [hcl]) (QF hty)
  refine gP_ ?_
  refine S.fty hcl ?_
  refine abh (s:=ss.length) 48 (by decide) (hg _ _ hmem) S.tl hty.up fun c' N w6 hch S=>?_
  have hcl':=hch.len
  have hone':=hch.ones
  obtain ⟨sn,S,ht,hcg,hfn,hdn⟩:=hch.frz2 S
  refine S.lit (e:=57) (cs:=c') (aeA hch) fun b33 w7 S=>?_
  refine S.ap (m':=1) (Sl.blk (S.blk b33)) (fun v34 w8 S=>?_) (by omega) (by omega) (by simp) hone'
  have S:=S.tl
  refine gP_ ?_
  rw [show ((i : Int)+1)=((i+1 : Nat) : Int) by omega]
  refine hK7 (i+1,v34,xs++c',fun j=>if j=i then sn else gs j) _ ⟨hlt3,by simp only [List.length_append];omega,fun j hj hji=>?_,fun j hj b o ho=>?_,fun j k hjk hj hk=>?_,?_⟩ (by simp only;omega)
  ·by_cases hji' : j=i
   ·subst hji'
    simp only [if_true]
    have e : ((xs++c').drop (j*5)).take 5=c':=by
     rw [← hxl,List.drop_left',List.take_of_length_le (by omega)];rfl
    rw [e,hel2]
    exact ⟨hcl',ht,hcg⟩
   ·simp only [if_neg hji']
    have e : ((xs++c').drop (j*5)).take 5=(xs.drop (j*5)).take 5:=by
     rw [List.drop_append_of_le_length (by omega),List.take_append_of_le_length (by rw [List.length_drop];omega)]
    rw [e]
    exact hel j hj (by omega)
  ·simp only at ho
   split at ho
   ·exact (hfn b o ho).elim id fun h=>h.elim
   ·exact hfr j (by omega) b o ho
  ·simp only
   by_cases h1 : j=i
   ·rw [if_pos h1,if_neg (by omega)]
    exact fun b o o' ho ho'=>hdn b o o' ho (.inr ⟨k,Nat.zero_le _,by omega,ho'⟩)
   ·rw [if_neg h1]
    by_cases h2 : k=i
    ·rw [if_pos h2]
     exact fun b o o' ho ho'=>hdn b o' o ho' (.inr ⟨j,Nat.zero_le _,by omega,ho⟩)
    ·rw [if_neg h2]
     exact hdis j k hjk (by omega) (by omega)
  ·simp only
   exact S.to _ (l:=⟨fun b o ho=>by
    rcases ho with ho|⟨j,_,hj,ho⟩
    ·exact .inl (.inl ho)
    ·split at ho
     ·exact .inr ho
     ·exact .inl (.inr ⟨j,Nat.zero_le _,by omega,ho⟩)⟩)
 ·have hge : i=(ze ss t.st).length:=by
   have : ¬ i<ss[t.st.toNat].fs.length:=by simpa using hge
   omega
  subst hge
  have hpos : (ze ss t.st).length≠0:=by
   have:=hb1 t.st.toNat hlt
   have e : ze ss (t.st.toNat : Int)=ze ss t.st:=by rw [ze,ze,Int.toNat_natCast]
   rw [qj,e,Bool.or_eq_false_iff,Bool.or_eq_false_iff] at this
   simp only [decide_eq_false_iff_not] at this
   omega
  obtain ⟨b9,cap9,c9,rfl,hc9,hcl9,htk9,S⟩:=S.rowCell v hpos
  have hm9:=S.mine (.cell b9 c9 57) (by simp) b9 rfl
  have S:=S.frz
  refine h _ _ (Go.Sh.one b9 c9 57) gs _ S.ext ⟨S.holds.le (h:=⟨fun b o ho=>by
   rcases ho with ho|ho
   ·exact .inr ho
   ·exact .inl (.inr ho)⟩),fun b o ho=>?_⟩ ⟨fun j hj=>?_,fun j k hjk hj hk=>hdis j k hjk hj hk,fun j hj b o o' ho ho'=>?_⟩ hc9
  ·rcases ho with ⟨rfl,_⟩|⟨j,_,hj,ho⟩
   ·exact hm9.1.resolve_right id
   ·exact hfr j hj b o ho
  ·obtain ⟨h1,h2,h3⟩:=hel j hj hj
   refine ⟨b9,0,_,rfl,h1,fun k v hk w' hw=>?_,h2,h3⟩
   have B:=yx (b:=b9) (c:=c9) (T:=57) w' hw
   show w'.cell? _=some v
   rw [Nat.zero_add,B.cell]
   have hk5 : k<5:=by have:=(List.getElem?_eq_some_iff.1 hk).1;omega
   rw [List.getElem?_take,if_pos hk5,List.getElem?_drop,← htk9,List.getElem?_take] at hk
   split at hk
   ·exact hk
   ·cases hk
  ·obtain ⟨rfl,_⟩:=ho'
   exact hm9.2 o (.inr ⟨j,Nat.zero_le _,hj,ho⟩)
theorem aeB {r : Gh} {cs c : List Value} {u : TyD} {b cap : Nat} {k re st : Int} {m : Bool} (h : TyG r (.agg cs.toArray) u) (hc : c.take 5=cs) (hcap : 1≤cap) :
  TyG (r.or (Go.Sh.one b c 57)) (.agg #[.int .u8 k,.bool m,.int .i64 re,.int .i64 st,.slice (some ⟨b,0,none⟩) 1 cap]) (.mk k m re st [u]):=by
 obtain ⟨c1,hc1,hcl,hr⟩:=h.rep
 have hc1 : cs=c1:=List.toArray_inj (Value.agg.inj hc1)
 subst hc1
 refine ⟨_,cap,rfl,by simp,hcap,?_⟩
 refine ⟨⟨cs,hcl,fun j x hj=>⟨b,0,rfl,fun w hw=>?_⟩,hr.up⟩,trivial⟩
 have B:=yx (b:=b) (c:=c) (T:=57) w (hw.le (h:=inferInstance))
 show w.cell? ⟨b,0+0*5+j,none⟩=some x
 rw [show 0+0*5+j=j by omega,B.cell]
 rw [← hc,List.getElem?_take] at hj
 split at hj
 ·exact hj
 ·cases hj
theorem Qm {s : Int} : ∀ (n : Nat) {t : TyD} {w : World} {r : Gh} {v : Value} {K : Value→World→Prop},n≤1000→zO s n t=true→Holds r w→TyG r v t→
  (∀ v' sn w',Ext w w'→New w sn w'→TyG sn v' t→K v' w')→zd Tryz.prog Tryz.qw #[v] w K:=by
 intro n
 induction n with
 |zero=>intro t w r v K _ h;cases h
 |succ n ih=>
  intro t w r v K hn hl hr hv h
  refine Tryz.aax ?_
  unfold Tryz.Ql
  obtain ⟨p1,cap1,rfl,hp1,hcap1,hof⟩:=hv
  have S:=St.start hr
  refine S.box fun b1 w1 S=>?_
  refine S.al fun b2 w2 S=>?_
  have S : StX noX w r w2 [.cell b2 [.int .u8 0,.bool false,.int .i64 0,.int .i64 0,.slice none 0 0] 57,.cell b1 [.int .u8 t.k,.bool t.m,.int .i64 t.re,.int .i64 t.st,.slice p1 t.of.length cap1] 57]:=S
  have he : t = .mk t.k t.m t.re t.st t.of:=by cases t;rfl
  refine gG_ ?_
  refine S.st fun w3 S=>?_
  have fin : ∀ {w9 : World} {q : Gh} {v9 : Value},StX noX w q w9 [.cell b2 [.int .u8 0,.bool false,.int .i64 0,.int .i64 0,.slice none 0 0] 57,.cell b1 [.int .u8 t.k,.bool t.m,.int .i64 t.re,.int .i64 t.st,v9] 57]→v9.oneCell'=true→
    (∃ sn,Le sn q∧(∀ b o,sn b o→w.heap.size≤b)∧TyG sn (.agg #[.int .u8 t.k,.bool t.m,.int .i64 t.re,.int .i64 t.st,v9]) t)→
    opQ Tryz.prog w9 (Instr.loadAt 57 (.pointer (some ⟨b1,0,none⟩))) fun t24=>opU Tryz.prog w9 (Instr.storeAt 57 (.pointer (some ⟨b2,0,none⟩)) t24) fun w12=>opQ Tryz.prog w12 (zH 57 (.pointer (some ⟨b2,0,none⟩))) fun r13=>K r13 w12:=by
   intro w9 q v9 S h1 ⟨sn,hle,hf,hty⟩
   refine gG_ ?_
   refine S.stB (h1:=by
    intro u hu
    simp only [List.mem_cons,List.not_mem_nil,or_false] at hu
    rcases hu with rfl|rfl|rfl|rfl|rfl<;>first|rfl|exact h1) fun w7 S=>?_
   refine gG_ ?_
   exact h _ sn _ S.ext ⟨S.holds.le (h:=hle),hf⟩ hty
  rcases y7 hl with ⟨ho,_⟩|⟨u,ho,hu,_⟩
  ·refine zk (ι:=Unit) (fun _=>[.int .i64 0]) (fun _ w'=>w'=w3) (fun _=>0) () rfl rfl ?_
   rintro ⟨⟩ d w5 rfl K6 hK6
   rw [List.getD_cons_zero]
   refine gP_ ?_
   refine gP_ ?_
   refine c_f (by rw [ho];rfl) ?_
   refine fin S rfl ⟨nothing,inferInstance,fun _ _ h=>h.elim,?_⟩
   rw [he,ho]
   exact vO
  ·have hlen : t.of.length=1:=by rw [ho];rfl
   have S3:=S
   obtain ⟨ba,oa,rfl,c,hc,hcell,ht⟩:=NdG.of hof (i:=0) (by omega)
   have ht : TyG r (.agg c.toArray) u:=by simpa [ho] using ht
   refine zk (ι:=Bool) (fun i=>[.int .i64 (if i then 1 else 0)]) (fun i w'=>if i then ∃ q v9,StX noX w q w' [.cell b2 [.int .u8 0,.bool false,.int .i64 0,.int .i64 0,.slice none 0 0] 57,.cell b1 [.int .u8 t.k,.bool t.m,.int .i64 t.re,.int .i64 t.st,v9] 57]∧v9.oneCell'=true∧
     ∃ sn,Le sn q∧(∀ b o,sn b o→w.heap.size≤b)∧TyG sn (.agg #[.int .u8 t.k,.bool t.m,.int .i64 t.re,.int .i64 t.st,v9]) t
    else StX noX w r w' [.cell b2 [.int .u8 0,.bool false,.int .i64 0,.int .i64 0,.slice none 0 0] 57,.cell b1 [.int .u8 t.k,.bool t.m,.int .i64 t.re,.int .i64 t.st,.slice none 0 0] 57]) (fun i=>if i then 0 else 1) false rfl S3 ?_
   clear S S3
   rintro i d w5 hI K6 hK6
   rw [List.getD_cons_zero]
   refine gP_ ?_
   cases i with
   |true=>
    obtain ⟨q,v9,S,h1,hx⟩:=hI
    refine gP_ ?_
    refine c_f (by rw [hlen];rfl) ?_
    exact fin S h1 hx
   |false=>
    have S : StX noX w r w5 [.cell b2 [.int .u8 0,.bool false,.int .i64 0,.int .i64 0,.slice none 0 0] 57,.cell b1 [.int .u8 t.k,.bool t.m,.int .i64 t.re,.int .i64 t.st,.slice none 0 0] 57]:=hI
    refine gP_ ?_
    refine c_t (by rw [hlen];rfl) ?_
    have S:=S.go (Ext.drew _)
    simp only [Bool.false_eq_true,if_false]
    refine gG_ ?_
    refine zt (n:=5) hc (fun j v hj=>by simpa using S.at (hcell j v hj)) ?_
    refine ih (by omega) hu S.holds ht fun v4 sn w6 e6 n6 ht6=>⟨e6,?_⟩
    obtain ⟨S,_,hf⟩:=S.tell e6 n6
    obtain ⟨p6,cap6,rfl,_⟩:=id ht6
    refine S.litU (e:=57) (cs:=[.int .u8 u.k,.bool u.m,.int .i64 u.re,.int .i64 u.st,.slice p6 u.of.length cap6]) (by kernel_rfl) fun b7 w7 S=>?_
    have S:=S.ownNil 57 5
    refine S.ap (m':=1) (Sl.blk (S.blk b7)) (fun v8 w8 S=>?_) (by omega)
    obtain ⟨b9,cap9,c9,rfl,hc9,hcl9,htk9,S⟩:=S.rowCell v8 (by decide)
    have hm9:=S.mine (.cell b9 c9 57) (by simp) b9 rfl
    have S:=S.frz
    refine gP_ ?_
    refine S.st (b:=b1) fun w9 S=>?_
    refine gP_ ?_
    refine hK6 true _ ⟨_,.slice (some ⟨b9,0,none⟩) 1 cap9,S.tl,rfl,sn.or (Go.Sh.one b9 c9 57),inferInstance,fun b o hb=>?_,?_⟩ (by decide)
    ·rcases hb with hb|⟨rfl,_⟩
     ·exact hf b o hb
     ·exact hm9.1.resolve_right id
    ·rw [he,ho]
     exact aeB ht6 htk9 (by omega)
end Go.Proofs
end
section
namespace Go.Sh
open Go.ChangeShapes Go.WideShapes Go.ChangeAt Go.RowKit
section
variable {H : Type} {enc : TypeId × Value→H} {P : Program}
theorem adE {W W' : World} (e : Ext W W') {p : MemPlace} (hp : p.block<W.heap.size) : W.sameAt W' p:=Below.same e hp
theorem Qn {W W' : World} (e : Ext W W') (K : Kids P (· < P.types.size)) (hz : ∀ t e,t<P.types.size→P.underlying t=some (.slice e)→0<P.cellsOf e) {sp : Nat→Bool} :
  ∀ {ts : List TypeId} {vs : List Value} {ds : List (DataW H)} {ps : List MemPlace},(∀ t ∈ ts,t<P.types.size)→DataW.TrodAll enc P W 0 (fun _=>true) true ts vs ds ps→(∀ p ∈ ps,p.block<W.heap.size)→(∀ p ∈ ps,sp p.block=true)→
   DataW.TrodAll enc P W' 0 sp true ts vs ds ps
 |[],[],[],_,_,h,_,_=>h
 |_::_,_::_,_::_,_,hT,⟨p,q,⟨n,h1⟩,h2,he⟩,hl,hs=>
  ⟨p,q,⟨n,DataW.trod_stays K (fun {t e}=>hz t e) (fun h=>by cases h) (hT _ (List.mem_cons.2 (Or.inl rfl))) h1 (fun x hx=>adE e (hl x (by rw [he];exact List.mem_append_left _ hx))) (fun x hx=>hs x (by rw [he];exact List.mem_append_left _ hx))⟩,
   Qn e K hz (fun t ht=>hT t (List.mem_cons.2 (Or.inr ht))) h2 (fun x hx=>hl x (by rw [he];exact List.mem_append_right _ hx)) (fun x hx=>hs x (by rw [he];exact List.mem_append_right _ hx)),he⟩
theorem acK {f : Func} {s : ChangeSpec} {W W' : World} {args : Array Value} {ds gs : List (DataW H)} {before : List MemPlace} {tb : TypeId} {fr ho : Bool}
  (hl : laidOutB P=true) (hm : mapsRowed P=true) (hz : ((List.range P.types.size).all fun t=>match P.underlying t with|some (.slice e)=>decide (0<P.cellsOf e)|_=>true)=true)
  (hts : ∀ t ∈ f.params.toList,t<P.types.size) (hv : s.vars = []) (hrt : f.resultTypes=#[tb]) (htb : P.underlying tb=some .bool)
  (hW : DataW.Whole enc P f.params.toList s.vars false W args.toList ds gs before) (hs : s.fn H (ds++gs) = { results:=[.lit (.bool true)],args:=ds }) (e : Ext W W') :
  s.post enc P f false fr ho false W args (.bool true) W':=by
 have hW':=hW
 obtain ⟨p,q,hA,hV,rfl,hfz,hnd⟩:=hW
 rw [hv] at hV
 obtain ⟨rfl,rfl⟩:=trodVars_none hV
 have hlt:=hW'.lt
 refine ⟨ds,[],p ++ [],[],p,[],hW',?_,?_,?_,Below.frame e _,fun h=>by cases h⟩
 ·rw [hs,hrt]
  exact trodAll_mk1 (shut_bool htb _)
 ·rw [hs]
  exact Qn e (kids_rows hl hm) (slices_full_of P hz) hts hA (fun x hx=>hlt x (by simpa using hx)) (fun x hx=>by simpa using hlt x (by simpa using hx))
 ·rw [hv,hs];rfl
end
end Go.Sh
end
section
namespace Go.Sh
open Go.RowKit
mutual
def Dat.ok (P : Program) : Dat→TypeId→Prop
 |.int k n,t=>P.underlying t=some (.int k)∧(Lit.int k n).wf=true
 |.bool _,t=>P.underlying t=some .bool
 |.str s,t=>P.underlying t=some .string∧s.size≤maxLen
 |.agg ds,t=>∃ fs,P.underlying t=some (.struct fs)∧Dat.okF P ds (fs.toList.map (·.type))
 |.sl sz es,t=>∃ e,P.underlying t=some (.slice e)∧sz=P.cellsOf e∧es.length≤maxLen∧Dat.okS P es e
def Dat.okF (P : Program) : List Dat→List TypeId→Prop
 |[],ts=>ts = []
 |d::ds,ts=>∃ t r,ts=t::r∧Dat.ok P d t∧Dat.okF P ds r
def Dat.okS (P : Program) : List Dat→TypeId→Prop
 |[],_=>True
 |d::ds,t=>Dat.ok P d t∧Dat.okS P ds t
end
theorem acL {P : Program} {t : TypeId} : ∀ {es : List Dat},(∀ (i : Nat) (d : Dat),es[i]? = some d→d.ok P t)→Dat.okS P es t
 |[],_=>trivial
 |d::es,h=>⟨h 0 d rfl,acL fun i d hi=>h (i+1) d (by simpa using hi)⟩
theorem abx {P : Program} {t : TypeId} : ∀ {es : List Dat},Dat.okS P es t→∀ d ∈ es,d.ok P t
 |[],_,d,hd=>by cases hd
 |e::es,h,d,hd=>by
  rcases List.mem_cons.1 hd with rfl|hd
  ·exact h.1
  ·exact abx h.2 d hd
def aaC (P : Program) (total : Nat) : Nat→List Field→Bool
 |off,[]=>off == total
 |off,f::fs=>f.offset == off&&aaC P total (off+P.cellsOf f.type) fs
def acM (P : Program) (ts : List TypeId) : Bool:=
 ts.all fun t=>match P.underlying t with
  |some (.int _)=>true
  |some .bool=>true
  |some .string=>true
  |some (.struct fs)=>aaC P (P.cellsOf t) 0 fs.toList&&fs.toList.all (fun f=>ts.contains f.type)
  |some (.slice e)=>decide (0<P.cellsOf e)&&ts.contains e
  |_=>false
theorem Qo {Q : Nat→Dat→Prop} : ∀ n : Nat,(∀ i,i<n→∃ d,Q i d)→∃ es : List Dat,es.length=n∧∀ i d,es[i]? = some d→Q i d
 |0,_=>⟨[],rfl,fun i d h=>by cases h⟩
 |n+1,h=>by
  obtain ⟨es,h1,h2⟩:=Qo n fun i hi=>h i (by omega)
  obtain ⟨d,hd⟩:=h n (by omega)
  refine ⟨es ++ [d],by simp [h1],fun i x hx=>?_⟩
  rcases Nat.lt_or_ge i es.length with hi|hi
  ·rw [List.getElem?_append_left hi] at hx;exact h2 i x hx
  ·rw [List.getElem?_append_right hi] at hx
   have hl:=(List.getElem?_eq_some_iff.1 hx).1
   have : i=n:=by simp at hl;omega
   subst this
   rw [h1,Nat.sub_self] at hx
   cases hx;exact hd
section
variable {H : Type} {enc : TypeId × Value→H} {P : Program} {W : World}
theorem Jj {cs : List Value} {total : Nat} (hcs : cs.length=total) : ∀ (fl : List Field) (off : Nat),aaC P total off fl=true→
  (∀ f ∈ fl,∃ d,Rep (all W) d ((cs.drop f.offset).take (P.cellsOf f.type))∧d.ok P f.type)→∃ ds,RepA (all W) ds (cs.drop off)∧Dat.okF P ds (fl.map (·.type))
 |[],off,hl,_=>⟨[],by
  have : off=total:=by simpa [aaC] using hl
  rw [RepA,List.drop_eq_nil_iff];omega,rfl⟩
 |f::fl,off,hl,h=>by
  simp only [aaC,Bool.and_eq_true,beq_iff_eq] at hl
  obtain ⟨d,h1,h2⟩:=h f List.mem_cons_self
  obtain ⟨ds,h3,h4⟩:=Jj hcs fl _ hl.2 fun g hg=>h g (List.mem_cons_of_mem _ hg)
  refine ⟨d::ds,⟨_,_,?_,h1,h3⟩,_,_,rfl,h2,h4⟩
  rw [hl.1,← List.drop_drop,List.take_append_drop]
theorem ZZ {ts : List TypeId} (hp : acM P ts=true) {sp : Nat→Bool} : ∀ (fuel : Nat) (t : TypeId) (cs : List Value) (x : DataW H × List MemPlace),t ∈ ts→
  DataW.trod enc P W 0 sp true fuel t cs=some x→∃ d,Rep (all W) d cs∧d.ok P t
 |0,_,_,_,_,h=>by simp [DataW.trod] at h
 |fuel+1,t,cs,x,ht,h=>by
  have hpt:=List.all_eq_true.1 hp t ht
  cases hu : P.underlying t with
  |none=>rw [hu] at hpt;cases hpt
  |some k=>
   rw [hu] at hpt
   cases k with
   |int k=>obtain ⟨n,rfl,_,hw⟩:=DataW.trod_int hu h;exact ⟨.int k n,rfl,hu,hw⟩
   |bool=>obtain ⟨b,rfl,_⟩:=DataW.trod_bool hu h;exact ⟨.bool b,rfl,hu⟩
   |string=>obtain ⟨s,rfl,_,hs⟩:=DataW.trod_string hu h;exact ⟨.str s,rfl,hu,hs⟩
   |struct fs=>
    simp only [Bool.and_eq_true] at hpt
    obtain ⟨xs,n,hn,_,hl,hxl,hx⟩:=DataW.trod_struct hu h
    obtain rfl : fuel=n:=by omega
    obtain ⟨ds,h1,h2⟩:=Jj (P:=P) (W:=W) hl fs.toList 0 hpt.1 (fun f hf=>by
     obtain ⟨i,hi,rfl⟩:=List.getElem_of_mem hf
     have hi' : i<fs.size:=by simpa using hi
     have h1:=hx i fs[i] (Array.getElem?_eq_getElem hi')
     rw [List.getElem?_eq_getElem (by omega)] at h1
     have hmem : fs[i].type ∈ ts:=by
      have:=List.all_eq_true.1 hpt.2 _ hf
      simpa using this
     exact ZZ hp fuel _ _ _ hmem h1)
    rw [List.drop_zero] at h1
    exact ⟨.agg ds,h1,fs,hu,h2⟩
   |slice e=>
    simp only [Bool.and_eq_true,decide_eq_true_eq] at hpt
    have he : e ∈ ts:=by simpa using hpt.2
    rcases DataW.trod_slice hu h with ⟨rfl,_⟩|⟨a,len,cap,elems,rest,n,hn,rfl,_,_,hlc,hcm,hel,hget,_,_⟩
    ·exact ⟨.sl (P.cellsOf e) [],⟨none,0,rfl,fun _=>rfl,Nat.le_refl _,trivial⟩,e,hu,rfl,Nat.zero_le _,trivial⟩
    obtain rfl : fuel=n:=by omega
    have hspot : 0<len→a.spot=none:=fun h0=>by
     have h1:=hget 0 h0
     rw [List.getElem?_eq_getElem (by omega)] at h1
     obtain ⟨c,hc,_⟩:=Option.bind_eq_some_iff.1 h1
     obtain ⟨_,hcl,hcc⟩:=World.cells?_some hc
     have hcell:=(hcc 0 hpt.1).trans (List.getElem?_eq_getElem (by omega))
     have:=World.cell?_spot hcell
     simpa [Addr.add] using this
    obtain ⟨es,h1,h2⟩:=Qo (Q:=fun i d=>d.ok P e∧∃ c,c.length=P.cellsOf e∧CellsAt (all W) (some a) (i*P.cellsOf e) c∧Rep (all W) d c) len (fun i hi=>by
     have h1:=hget i hi
     rw [List.getElem?_eq_getElem (by omega)] at h1
     obtain ⟨c,hc,ht⟩:=Option.bind_eq_some_iff.1 h1
     obtain ⟨_,hcl,hcc⟩:=World.cells?_some hc
     obtain ⟨d,hd,hok⟩:=ZZ hp fuel e c _ he ht
     refine ⟨d,hok,c,hcl,fun j v hj=>?_,hd⟩
     have hjl:=(List.getElem?_eq_some_iff.1 hj).1
     have hcell : W.cell? ((a.add (i*P.cellsOf e)).add j)=some v:=(hcc j (by omega)).trans hj
     obtain ⟨b,off,sp⟩:=a
     have hsp : sp=none:=hspot (by omega)
     subst hsp
     rw [Y9,Y9] at hcell
     exact ⟨b,off,rfl,adA hcell⟩)
    refine ⟨.sl (P.cellsOf e) es,⟨some a,cap,by rw [h1],by simp,by omega,RepS.of fun i d hi=>?_⟩,e,hu,rfl,by omega,acL fun i d hi=>(h2 i d hi).1⟩
    rw [Nat.zero_add];exact (h2 i d hi).2
   |_=>cases hpt
end
end Go.Sh
end
section
namespace Go.Sh
open Go.RowKit
set_option linter.unusedVariables false
def SlG {α : Type} (sz : Nat) (r : Gh) (R : List Value→α→Prop) (v : Value) (l : List α) : Prop:=
 ∃ p cap,v = .slice p l.length cap∧(p=none→cap=0)∧l.length≤cap∧∀ (i : Nat) (h : i<l.length),∃ c,c.length=sz∧CellsAt r p (i*sz) c∧R c l[i]
def RowOf {α : Type} (sz : Nat) (R : List Value→α→Prop) (xs : List Value) (l : List α) : Prop:=
 xs.length=l.length*sz∧∀ (i : Nat) (h : i<l.length),R ((xs.drop (i*sz)).take sz) l[i]
section
variable {α : Type} {sz : Nat} {r s : Gh} {R Q : List Value→α→Prop} {v : Value} {l : List α}
theorem SlG.up' (h : SlG sz r R v l) (le : Le r s) (hR : ∀ c x,R c x→Q c x) : SlG sz s Q v l:=by
 obtain ⟨p,cap,h1,h2,h3,h4⟩:=h
 refine ⟨p,cap,h1,h2,h3,fun i hi=>?_⟩
 obtain ⟨c,h5,h6,h7⟩:=h4 i hi
 exact ⟨c,h5,h6.up le,hR _ _ h7⟩
theorem SlG.mono (h : SlG sz r R v l) (hR : ∀ c x,R c x→Q c x) : SlG sz r Q v l:=h.up' inferInstance hR
theorem SlG.cells (h : SlG sz r R v l) [le : Le r s] : SlG sz s R v l:=h.up' le fun _ _ h=>h
theorem SlG.nil : SlG sz r R (.slice none 0 0) ([] : List α):=⟨none,0,rfl,fun _=>rfl,Nat.le_refl _,fun i hi=>absurd hi (Nat.not_lt_zero _)⟩
theorem SlG.shape (h : SlG sz r R v l) : ∃ p cap,v = .slice p l.length cap∧(p=none→cap=0)∧l.length≤cap:=by
 obtain ⟨p,cap,h1,h2,h3,_⟩:=h;exact ⟨p,cap,h1,h2,h3⟩
theorem SlG.get (hz : 0<sz) {p : Option Addr} {n cap : Nat} (h : SlG sz r R (.slice p n cap) l) {i : Nat} (hi : i<l.length) :
  ∃ b off c,p=some ⟨b,off,none⟩∧c.length=sz∧R c l[i]∧∀ j v,c[j]? = some v→Ob r fun w=>w.cell? ⟨b,off+i*sz+j,none⟩=some v:=by
 obtain ⟨p',cap',h1,h2,h3,h4⟩:=h
 cases h1
 obtain ⟨c,h5,h6,h7⟩:=h4 i hi
 obtain ⟨b,off,hp,_⟩:=h6 0 c[0] (List.getElem?_eq_getElem (by omega))
 subst hp
 refine ⟨b,off,c,rfl,h5,h7,fun j v hj=>?_⟩
 obtain ⟨b',off',hp,ho⟩:=h6 j v hj
 cases hp;exact ho
theorem RowOf.nil : RowOf sz R [] ([] : List α):=⟨by simp,fun i hi=>absurd hi (Nat.not_lt_zero _)⟩
theorem RowOf.mono {xs : List Value} (h : RowOf sz R xs l) (hR : ∀ c x,R c x→Q c x) : RowOf sz Q xs l:=⟨h.1,fun i hi=>hR _ _ (h.2 i hi)⟩
theorem RowOf.snoc {xs c : List Value} {x : α} (h : RowOf sz R xs l) (hc : c.length=sz) (hx : R c x) : RowOf sz R (xs++c) (l ++ [x]):=by
 obtain ⟨h1,h2⟩:=h
 refine ⟨by rw [List.length_append,List.length_append,h1,hc,List.length_singleton,Nat.add_mul,Nat.one_mul],fun i hi=>?_⟩
 rw [List.length_append,List.length_singleton] at hi
 rcases Nat.lt_or_ge i l.length with h|h
 ·have hm : i*sz+sz≤xs.length:=by rw [h1,← Nat.succ_mul];exact Nat.mul_le_mul_right _ h
  rw [List.getElem_append_left h,List.drop_append_of_le_length (by omega),List.take_append_of_le_length (by rw [List.length_drop];omega)]
  exact h2 i h
 ·obtain rfl : i=l.length:=by omega
  rw [List.getElem_append_right (Nat.le_refl _),← h1,List.drop_left',List.take_of_length_le (by omega)]
  ·simpa using hx
  ·rfl
theorem RowOf.sl {xs : List Value} (h : RowOf sz R xs l) {p : Option Addr} {cap : Nat} (hp : p=none→cap=0) (hc : l.length≤cap) (ho : Ob r fun w=>Sl w p xs) (hz : 0<sz) (hk : ∃ w,Holds r w) : SlG sz r R (.slice p l.length cap) l:=by
 refine ⟨p,cap,rfl,hp,hc,fun i hi=>⟨(xs.drop (i*sz)).take sz,?_,?_,h.2 i hi⟩⟩
 ·have : i*sz+sz≤xs.length:=by rw [h.1,← Nat.succ_mul];exact Nat.mul_le_mul_right _ hi
  rw [List.length_take,List.length_drop];omega
 ·intro j v hj
  rw [List.getElem?_take] at hj
  split at hj
  ·rw [List.getElem?_drop] at hj
   obtain ⟨w,hw⟩:=hk
   obtain ⟨b,off,rfl,_⟩:=ho w hw _ _ hj
   refine ⟨b,off,rfl,fun w' hw'=>?_⟩
   obtain ⟨b',off',hp',hc'⟩:=ho w' hw' _ _ hj
   cases hp'
   rw [← Nat.add_assoc] at hc';exact hc'
  ·cases hj
end
section
variable {P : Program} {X : Nat→Prop} {w0 w : World} {r : Gh} {L : List Asr} {α : Type} {sz n : Nat} {R : List Value→α→Prop} {v : Value} {l : List α} {e : TypeId} {xs : List Value}
theorem StX.doneRow (S : StX X w0 r w (.row v e sz n xs::L)) (h : RowOf sz R xs l) (hz : 0<sz) (hn : n=l.length) :
  ∃ s,StX X w0 (r.or s) w L∧SlG sz s R v l∧(∀ b o,s b o→∃ c,o = .cells c e (0,0))∧(∀ b o,s b o→w0.heap.size≤b∨X b):=by
 subst hn
 have hm:=S.mine _ (List.mem_cons_self ..)
 have hr : w.ownsRow 0 e sz v l.length xs:=S.has _ (List.mem_cons_self ..)
 rcases vN hr with ⟨rfl,h1,h2⟩|⟨g,cap,c,rfl,hg,B,h1,_,h3,h4⟩
 ·have hl : l = []:=List.eq_nil_of_length_eq_zero h1
  subst hl
  exact ⟨nothing,S.tl.new (Ext.refl _) New.nothing,SlG.nil,fun b o h=>h.elim,fun b o h=>h.elim⟩
 ·have S':=S.turn (p:=[]) (x:=.row _ e sz l.length xs) (y:=.cell g c e) (ExtBut.refl _ _) B fun k hk=>.inl (by cases hk;rfl)
  refine ⟨one g c e,S'.frz,?_,fun b o h=>⟨_,h.2⟩,fun b o h=>(hm b (by rw [h.1];rfl)).1⟩
  refine h.sl (by simp) h1 (fun w k=>?_) hz ⟨w,yc B⟩
  rw [← h4];exact (Sl.blk (yx w k)).take _
theorem StX.litSl {b : Nat} (S : StX X w0 r w (.cell b xs e::L)) (h : RowOf sz R xs l) (hz : 0<sz) : StX X w0 (r.or (Go.Sh.one b xs e)) w L∧SlG sz (Go.Sh.one b xs e) R (.slice (some ⟨b,0,none⟩) l.length l.length) l:=
 ⟨S.frz,h.sl (by simp) (Nat.le_refl _) (fun w k=>Sl.blk (yx w k)) hz ⟨w,yc (S.has _ (List.mem_cons_self ..))⟩⟩
theorem StX.reGh {s t : Gh} (S : StX X w0 ((r.or s).or t) w L) : StX X w0 (r.or (s.or t)) w L:=
 S.less (fun b o h=>h.elim (fun h=>.inl (.inl h)) fun h=>h.elim (fun h=>.inl (.inr h)) .inr) (List.Sublist.refl _)
theorem Above.or' {s t : Gh} (h : Above w0 s) (k : Above w0 t) : Above w0 (s.or t):=fun b o x=>x.elim (h b o) (k b o)
theorem Above.no : Above w0 nothing:=fun b o h=>h.elim
theorem StX.newOf {q : Gh} (S : StX X w0 r w L) (h : Above w0 q) [Le q r] : New w0 q w:=⟨S.holds.le (h:=inferInstance),h⟩
end
section
variable {w : World} {A : (List Value→World→Prop)→Prop} {Z : Value→World→Prop} {b : Bool}
end
end Go.Sh
end
section
namespace Go.Sh
open Go.RowKit
set_option linter.unusedSimpArgs false
set_option linter.unusedVariables false
section
variable {P : Program}
theorem z7 {d : Dat} {t : TypeId} {k : IntKind} (u : P.underlying t=some (.int k)) (h : d.ok P t) : ∃ n,d = .int k n∧(Lit.int k n).wf=true:=by
 cases d<;>simp only [Dat.ok,u] at h<;>try simp at h
 obtain ⟨rfl,h⟩:=h
 exact ⟨_,rfl,h⟩
theorem aaD {d : Dat} {t : TypeId} (u : P.underlying t=some .bool) (h : d.ok P t) : ∃ b,d = .bool b:=by
 cases d<;>simp only [Dat.ok,u] at h<;>try simp at h
 exact ⟨_,rfl⟩
theorem aeC {d : Dat} {t : TypeId} (u : P.underlying t=some .string) (h : d.ok P t) : ∃ s,d = .str s∧s.size≤maxLen:=by
 cases d<;>simp only [Dat.ok,u] at h<;>try simp at h
 exact ⟨_,rfl,h⟩
theorem acN {d : Dat} {t e : TypeId} (u : P.underlying t=some (.slice e)) (h : d.ok P t) : ∃ es,d = .sl (P.cellsOf e) es∧es.length≤maxLen∧∀ x ∈ es,x.ok P e:=by
 cases d<;>simp only [Dat.ok,u] at h<;>try simp at h
 obtain ⟨rfl,h1,h2⟩:=h
 exact ⟨_,rfl,h1,abx h2⟩
theorem yS {d : Dat} {t : TypeId} {ts : List TypeId} (u : ∃ fs,P.underlying t=some (.struct fs)∧fs.toList.map (·.type)=ts) (h : d.ok P t) : ∃ ds,d = .agg ds∧Dat.okF P ds ts:=by
 obtain ⟨fs,u,rfl⟩:=u
 cases d<;>simp only [Dat.ok,u] at h<;>try simp at h
 exact ⟨_,rfl,by simpa using h⟩
theorem zf {ds : List Dat} {t : TypeId} {ts : List TypeId} (h : Dat.okF P ds (t::ts)) : ∃ d r,ds=d::r∧d.ok P t∧Dat.okF P r ts:=by
 cases ds with
 |nil=>cases h
 |cons d r=>obtain ⟨t',r',h1,h2,h3⟩:=h;cases h1;exact ⟨d,r,rfl,h2,h3⟩
theorem kZ {ds : List Dat} (h : Dat.okF P ds []) : ds = []:=by
 cases ds with
 |nil=>rfl
 |cons d r=>obtain ⟨t',r',h1,_⟩:=h;cases h1
noncomputable def aby (P : Program) (t : TypeId) (ts : List TypeId) : Bool:=match P.underlying t with|some (.struct fs)=>decide (fs.toList.map (·.type)=ts)|_=>false
theorem xy {t : TypeId} {ts : List TypeId} (h : aby P t ts=true) : ∃ fs,P.underlying t=some (.struct fs)∧fs.toList.map (·.type)=ts:=by
 unfold aby at h
 split at h
 ·rename_i fs hu;exact ⟨fs,hu,of_decide_eq_true h⟩
 ·cases h
end
theorem acO {n : Int} (h : (Lit.int .i64 n).wf=true) : -9223372036854775808≤n∧n≤9223372036854775807:=by
 simp only [Lit.wf,Bool.and_eq_true,decide_eq_true_eq] at h
 exact ⟨h.1,h.2⟩
theorem aaE {α : Type} {f : α→Dat} {G : α→Prop} : ∀ es : List Dat,(∀ d ∈ es,∃ t,d=f t∧G t)→∃ l : List α,es=l.map f∧∀ t ∈ l,G t
 |[],_=>⟨[],rfl,fun t h=>by cases h⟩
 |d::es,h=>by
  obtain ⟨t,rfl,ht⟩:=h d List.mem_cons_self
  obtain ⟨l,rfl,hq⟩:=aaE es fun x hx=>h x (List.mem_cons_of_mem _ hx)
  refine ⟨t::l,rfl,fun x hx=>?_⟩
  rcases List.mem_cons.1 hx with rfl|hx
  ·exact ht
  ·exact hq x hx
end Go.Sh
end
section
namespace Go.Proofs
open Go.Sh
set_option maxRecDepth 100000
set_option linter.unusedSimpArgs false
set_option linter.unusedVariables false
structure PlD where
 l : Int
 ps : List Int
structure OpD where
 k : Int
 n : Int
 pl : PlD
structure PtD where
 op : Int
 to : PlD
 a : OpD
 b : OpD
 args : List OpD
 sign : ByteArray
 fr : PlD
 mu : Bool
 fn : Int
 st : Int
 nx : Int
 el : Int
 tx : Int
structure GrD where
 name : ByteArray
 lv : Int
 outs : List (Int × Int)
 pn : Int
 tys : List TyD
 nms : List ByteArray
 pts : List PtD
structure UnD where
 ss : List StD
 fs : List GrD
 mn : Int
def ab0 (c : List Value) (x : Int) : Prop:=c = [.int .i64 x]
def yC (x : Int) : Prop:=-9223372036854775808≤x∧x<9223372036854775808
def qk (c : List Value) (x : Int) : Prop:=c = [.int .i64 x]∧yC x
structure SlB {α : Type} (sz : Nat) (r : Gh) (R : List Value→α→Prop) (v : Value) (l : List α) : Prop where
 sl : SlG sz r R v l
 few : l.length≤maxLen
theorem SlB.cells {α : Type} {sz : Nat} {r s : Gh} {R : List Value→α→Prop} {v : Value} {l : List α} (h : SlB sz r R v l) [le : Le r s] : SlB sz s R v l:=⟨h.sl.cells,h.few⟩
theorem SlB.up' {α : Type} {sz : Nat} {r s : Gh} {R Q : List Value→α→Prop} {v : Value} {l : List α} (h : SlB sz r R v l) (le : Le r s) (hR : ∀ c x,R c x→Q c x) : SlB sz s Q v l:=⟨h.sl.up' le hR,h.few⟩
theorem y9 {α : Type} {D : α→Dat} {r : Gh} {R : List Value→α→Prop} {sz : Nat} {cs : List Value} {l : List α} (hR : ∀ c x,x ∈ l→Rep r (D x) c→R c x) (h : Rep r (.sl sz (l.map D)) cs) (hl : l.length≤maxLen) : ∃ v,cs = [v]∧SlB sz r R v l:=by
 obtain ⟨p,cap,rfl,h1,h2,h3⟩:=h
 rw [List.length_map] at h2 ⊢
 refine ⟨_,rfl,⟨p,cap,rfl,h1,h2,fun i hi=>?_⟩,hl⟩
 obtain ⟨c,h4,h5,h6⟩:=h3.get (i:=i) (d:=D l[i]) (by rw [List.getElem?_map,List.getElem?_eq_getElem hi];rfl)
 rw [Nat.zero_add] at h5
 exact ⟨c,h4,h5,hR _ _ (List.getElem_mem hi) h6⟩
def PlD.ok (p : PlD) : Prop:=p.ps.length≤maxLen∧∀ k ∈ p.ps,yC k
def OpD.ok (o : OpD) : Prop:=o.pl.ok
def PtD.ok (p : PtD) : Prop:=p.to.ok∧p.a.ok∧p.b.ok∧(p.args.length≤maxLen∧∀ o ∈ p.args,o.ok)∧p.fr.ok
def GrD.ok (g : GrD) : Prop:=g.outs.length≤maxLen∧g.tys.length≤maxLen∧g.nms.length≤maxLen∧g.pts.length≤maxLen∧∀ p ∈ g.pts,p.ok
def UnD.ok (u : UnD) : Prop:=u.ss.length≤maxLen∧u.fs.length≤maxLen∧∀ g ∈ u.fs,g.ok
def Z0 (c : List Value) (x : ByteArray) : Prop:=c = [.string x]
def QG (c : List Value) (x : Int × Int) : Prop:=c = [.int .i64 x.1,.int .i64 x.2]
def TyC (r : Gh) (c : List Value) (t : TyD) : Prop:=TyG r (.agg c.toArray) t
def PlG (r : Gh) (c : List Value) (p : PlD) : Prop:=∃ v,c = [.int .i64 p.l,v]∧SlB 1 r qk v p.ps
def OpG (r : Gh) (c : List Value) (o : OpD) : Prop:=∃ v,c = [.int .u8 o.k,.int .i64 o.n,.int .i64 o.pl.l,v]∧SlB 1 r qk v o.pl.ps
def PtG (r : Gh) (c : List Value) (p : PtD) : Prop:=∃ vt va vb vl vf,
 c = [.int .u8 p.op,.int .i64 p.to.l,vt,.int .u8 p.a.k,.int .i64 p.a.n,.int .i64 p.a.pl.l,va,.int .u8 p.b.k,.int .i64 p.b.n,.int .i64 p.b.pl.l,vb,vl,.string p.sign,.int .i64 p.fr.l,vf,.bool p.mu,.int .i64 p.fn,.int .i64 p.st,.int .i64 p.nx,.int .i64 p.el,.int .i64 p.tx]∧
 SlB 1 r qk vt p.to.ps∧SlB 1 r qk va p.a.pl.ps∧SlB 1 r qk vb p.b.pl.ps∧SlB 4 r (OpG r) vl p.args∧SlB 1 r qk vf p.fr.ps
def GrG (r : Gh) (c : List Value) (g : GrD) : Prop:=∃ vo vt vn vp,c = [.string g.name,.int .i64 g.lv,vo,.int .i64 g.pn,vt,vn,vp]∧
 SlB 2 r QG vo g.outs∧SlB 5 r (TyC r) vt g.tys∧SlB 1 r Z0 vn g.nms∧SlB 21 r (PtG r) vp g.pts
def UnG (r : Gh) (v : Value) (u : UnD) : Prop:=∃ p cap vf,v = .agg #[.slice p u.ss.length cap,vf,.int .i64 u.mn]∧(p=none→cap=0)∧u.ss.length≤cap∧StG r p u.ss∧u.ss.length≤maxLen∧SlB 7 r (GrG r) vf u.fs
theorem PlG.up {r s : Gh} {c : List Value} {p : PlD} (h : PlG r c p) [l : Le r s] : PlG s c p:=by
 obtain ⟨v,h1,h2⟩:=h;exact ⟨v,h1,h2.cells⟩
theorem OpG.up {r s : Gh} {c : List Value} {p : OpD} (h : OpG r c p) [l : Le r s] : OpG s c p:=by
 obtain ⟨v,h1,h2⟩:=h;exact ⟨v,h1,h2.cells⟩
theorem PtG.up {r s : Gh} {c : List Value} {p : PtD} (h : PtG r c p) [l : Le r s] : PtG s c p:=by
 obtain ⟨vt,va,vb,vl,vf,h0,h1,h2,h3,h4,h5⟩:=h
 exact ⟨vt,va,vb,vl,vf,h0,h1.cells,h2.cells,h3.cells,h4.up' l fun _ _ h=>h.up,h5.cells⟩
theorem GrG.up {r s : Gh} {c : List Value} {g : GrD} (h : GrG r c g) [l : Le r s] : GrG s c g:=by
 obtain ⟨vo,vt,vn,vp,h0,h1,h2,h3,h4⟩:=h
 exact ⟨vo,vt,vn,vp,h0,h1.cells,h2.up' l fun _ _ h=>TyG.up h,h3.cells,h4.up' l fun _ _ h=>h.up⟩
theorem UnG.up {r s : Gh} {v : Value} {u : UnD} (h : UnG r v u) [l : Le r s] : UnG s v u:=by
 obtain ⟨p,cap,vf,h0,h1,h2,h3,h5,h4⟩:=h
 exact ⟨p,cap,vf,h0,h1,h2,h3.up,h5,h4.up' l fun _ _ h=>h.up⟩
def PlD.dat (p : PlD) : Dat:=.agg [.int .i64 p.l,.sl 1 (p.ps.map (Dat.int .i64))]
def OpD.dat (o : OpD) : Dat:=.agg [.int .u8 o.k,.int .i64 o.n,o.pl.dat]
def PtD.dat (p : PtD) : Dat:=.agg [.int .u8 p.op,p.to.dat,p.a.dat,p.b.dat,.sl 4 (p.args.map OpD.dat),.str p.sign,p.fr.dat,.bool p.mu,.int .i64 p.fn,.int .i64 p.st,.int .i64 p.nx,.int .i64 p.el,.int .i64 p.tx]
def ab1 (x : Int × Int) : Dat:=.agg [.int .i64 x.1,.int .i64 x.2]
def GrD.dat (g : GrD) : Dat:=.agg [.str g.name,.int .i64 g.lv,.sl 2 (g.outs.map ab1),.int .i64 g.pn,.sl 5 (g.tys.map TyD.dat),.sl 1 (g.nms.map Dat.str),.sl 21 (g.pts.map PtD.dat)]
def UnD.dat (u : UnD) : Dat:=.agg [.sl 2 (u.ss.map StD.dat),.sl 7 (u.fs.map GrD.dat),.int .i64 u.mn]
theorem Xm {r : Gh} {c : List Value} {p : PlD} (h : Rep r p.dat c) (k : p.ok) : PlG r c p:=by
 obtain ⟨a1,b1,rfl,e1,a2,b2,rfl,e2,e3⟩:=h
 obtain rfl : a1=_:=e1
 obtain rfl : b2 = []:=e3
 obtain ⟨v,rfl,hv⟩:=y9 (D:=Dat.int .i64) (R:=qk) (fun c x hx h=>⟨h,k.2 x hx⟩) e2 k.1
 exact ⟨v,rfl,hv⟩
theorem Xn {r : Gh} {c : List Value} {o : OpD} (h : Rep r o.dat c) (k : o.ok) : OpG r c o:=by
 obtain ⟨a1,b1,rfl,e1,a2,b2,rfl,e2,a3,b3,rfl,e3,e4⟩:=h
 obtain rfl : a1=_:=e1
 obtain rfl : a2=_:=e2
 obtain rfl : b3 = []:=e4
 obtain ⟨v,rfl,hv⟩:=Xm e3 k
 exact ⟨v,rfl,hv⟩
theorem acP {r : Gh} {c : List Value} {p : PtD} (h : Rep r p.dat c) (k : p.ok) : PtG r c p:=by
 obtain ⟨a1,b1,rfl,e1,a2,b2,rfl,e2,a3,b3,rfl,e3,a4,b4,rfl,e4,a5,b5,rfl,e5,a6,b6,rfl,e6,a7,b7,rfl,e7,a8,b8,rfl,e8,a9,b9,rfl,e9,a10,b10,rfl,e10,a11,b11,rfl,e11,a12,b12,rfl,e12,a13,b13,rfl,e13,e14⟩:=h
 obtain rfl : a1=_:=e1
 obtain rfl : a6=_:=e6
 obtain rfl : a8=_:=e8
 obtain rfl : a9=_:=e9
 obtain rfl : a10=_:=e10
 obtain rfl : a11=_:=e11
 obtain rfl : a12=_:=e12
 obtain rfl : a13=_:=e13
 obtain rfl : b13 = []:=e14
 obtain ⟨v2,rfl,h2⟩:=Xm e2 k.1
 obtain ⟨v3,rfl,h3⟩:=Xn e3 k.2.1
 obtain ⟨v4,rfl,h4⟩:=Xn e4 k.2.2.1
 obtain ⟨v5,rfl,h5⟩:=y9 (R:=OpG r) (fun c x hx h=>Xn h (k.2.2.2.1.2 x hx)) e5 k.2.2.2.1.1
 obtain ⟨v7,rfl,h7⟩:=Xm e7 k.2.2.2.2
 exact ⟨v2,v3,v4,v5,v7,rfl,h2,h3,h4,h5,h7⟩
theorem ab2 {r : Gh} {c : List Value} {x : Int × Int} (h : Rep r (ab1 x) c) : QG c x:=by
 obtain ⟨a1,b1,rfl,e1,a2,b2,rfl,e2,e3⟩:=h
 obtain rfl : a1=_:=e1
 obtain rfl : a2=_:=e2
 obtain rfl : b2 = []:=e3
 rfl
theorem acQ {r : Gh} {c : List Value} {g : GrD} (h : Rep r g.dat c) (k : g.ok) : GrG r c g:=by
 obtain ⟨a1,b1,rfl,e1,a2,b2,rfl,e2,a3,b3,rfl,e3,a4,b4,rfl,e4,a5,b5,rfl,e5,a6,b6,rfl,e6,a7,b7,rfl,e7,e8⟩:=h
 obtain rfl : a1=_:=e1
 obtain rfl : a2=_:=e2
 obtain rfl : a4=_:=e4
 obtain rfl : b7 = []:=e8
 obtain ⟨v3,rfl,h3⟩:=y9 (R:=QG) (fun c x _ h=>ab2 h) e3 k.1
 obtain ⟨v5,rfl,h5⟩:=y9 (R:=TyC r) (fun c x _ h=>TyG.of_rep h) e5 k.2.1
 obtain ⟨v6,rfl,h6⟩:=y9 (D:=Dat.str) (R:=Z0) (fun c x _ h=>h) e6 k.2.2.1
 obtain ⟨v7,rfl,h7⟩:=y9 (R:=PtG r) (fun c x hx h=>acP h (k.2.2.2.2 x hx)) e7 k.2.2.2.1
 exact ⟨v3,v5,v6,v7,rfl,h3,h5,h6,h7⟩
theorem acR {r : Gh} {c : List Value} {u : UnD} (h : Rep r u.dat c) (k : u.ok) : UnG r (.agg c.toArray) u:=by
 obtain ⟨a1,b1,rfl,e1,a2,b2,rfl,e2,a3,b3,rfl,e3,e4⟩:=h
 obtain rfl : a3=_:=e3
 obtain rfl : b3 = []:=e4
 obtain ⟨q,cap,rfl,h1,h2,h3⟩:=e1
 obtain ⟨vf,rfl,hf⟩:=y9 (R:=GrG r) (fun c x hx h=>acQ h (k.2.2 x hx)) e2 k.2.1
 rw [List.length_map] at h2 ⊢
 exact ⟨q,cap,vf,rfl,h1,h2,h3,k.1,hf⟩
end Go.Proofs
end
section
namespace Go.Sh
theorem p_id {P : Program} {s : Sem Value} {K : Value→Prop} (h : opP P s K) : opP P s K:=h
theorem q_id {P : Program} {w : World} {s : Sem Value} {K : Value→Prop} (h : opQ P w s K) : opQ P w s K:=h
end Go.Sh
end
section
namespace Go.Proofs
open Go.Sh
set_option maxRecDepth 100000
set_option linter.unusedSimpArgs false
set_option linter.unusedVariables false
theorem gA_ {P Q : Prop} (p : P) (h : Hid P→Q:=by
  intro hp9
  (repeat (first|(first|((with_reducible refine p_id ?_);first|refine s_p ?_|refine s_c (by omega) ?_)|((with_reducible refine q_id ?_);first|refine S.ld ?_|refine S.ldB ?_|refine S.ce ?_|refine S.ceB ?_|refine s_q ?_|refine s_qc (by omega) ?_)|with_reducible refine n_some ?_|rw [List.getD_cons_zero]|rw [List.getD_cons_succ])|refine s_c (by simp only [List.length_append,List.length_cons,List.length_nil];omega) ?_))
  exact hp9.out) : Q:=h ⟨p⟩
def stT (k : Int) : List UInt8:=if k = -1 then [46,42] else [46]++Lib.itoa k
def plT (p : PlD) : List UInt8:=if p.l<0 then [] else if p.ps.any (fun k=>decide (k < -1)) then [] else [95]++Lib.itoa p.l++(p.ps.map stT).flatten
def opT (o : OpD) : List UInt8:=if o.k=1 then Lib.itoa o.n else if o.k=2 then (if o.n=1 then [116,114,117,101] else [102,97,108,115,101])
 else if o.k=3 then [99,111,112,121,32]++plT o.pl else [109,111,118,101,32]++plT o.pl
def yg : List (List UInt8)→List UInt8
 |[]=>[]
 |[x]=>x
 |x::y::l=>x ++ [44,32]++yg (y::l)
def jk (l : List OpD) : List UInt8:=[40]++yg (l.map opT) ++ [41]
def doT (p : PtD) : List UInt8:=
 if p.op=1 then opT p.a else if p.op=2 then opT p.a ++ [32]++p.sign.data.toList ++ [32]++opT p.b else if p.op=3 then p.sign.data.toList ++ [32]++opT p.a
 else if p.op=4 then (if p.mu then [38,109,117,116,32]++plT p.fr else [38,32]++plT p.fr) else if p.op=5 then [98,111,120,32]++opT p.a
 else if p.op=6 then [35]++Lib.itoa p.st++jk p.args else if p.op=7 then [102]++Lib.itoa p.fn++jk p.args else if p.op=8 then [114,101,97,100]
 else if p.op=9 then [112,114,105,110,116,32]++opT p.a else if p.op=10 then [100,114,111,112,32]++plT p.fr else if p.op=11 then [100,101,97,100,32]++plT p.fr
 else if p.op=12 then [105,102,32]++opT p.a else [103,111,116,111]
def goT (p : PtD) (q : Int) : List UInt8:=if p.nx≠q+1∨p.op=12∨p.op=13 then [32,45,62,32]++Lib.itoa p.nx else []
def elT (p : PtD) : List UInt8:=if p.op=12 then [32,101,108,115,101,32]++Lib.itoa p.el else []
def ptT (p : PtD) (q : Int) : List UInt8:=
 if p.op=14 then [114,101,116,117,114,110] else (if p.op≤8 then plT p.to ++ [32,61,32] else [])++doT p++goT p q++elT p
def PlD.fit (p : PlD) : Prop:=yC p.l∧p.ps.length≤1000∧∀ k ∈ p.ps,yC k
def OpD.fit (o : OpD) : Prop:=yC o.n∧o.pl.fit
structure PtD.fit (p : PtD) : Prop where
 op1 : 1≤p.op
 op14 : p.op≤14
 to : p.to.fit
 a : p.a.fit
 b : p.b.fit
 args : p.args.length≤1000∧∀ o ∈ p.args,o.fit
 sign : p.sign.size≤1000
 fr : p.fr.fit
 fn : yC p.fn
 st : yC p.st
 nx : yC p.nx
 el : yC p.el
theorem ym {x : Int} (h : yC x) : (Lib.itoa x).length≤21:=Lib.itoa_length_le x h.1 (by have:=h.2;omega)
theorem JZ {k : Int} (h : yC k) : (stT k).length≤22:=by
 have:=ym h
 rw [stT];split
 ·decide
 ·simp only [List.length_append,List.length_cons,List.length_nil];omega
theorem QH {α : Type} {f : α→List UInt8} {n : Nat} : ∀ {l : List α},(∀ x ∈ l,(f x).length≤n)→((l.map f).flatten).length≤n*l.length
 |[],_=>Nat.zero_le _
 |x::l,h=>by
  have:=QH (l:=l) fun y hy=>h y (List.mem_cons_of_mem _ hy)
  have:=h x (List.mem_cons_self ..)
  simp only [List.map_cons,List.flatten_cons,List.length_append,List.length_cons]
  rw [Nat.mul_add];omega
theorem Yj {p : PlD} (h : p.fit) : (plT p).length≤23000:=by
 have h1:=ym h.1
 have h2:=QH (f:=stT) (n:=22) fun k hk=>JZ (h.2.2 k hk)
 have h3:=h.2.1
 rw [plT]
 split
 ·exact Nat.zero_le _
 split
 ·exact Nat.zero_le _
 simp only [List.length_append,List.length_cons,List.length_nil];omega
theorem Yk {o : OpD} (h : o.fit) : (opT o).length≤24000:=by
 have h1:=ym h.1
 have h2:=Yj h.2
 rw [opT]
 split
 ·omega
 split
 ·split<;>simp
 split<;>simp only [List.length_append,List.length_cons,List.length_nil]<;>omega
theorem Vm : ∀ {l : List (List UInt8)},(∀ x ∈ l,x.length≤24000)→(yg l).length≤24002*l.length
 |[],_=>Nat.zero_le _
 |[x],h=>by have:=h x (List.mem_cons_self ..);simp only [yg,List.length_cons,List.length_nil];omega
 |x::y::l,h=>by
  have h1:=h x (List.mem_cons_self ..)
  have h2:=Vm (l:=y::l) fun z hz=>h z (List.mem_cons_of_mem _ hz)
  simp only [yg,List.length_append,List.length_cons,List.length_nil] at h2 ⊢
  omega
theorem aeD {l : List OpD} (h : ∀ o ∈ l,o.fit) : ∀ x ∈ l.map opT,x.length≤24000:=fun x hx=>by
 obtain ⟨o,ho,rfl⟩:=List.mem_map.1 hx;exact Yk (h o ho)
theorem Vn {l : List OpD} (h : l.length≤1000∧∀ o ∈ l,o.fit) : (yg (l.map opT)).length≤24002000:=by
 have:=Vm (aeD h.2)
 rw [List.length_map] at this
 have:=h.1
 omega
theorem aaF {l : List OpD} (h : l.length≤1000∧∀ o ∈ l,o.fit) : (jk l).length≤24002002:=by
 have:=Vn h
 simp only [jk,List.length_append,List.length_cons,List.length_nil];omega
theorem aeE {c : Prop} [Decidable c] {x y : List UInt8} {n : Nat} (hx : x.length≤n) (hy : y.length≤n) : (if c then x else y).length≤n:=by
 split
 ·exact hx
 ·exact hy
theorem aeF {p : PtD} (h : p.fit) : (doT p).length≤25000000:=by
 have h1:=Yk h.a;have h2:=Yk h.b;have h3:=Yj h.fr;have h4:=aaF h.args
 have h5:=ym h.st;have h6:=ym h.fn
 have h7 : p.sign.data.toList.length≤1000:=by have:=h.sign;rwa [ByteArray.size,← Array.length_toList] at this
 rw [doT]
 repeat' with_reducible refine aeE ?_ ?_
 all_goals (try simp only [List.length_append,List.length_cons,List.length_nil])
 all_goals omega
theorem aeG {p : PtD} {q : Int} (h : p.fit) : (goT p q).length≤25:=by
 have h1:=ym h.nx
 rw [goT];split
 ·simp only [List.length_append,List.length_cons,List.length_nil];omega
 ·exact Nat.zero_le _
end Go.Proofs
end
section
namespace Go.Proofs
open Go.Shelf
set_option maxRecDepth 100000
def Tryz.jL : Go.Shelf.Ren:=⟨fun|156=>78|165=>117|166=>118|169=>119|240=>150|241=>151|276=>184|277=>185|n=>n,fun|31=>30|9=>9|3=>3|4=>4|0=>0|20=>20|72=>176|76=>180|70=>173|37=>174|75=>179|127=>214|164=>240|5=>5|80=>182|n=>n,fun|n=>n⟩
theorem Tryz.XV : Go.Proofs.Lays.n156 Tryz.prog Tryz.jL:={
 mixed:=by kernel_rfl
 f156:=Tryz.func78.trans (congrArg some (by kernel_rfl))
 f165:=Tryz.func117.trans (congrArg some (by kernel_rfl))
 f166:=Tryz.func118.trans (congrArg some (by kernel_rfl))
 f169:=Tryz.func119.trans (congrArg some (by kernel_rfl))
 f240:=Tryz.func150.trans (congrArg some (by kernel_rfl))
 f241:=Tryz.func151.trans (congrArg some (by kernel_rfl))
 f276:=Tryz.func184.trans (congrArg some (by kernel_rfl))
 f277:=Tryz.func185.trans (congrArg some (by kernel_rfl))
 t0:=Tryz.underlying0
 a0:=Tryz.isAgg0
 z0:=Tryz.sizeOf0
 v0:=Tryz.zeroValue0
 t3:=Tryz.underlying3
 a3:=Tryz.isAgg3
 z3:=Tryz.sizeOf3
 v3:=Tryz.zeroValue3
 t4:=Tryz.underlying4
 a4:=Tryz.isAgg4
 z4:=Tryz.sizeOf4
 v4:=Tryz.zeroValue4
 t9:=Tryz.underlying9
 a9:=Tryz.isAgg9
 z9:=Tryz.sizeOf9
 v9:=Tryz.zeroValue9
 t20:=Tryz.underlying20
 a20:=Tryz.isAgg20
 z20:=Tryz.sizeOf20
 v20:=Tryz.zeroValue20
 t31:=Tryz.underlying30
 a31:=Tryz.isAgg30
 z31:=Tryz.sizeOf30
 v31:=Tryz.zeroValue30
 t37:=Tryz.underlying174
 a37:=Tryz.isAgg174
 z37:=Tryz.sizeOf174
 v37:=Tryz.zeroValue174
 t70:=Tryz.underlying173
 a70:=Tryz.isAgg173
 z70:=Tryz.sizeOf173
 v70:=Tryz.zeroValue173
 t72:=Tryz.underlying176
 a72:=Tryz.isAgg176
 z72:=Tryz.sizeOf176
 v72:=Tryz.zeroValue176
 t75:=Tryz.underlying179
 a75:=Tryz.isAgg179
 z75:=Tryz.sizeOf179
 v75:=Tryz.zeroValue179
 t76:=Tryz.underlying180
 a76:=Tryz.isAgg180
 z76:=Tryz.sizeOf180
 v76:=Tryz.zeroValue180
 t127:=Tryz.underlying214
 a127:=Tryz.isAgg214
 z127:=Tryz.sizeOf214
 v127:=Tryz.zeroValue214
 t164:=Tryz.underlying240
 a164:=Tryz.isAgg240
 z164:=Tryz.sizeOf240
 v164:=Tryz.zeroValue240 }
theorem Tryz.xL : Builder.Extra Tryz.prog Tryz.jL:={
 sizeBuilder:=by kernel_rfl
 liesBuilder:=by kernel_rfl
 t5:=Tryz.underlying5
 a5:=Tryz.isAgg5
 z5:=Tryz.sizeOf5
 v5:=Tryz.zeroValue5
 infoByte:=by kernel_rfl
 cellsByte:=by kernel_rfl
 sizeByte:=by kernel_rfl
 neB5:=by decide }
def Tryz.aaG : Go.Shelf.Ren:=⟨fun|171=>16|243=>58|246=>86|283=>124|284=>125|285=>126|286=>127|129=>140|317=>171|318=>172|319=>173|320=>174|337=>193|338=>194|n=>n,fun|3=>3|9=>9|2=>2|4=>4|171=>184|0=>0|53=>185|37=>174|5=>5|173=>188|212=>231|51=>202|20=>20|213=>232|46=>154|232=>249|233=>250|n=>n,fun|17=>0|18=>2|19=>3|n=>n⟩
theorem Tryz.adF : Go.Proofs.LaysM.n171 Tryz.prog Tryz.aaG:={
 mixed:=by kernel_rfl
 f129:=Tryz.func140.trans (congrArg some (by kernel_rfl))
 f171:=Tryz.func16.trans (congrArg some (by kernel_rfl))
 f243:=Tryz.func58.trans (congrArg some (by kernel_rfl))
 f246:=Tryz.func86.trans (congrArg some (by kernel_rfl))
 f283:=Tryz.func124.trans (congrArg some (by kernel_rfl))
 f284:=Tryz.func125.trans (congrArg some (by kernel_rfl))
 f285:=Tryz.func126.trans (congrArg some (by kernel_rfl))
 f286:=Tryz.func127.trans (congrArg some (by kernel_rfl))
 f317:=Tryz.func171.trans (congrArg some (by kernel_rfl))
 f318:=Tryz.func172.trans (congrArg some (by kernel_rfl))
 f319:=Tryz.func173.trans (congrArg some (by kernel_rfl))
 f320:=Tryz.func174.trans (congrArg some (by kernel_rfl))
 f337:=Tryz.func193.trans (congrArg some (by kernel_rfl))
 f338:=Tryz.func194.trans (congrArg some (by kernel_rfl))
 t0:=Tryz.underlying0
 a0:=Tryz.isAgg0
 z0:=Tryz.sizeOf0
 v0:=Tryz.zeroValue0
 t2:=Tryz.underlying2
 a2:=Tryz.isAgg2
 z2:=Tryz.sizeOf2
 v2:=Tryz.zeroValue2
 t3:=Tryz.underlying3
 a3:=Tryz.isAgg3
 z3:=Tryz.sizeOf3
 v3:=Tryz.zeroValue3
 t4:=Tryz.underlying4
 a4:=Tryz.isAgg4
 z4:=Tryz.sizeOf4
 v4:=Tryz.zeroValue4
 t5:=Tryz.underlying5
 a5:=Tryz.isAgg5
 z5:=Tryz.sizeOf5
 v5:=Tryz.zeroValue5
 t9:=Tryz.underlying9
 a9:=Tryz.isAgg9
 z9:=Tryz.sizeOf9
 v9:=Tryz.zeroValue9
 t20:=Tryz.underlying20
 a20:=Tryz.isAgg20
 z20:=Tryz.sizeOf20
 v20:=Tryz.zeroValue20
 t37:=Tryz.underlying174
 a37:=Tryz.isAgg174
 z37:=Tryz.sizeOf174
 v37:=Tryz.zeroValue174
 t46:=Tryz.underlying154
 a46:=Tryz.isAgg154
 z46:=Tryz.sizeOf154
 v46:=Tryz.zeroValue154
 t51:=Tryz.underlying202
 a51:=Tryz.isAgg202
 z51:=Tryz.sizeOf202
 v51:=Tryz.zeroValue202
 t53:=Tryz.underlying185
 a53:=Tryz.isAgg185
 z53:=Tryz.sizeOf185
 v53:=Tryz.zeroValue185
 t171:=Tryz.underlying184
 a171:=Tryz.isAgg184
 z171:=Tryz.sizeOf184
 v171:=Tryz.zeroValue184
 t173:=Tryz.underlying188
 a173:=Tryz.isAgg188
 z173:=Tryz.sizeOf188
 v173:=Tryz.zeroValue188
 t212:=Tryz.underlying231
 a212:=Tryz.isAgg231
 z212:=Tryz.sizeOf231
 v212:=Tryz.zeroValue231
 t213:=Tryz.underlying232
 a213:=Tryz.isAgg232
 z213:=Tryz.sizeOf232
 t232:=Tryz.underlying249
 a232:=Tryz.isAgg249
 z232:=Tryz.sizeOf249
 v232:=Tryz.zeroValue249
 t233:=Tryz.underlying250
 a233:=Tryz.isAgg250
 z233:=Tryz.sizeOf250
 v233:=Tryz.zeroValue250
 g17:=by kernel_rfl
 g18:=by kernel_rfl
 g19:=by kernel_rfl
 i0:=by kernel_rfl
 i2:=by kernel_rfl
 i3:=by kernel_rfl
 i4:=by kernel_rfl
 i5:=by kernel_rfl
 i9:=by kernel_rfl
 i20:=by kernel_rfl
 i37:=by kernel_rfl
 i46:=by kernel_rfl
 i51:=by kernel_rfl
 i53:=by kernel_rfl
 i171:=by kernel_rfl
 i173:=by kernel_rfl
 i212:=by kernel_rfl
 i232:=by kernel_rfl
 i233:=by kernel_rfl
 m17:=by kernel_rfl
 m18:=by kernel_rfl
 m19:=by kernel_rfl }
def Tryz.aaH : Go.Shelf.Ren:=⟨fun|173=>85|246=>86|283=>124|284=>125|285=>126|286=>127|129=>140|317=>171|318=>172|319=>173|320=>174|337=>193|338=>194|n=>n,fun|2=>2|3=>3|9=>9|4=>4|171=>184|0=>0|53=>185|37=>174|5=>5|173=>188|212=>231|51=>202|20=>20|213=>232|46=>154|232=>249|233=>250|n=>n,fun|17=>0|18=>2|19=>3|n=>n⟩
theorem Tryz.adG : Go.Proofs.LaysM.n173 Tryz.prog Tryz.aaH:={
 mixed:=by kernel_rfl
 f129:=Tryz.func140.trans (congrArg some (by kernel_rfl))
 f173:=Tryz.func85.trans (congrArg some (by kernel_rfl))
 f246:=Tryz.func86.trans (congrArg some (by kernel_rfl))
 f283:=Tryz.func124.trans (congrArg some (by kernel_rfl))
 f284:=Tryz.func125.trans (congrArg some (by kernel_rfl))
 f285:=Tryz.func126.trans (congrArg some (by kernel_rfl))
 f286:=Tryz.func127.trans (congrArg some (by kernel_rfl))
 f317:=Tryz.func171.trans (congrArg some (by kernel_rfl))
 f318:=Tryz.func172.trans (congrArg some (by kernel_rfl))
 f319:=Tryz.func173.trans (congrArg some (by kernel_rfl))
 f320:=Tryz.func174.trans (congrArg some (by kernel_rfl))
 f337:=Tryz.func193.trans (congrArg some (by kernel_rfl))
 f338:=Tryz.func194.trans (congrArg some (by kernel_rfl))
 t0:=Tryz.underlying0
 a0:=Tryz.isAgg0
 z0:=Tryz.sizeOf0
 v0:=Tryz.zeroValue0
 t2:=Tryz.underlying2
 a2:=Tryz.isAgg2
 z2:=Tryz.sizeOf2
 v2:=Tryz.zeroValue2
 t3:=Tryz.underlying3
 a3:=Tryz.isAgg3
 z3:=Tryz.sizeOf3
 v3:=Tryz.zeroValue3
 t4:=Tryz.underlying4
 a4:=Tryz.isAgg4
 z4:=Tryz.sizeOf4
 v4:=Tryz.zeroValue4
 t5:=Tryz.underlying5
 a5:=Tryz.isAgg5
 z5:=Tryz.sizeOf5
 v5:=Tryz.zeroValue5
 t9:=Tryz.underlying9
 a9:=Tryz.isAgg9
 z9:=Tryz.sizeOf9
 v9:=Tryz.zeroValue9
 t20:=Tryz.underlying20
 a20:=Tryz.isAgg20
 z20:=Tryz.sizeOf20
 v20:=Tryz.zeroValue20
 t37:=Tryz.underlying174
 a37:=Tryz.isAgg174
 z37:=Tryz.sizeOf174
 v37:=Tryz.zeroValue174
 t46:=Tryz.underlying154
 a46:=Tryz.isAgg154
 z46:=Tryz.sizeOf154
 v46:=Tryz.zeroValue154
 t51:=Tryz.underlying202
 a51:=Tryz.isAgg202
 z51:=Tryz.sizeOf202
 v51:=Tryz.zeroValue202
 t53:=Tryz.underlying185
 a53:=Tryz.isAgg185
 z53:=Tryz.sizeOf185
 v53:=Tryz.zeroValue185
 t171:=Tryz.underlying184
 a171:=Tryz.isAgg184
 z171:=Tryz.sizeOf184
 v171:=Tryz.zeroValue184
 t173:=Tryz.underlying188
 a173:=Tryz.isAgg188
 z173:=Tryz.sizeOf188
 v173:=Tryz.zeroValue188
 t212:=Tryz.underlying231
 a212:=Tryz.isAgg231
 z212:=Tryz.sizeOf231
 v212:=Tryz.zeroValue231
 t213:=Tryz.underlying232
 a213:=Tryz.isAgg232
 z213:=Tryz.sizeOf232
 t232:=Tryz.underlying249
 a232:=Tryz.isAgg249
 z232:=Tryz.sizeOf249
 v232:=Tryz.zeroValue249
 t233:=Tryz.underlying250
 a233:=Tryz.isAgg250
 z233:=Tryz.sizeOf250
 v233:=Tryz.zeroValue250
 g17:=by kernel_rfl
 g18:=by kernel_rfl
 g19:=by kernel_rfl
 i0:=by kernel_rfl
 i2:=by kernel_rfl
 i3:=by kernel_rfl
 i4:=by kernel_rfl
 i5:=by kernel_rfl
 i9:=by kernel_rfl
 i20:=by kernel_rfl
 i37:=by kernel_rfl
 i46:=by kernel_rfl
 i51:=by kernel_rfl
 i53:=by kernel_rfl
 i171:=by kernel_rfl
 i173:=by kernel_rfl
 i212:=by kernel_rfl
 i232:=by kernel_rfl
 i233:=by kernel_rfl
 m17:=by kernel_rfl
 m18:=by kernel_rfl
 m19:=by kernel_rfl }
end Go.Proofs
end
section
namespace Go.Proofs.Tryz
open Go.Sh
set_option maxRecDepth 100000
def Qp (t0 : Value) (w : World) (K : VW) : Prop:=
 pw w (Instr.box 25 t0) fun t1 w1=>
 pw w1 (Instr.alloc 25 true (.tuple #[])) fun t2 w2=>
 fl w2 t1 25 2 3 fun t16=>pp (Instr.build 25 #[(2,t16)]) fun t17=>pw w2 (Instr.alloc 25 true (.tuple #[])) fun t3 w3=>
 so w3 25 t3 t17 fun w4=>zp [(i6 0)] w4 (fun s6 _d7 w8 K5=>
 fl w8 t1 25 0 22 fun t20=>pp (Builtin.len_ #[22] 3 #[t20]) fun t21=>bf .lss 3 (s6.getD 0 undef) t21 fun t22=>zb t22 (fl w8 t1 25 0 22 fun t26=>px 22 t26 (s6.getD 0 undef) fun t28=>fl w8 t28 84 0 9 fun t30=>pp (Instr.build 84 #[(0,t30)]) fun t31=>pw w8 (Instr.alloc 84 true (.tuple #[])) fun t5 w9=>
 so w9 84 t5 t31 fun w10=>zp [(i6 0)] w10 (fun s12 _d13 w14 K11=>
 fl w14 t1 25 0 22 fun t34=>px 22 t34 (s6.getD 0 undef) fun t36=>fl w14 t36 84 1 82 fun t38=>pp (Builtin.len_ #[82] 3 #[t38]) fun t39=>bf .lss 3 (s12.getD 0 undef) t39 fun t40=>zb t40 (fl w14 t1 25 0 22 fun t44=>px 22 t44 (s6.getD 0 undef) fun t46=>fl w14 t46 84 1 82 fun t48=>xl w14 82 t48 (s12.getD 0 undef) 86 fun t51=>pw w14 (Instr.alloc 86 true (.tuple #[])) fun t7 w15=>
 so w15 86 t7 t51 fun w16=>fl w16 t7 86 1 57 fun t53=>ca qw #[t53] w16 fun t54 w17=>
 pf 86 t7 1 fun t55=>so w17 57 t55 t54 fun w18=>fl w18 t5 84 1 82 fun t57=>lo w18 86 t7 fun t58=>pw w18 (Instr.buildSlice 82 1 #[(0,t58)]) fun t59 w19=>
 pw w19 (Builtin.append_ #[82,82] 82 #[t57,t59]) fun t60 w20=>
 pf 84 t5 1 fun t61=>so w20 82 t61 t60 fun w21=>bt .add 3 (s12.getD 0 undef) (i6 1) fun t42=>K11 [t42] w21) (fl w14 t3 25 0 22 fun t63=>lo w14 84 t5 fun t64=>pw w14 (Instr.buildSlice 22 1 #[(0,t64)]) fun t65 w22=>
 pw w22 (Builtin.append_ #[22,22] 22 #[t63,t65]) fun t66 w23=>
 pf 25 t3 0 fun t67=>so w23 22 t67 t66 fun w24=>bt .add 3 (s6.getD 0 undef) (i6 1) fun t24=>K5 [t24] w24))) (zp [(i6 0)] w8 (fun s26 _d27 w28 K25=>
 fl w28 t1 25 1 23 fun t70=>pp (Builtin.len_ #[23] 3 #[t70]) fun t71=>bf .lss 3 (s26.getD 0 undef) t71 fun t72=>zb t72 (fl w28 t1 25 1 23 fun t76=>xl w28 23 t76 (s26.getD 0 undef) 33 fun t79=>pw w28 (Instr.alloc 33 true (.tuple #[])) fun t9 w29=>
 so w29 33 t9 t79 fun w30=>fl w30 t9 33 0 9 fun t81=>fl w30 t9 33 1 3 fun t83=>fl w30 t9 33 3 3 fun t85=>pp (Instr.build 33 #[(0,t81),(1,t83),(3,t85)]) fun t86=>pw w30 (Instr.alloc 33 true (.tuple #[])) fun t10 w31=>
 so w31 33 t10 t86 fun w32=>fl w32 t10 33 2 28 fun t88=>fl w32 t9 33 2 28 fun t90=>pw w32 (Builtin.append_ #[28,28] 28 #[t88,t90]) fun t91 w33=>
 pf 33 t10 2 fun t92=>so w33 28 t92 t91 fun w34=>fl w34 t10 33 5 30 fun t94=>fl w34 t9 33 5 30 fun t96=>pw w34 (Builtin.append_ #[30,30] 30 #[t94,t96]) fun t97 w35=>
 pf 33 t10 5 fun t98=>so w35 30 t98 t97 fun w36=>zp [(i6 0)] w36 (fun s38 _d39 w40 K37=>
 fl w40 t9 33 4 29 fun t101=>pp (Builtin.len_ #[29] 3 #[t101]) fun t102=>bf .lss 3 (s38.getD 0 undef) t102 fun t103=>zb t103 (fl w40.drew t10 33 4 29 fun t107=>fl w40.drew t9 33 4 29 fun t109=>xl w40.drew 29 t109 (s38.getD 0 undef) 57 fun t112=>ca qw #[t112] w40.drew fun t113 w41=>
 Ext w40.drew w41∧
 pw w41 (Instr.buildSlice 29 1 #[(0,t113)]) fun t114 w42=>
 Ext w41 w42∧
 pw w42 (Builtin.append_ #[29,29] 29 #[t107,t114]) fun t115 w43=>
 pf 33 t10 4 fun t116=>so w43 29 t116 t115 fun w44=>bt .add 3 (s38.getD 0 undef) (i6 1) fun t105=>K37 [t105] w44) (zp [(i6 0)] w40 (fun s46 _d47 w48 K45=>
 fl w48 t9 33 6 31 fun t119=>pp (Builtin.len_ #[31] 3 #[t119]) fun t120=>bf .lss 3 (s46.getD 0 undef) t120 fun t121=>zb t121 (fl w48 t9 33 6 31 fun t125=>xl w48 31 t125 (s46.getD 0 undef) 44 fun t128=>pw w48 (Instr.alloc 44 true (.tuple #[])) fun t13 w49=>
 so w49 44 t13 t128 fun w50=>fl w50 t13 44 1 38 fun t130=>ca xe #[t130] w50 fun t131 w51=>
 pf 44 t13 1 fun t132=>so w51 38 t132 t131 fun w52=>fl w52 t13 44 6 38 fun t134=>ca xe #[t134] w52 fun t135 w53=>
 pf 44 t13 6 fun t136=>so w53 38 t136 t135 fun w54=>fl w54 t13 44 2 41 fun t138=>ca yP #[t138] w54 fun t139 w55=>
 pf 44 t13 2 fun t140=>so w55 41 t140 t139 fun w56=>fl w56 t13 44 3 41 fun t142=>ca yP #[t142] w56 fun t143 w57=>
 pf 44 t13 3 fun t144=>so w57 41 t144 t143 fun w58=>pf 44 t13 4 fun t145=>so w58 42 t145 (Value.slice Option.none 0 0) fun w59=>zp [(i6 0)] w59 (fun s61 _d62 w63 K60=>
 fl w63 t9 33 6 31 fun t148=>px 31 t148 (s46.getD 0 undef) fun t150=>fl w63 t150 44 4 42 fun t152=>pp (Builtin.len_ #[42] 3 #[t152]) fun t153=>bf .lss 3 (s61.getD 0 undef) t153 fun t154=>zb t154 (fl w63.drew t13 44 4 42 fun t158=>fl w63.drew t9 33 6 31 fun t160=>px 31 t160 (s46.getD 0 undef) fun t162=>fl w63.drew t162 44 4 42 fun t164=>xl w63.drew 42 t164 (s61.getD 0 undef) 41 fun t167=>ca yP #[t167] w63.drew fun t168 w64=>
 Ext w63.drew w64∧
 pw w64 (Instr.buildSlice 42 1 #[(0,t168)]) fun t169 w65=>
 Ext w64 w65∧
 pw w65 (Builtin.append_ #[42,42] 42 #[t158,t169]) fun t170 w66=>
 pf 44 t13 4 fun t171=>so w66 42 t171 t170 fun w67=>bt .add 3 (s61.getD 0 undef) (i6 1) fun t156=>K60 [t156] w67) (fl w63 t10 33 6 31 fun t173=>lo w63 44 t13 fun t174=>pw w63 (Instr.buildSlice 31 1 #[(0,t174)]) fun t175 w68=>
 pw w68 (Builtin.append_ #[31,31] 31 #[t173,t175]) fun t176 w69=>
 pf 33 t10 6 fun t177=>so w69 31 t177 t176 fun w70=>bt .add 3 (s46.getD 0 undef) (i6 1) fun t123=>K45 [t123] w70))) (fl w48 t3 25 1 23 fun t179=>lo w48 33 t10 fun t180=>pw w48 (Instr.buildSlice 23 1 #[(0,t180)]) fun t181 w71=>
 pw w71 (Builtin.append_ #[23,23] 23 #[t179,t181]) fun t182 w72=>
 pf 25 t3 1 fun t183=>so w72 23 t183 t182 fun w73=>bt .add 3 (s26.getD 0 undef) (i6 1) fun t74=>K25 [t74] w73))))) (lo w28 25 t3 fun t184=>so w28 25 t2 t184 fun w74=>pq w74 (zH 25 t2) fun r75=>K r75 w74))))
theorem aaI {t0 : Value} {w : World} {K : VW} (h : Qp t0 w K) : zd prog jK #[t0] w K:=
 okC false (.s (.r (rz 2 0 10)) (.s (.r (rz 5 0 644)) (.s (.s (.r (rz 1 0 0)) (.b (.lp [4] (.s (.s (.r (rz 5 0 16)) (.c (.n) (.n))) (.s (.b (.s (.r (rz 9 0 164868)) (.s (.s (.r (rz 1 0 0)) (.b (.lp [6] (.s (.s (.r (rz 9 0 4112)) (.c (.n) (.n))) (.s (.b (.s (.r (rz 11 0 2688004)) (.s (.r (rz 5 0 548)) (.r (rz 7 0 8852))))) (.r (rz 3 0 0))))))) (.r (rz 7 0 8852))))) (.r (rz 3 0 0))))))) (.s (.s (.r (rz 1 0 0)) (.b (.lp [8] (.s (.s (.r (rz 5 0 16)) (.c (.n) (.n))) (.s (.b (.s (.r (rz 7 0 10500)) (.s (.r (rz 9 0 164932)) (.s (.r (rz 7 0 8772)) (.s (.r (rz 7 0 8772)) (.s (.s (.r (rz 1 0 0)) (.b (.lp [11] (.s (.s (.r (rz 5 0 16)) (.c (.n) (.n))) (.s (.b (.r (rz 12 0 9162820))) (.r (rz 3 0 0))))))) (.s (.s (.r (rz 1 0 0)) (.b (.lp [12] (.s (.s (.r (rz 5 0 16)) (.c (.n) (.n))) (.s (.b (.s (.r (rz 7 0 10500)) (.s (.r (rz 5 0 548)) (.s (.r (rz 5 0 548)) (.s (.r (rz 5 0 548)) (.s (.r (rz 5 0 548)) (.s (.r (rz 2 0 8)) (.s (.s (.r (rz 1 0 0)) (.b (.lp [14] (.s (.s (.r (rz 9 0 4112)) (.c (.n) (.n))) (.s (.b (.r (rz 16 0 2345680964))) (.r (rz 3 0 0))))))) (.r (rz 7 0 8852)))))))))) (.r (rz 3 0 0))))))) (.r (rz 7 0 8852))))))))) (.r (rz 3 0 0))))))) (.s (.r (rz 2 0 9)) (.n)))))) func10 rfl (by kernel_rfl) (by kernel_rfl) h
def Zk (t0 : Value) (w : World) (K : VW) : Prop:=
 pw w (Instr.box 38 t0) fun t1 w1=>
 pw w1 (Instr.alloc 38 true (.tuple #[])) fun t2 w2=>
 fl w2 t1 38 0 3 fun t5=>pp (Instr.build 38 #[(0,t5)]) fun t6=>pw w2 (Instr.alloc 38 true (.tuple #[])) fun t3 w3=>
 so w3 38 t3 t6 fun w4=>fl w4 t3 38 1 36 fun t8=>fl w4 t1 38 1 36 fun t10=>pw w4 (Builtin.append_ #[36,36] 36 #[t8,t10]) fun t11 w5=>
 pf 38 t3 1 fun t12=>so w5 36 t12 t11 fun w6=>lo w6 38 t3 fun t13=>so w6 38 t2 t13 fun w7=>pq w7 (zH 38 t2) fun r8=>K r8 w7
theorem X9 {t0 : Value} {w : World} {K : VW} (h : Zk t0 w K) : zd prog xe #[t0] w K:=
 okC false (.s (.r (rz 2 0 10)) (.s (.r (rz 5 0 644)) (.s (.r (rz 7 0 8772)) (.s (.r (rz 2 0 9)) (.n))))) func37 rfl (by kernel_rfl) (by kernel_rfl) h
def j6 (t0 : Value) (w : World) (K : VW) : Prop:=
 pw w (Instr.box 41 t0) fun t1 w1=>
 pw w1 (Instr.alloc 41 true (.tuple #[])) fun t2 w2=>
 fl w2 t1 41 2 38 fun t4=>ca xe #[t4] w2 fun t5 w3=>
 pf 41 t1 2 fun t6=>so w3 38 t6 t5 fun w4=>lo w4 41 t1 fun t7=>so w4 41 t2 t7 fun w5=>pq w5 (zH 41 t2) fun r6=>K r6 w5
theorem Y4 {t0 : Value} {w : World} {K : VW} (h : j6 t0 w K) : zd prog yP #[t0] w K:=
 okC false (.s (.r (rz 2 0 10)) (.s (.r (rz 5 0 548)) (.s (.r (rz 2 0 9)) (.n)))) func38 rfl (by kernel_rfl) (by kernel_rfl) h
def jl (t0 : Value) (w : World) (K : VW) : Prop:=
 ca xE #[t0] w fun t4 w1=>
 K t4 w1
theorem Yl {t0 : Value} {w : World} {K : VW} (h : jl t0 w K) : zd prog x6 #[t0] w K:=
 okC false (.s (.r (rz 1 0 0)) (.s (.r (rz 3 0 8)) (.n))) func116 rfl (by kernel_rfl) (by kernel_rfl) h
def xG (t0 : Value) (w : World) (K : VW) : Prop:=
 zb t0 (K (Value.string { data:=#[116,114,117,101] }) w) (K (Value.string { data:=#[102,97,108,115,101] }) w)
theorem jm {t0 : Value} {w : World} {K : VW} (h : xG t0 w K) : zd prog xE #[t0] w K:=
 okC false (.s (.r (rz 1 0 0)) (.s (.s (.r (rz 1 0 0)) (.c (.s (.r (rz 1 0 0)) (.n)) (.n))) (.s (.r (rz 1 0 0)) (.n)))) func149 rfl (by kernel_rfl) (by kernel_rfl) h
end Go.Proofs.Tryz
end
section
namespace Go.Proofs
open Go.Sh Go.RowKit
set_option maxRecDepth 100000
set_option linter.unusedSimpArgs false
set_option linter.unusedVariables false
def TabZ (r : Gh) : Prop := Ob r fun w => Lib.TabIs Tryz.prog w "internal/strconv.uint64pow10" .u64 Lib.pow10Tab
theorem TabZ.up {r s : Gh} (h : TabZ r) [l : Le r s] : TabZ s:=Ob.up h
theorem Vo {w : World} {k : Nat} {os : Array Obj} : Ext w (Sort.grow (w.drewN k) os):=
 ⟨rfl,rfl,rfl,by simp [Sort.grow,World.drewN],fun j hj=>by
  show (w.heap++os)[j]? = _
  exact Array.getElem?_append_left hj⟩
theorem vP {r : Gh} {x : Int} {w : World} {K : Value→World→Prop} (hT : TabZ r) (hx : yC x) (hr : Holds r w) (h : ∀ w',Ext w w'→K (.string (bs (Lib.itoa x))) w') : zd Tryz.prog Tryz.yK #[.int .i64 x] w K:=by
 refine Calls.mono (Any.strconv_Itoa Tryz.adF x hx.1 (by have:=hx.2;omega) w (hT w hr)) ?_
 rintro e w' ⟨rfl,k,os,rfl⟩
 exact ⟨_,rfl,h _ Vo⟩
theorem abi {r : Gh} {x : Int} {w : World} {K : Value→World→Prop} (hT : TabZ r) (hx : yC x) (hr : Holds r w) (h : ∀ w',Ext w w'→K (.string (bs (Lib.itoa x))) w') : zd Tryz.prog Tryz.jt #[.int .i64 x,.int .i64 10] w K:=by
 refine Calls.mono (Any.strconv_FormatInt_10 Tryz.adG x hx.1 (by have:=hx.2;omega) w (hT w hr)) ?_
 rintro e w' ⟨rfl,k,os,rfl⟩
 exact ⟨_,rfl,h _ Vo⟩
theorem aaJ {b : Bool} {w : World} {K : Value→World→Prop} (h : K (.string (bs (if b then [116,114,117,101] else [102,97,108,115,101]))) w) : zd Tryz.prog Tryz.x6 #[.bool b] w K:=by
 refine Tryz.Yl ?_
 unfold Tryz.jl
 refine gg_ ?_
 refine Tryz.jm ?_
 unfold Tryz.xG
 refine gg_ ?_
 cases b
 ·exact c_f rfl h
 ·exact c_t rfl h
theorem Ext.below {w0 w w' : World} (e : Ext w0 w) (h : Below w0.heap.size w w') : Ext w0 w':=Below.trans e h
def Bld (B b : Nat) (l : List UInt8) (w : World) : Prop:=B≤w.heap.size∧Lib.IsBuilder 176 5 B b (Lib.byteCells l) w
theorem afj {w : World} {base : Nat} {e : TypeId} {size : Nat} {v : Value} {n : Nat} {xs : List Value} (h : w.ownsRow base e size v n xs) {g : Nat} (hg : v.ownBlock=some g) : g<w.heap.size:=by
 rcases ZB h with h0|⟨g',cap,c,hb,rfl,B,_⟩
 ·rw [h0] at hg;cases hg
 ·rw [hb] at hg;cases hg;exact (Array.getElem?_eq_some_iff.1 B).1
theorem Bld.ext {B b : Nat} {l : List UInt8} {w w' : World} (h : Bld B b l w) (e : Ext w w') : Bld B b l w':=by
 have key : ∀ p,Lib.BuilderAt 176 5 B b p (Lib.byteCells l) w→Lib.BuilderAt 176 5 B b p (Lib.byteCells l) w':=fun p h=>by
  obtain ⟨h1,v,h2,h3,h4⟩:=h
  exact ⟨h1,v,(e.block b (Array.getElem?_eq_some_iff.1 h2).1).trans h2,aao h3 (fun g hg=>e.block g (afj h3 hg)),h4⟩
 exact ⟨Nat.le_trans h.1 e.size,h.2.imp (key _) (key _)⟩
theorem acS {w : World} {K : Value→World→Prop} (h : ∀ b w',Ext w w'→Bld w.heap.size b [] w'→K (.pointer (some ⟨b,0,none⟩)) w') : opW Tryz.prog w (Instr.alloc 176 true (.tuple #[])) K:=
 JH (c:=[.pointer none,.slice none 0 0]) ZrT.h fun b w' hb e hs B=>h b w' e ⟨by omega,.inl ⟨by omega,.slice none 0 0,B,World.ownsRow_nil _ _ _ _,by simp [Value.ownBlock]⟩⟩
theorem VL (l m : List UInt8) : Lib.byteCells (l++m)=Lib.byteCells l++Lib.byteCells m:=List.map_append
theorem vj {B b : Nat} {l m : List UInt8} {w : World} {K : Value→World→Prop} (hb : Bld B b l w) (hl : l.length+m.length≤140737488355328) (h : ∀ v w',Below B w w'→Bld B b (l++m) w'→K v w') :
  zd Tryz.prog Tryz.zX #[.pointer (some ⟨b,0,none⟩),.string (bs m)] w K:=by
 refine Calls.mono (Any.Builder_WriteString ({ Tryz.XV with } : Lays.n166 Tryz.prog Tryz.jL) Tryz.xL B b (Lib.byteCells l) (bs m) w hb.2 (by rw [JJ];simpa [Lib.byteCells] using hl) hb.1) ?_
 rintro e w' ⟨rfl,h1,h2⟩
 refine ⟨_,rfl,h _ _ h2 ⟨Nat.le_trans hb.1 h2.size,.inr ?_⟩⟩
 rw [VL]
 exact h1
theorem acT {B b : Nat} {l : List UInt8} {w : World} {K : Value→World→Prop} (hb : Bld B b l w) (h : ∀ w',Below B w w'→K (.string (bs l)) w') :
  zd Tryz.prog Tryz.kF #[.pointer (some ⟨b,0,none⟩)] w K:=by
 refine Calls.mono (Any.Builder_String_any ({ Tryz.XV with } : Lays.n169 Tryz.prog Tryz.jL) Tryz.xL B b l w hb.2 hb.1) ?_
 rintro e w' ⟨rfl,h2⟩
 exact ⟨_,rfl,h _ h2⟩
theorem Xo : ∀ l : List (List UInt8),Lib.join l [44,32]=yg l
 |[]=>rfl
 |[x]=>by simp [Lib.join,yg,List.intercalate]
 |x::y::l=>by rw [yg,← Xo (y::l)];simp [Lib.join,List.intercalate]
theorem afk {l : List (List UInt8)} {w : World} {r : Gh} {v : Value} {K : Value→World→Prop} (hr : Holds r w) (hv : SlG 1 r Z0 v (l.map bs)) (hn : l.length≤1000) (hl : (yg l).length≤140737488355328)
  (h : ∀ w',Ext w w'→K (.string (bs (yg l))) w') : zd Tryz.prog Tryz.Z3 #[v,.string (bs [44,32])] w K:=by
 have hm : (l.map bs).map (·.data.toList)=l:=by
  rw [List.map_map];conv=>rhs;rw [← List.map_id l]
  exact List.map_congr_left fun x _=>rfl
 obtain ⟨p,cap,rfl,hp,hc⟩:=hv.shape
 by_cases h0 : l = []
 ·subst h0
  refine Calls.mono (Any.strings_Join_none Tryz.XV Tryz.xL p cap (bs [44,32]) w) ?_
  rintro e w' ⟨rfl,rfl⟩
  exact ⟨_,rfl,h _ (Ext.refl _)⟩
 have hlen : 0<(l.map bs).length:=by rw [List.length_map];exact List.length_pos_iff.2 h0
 obtain ⟨b,o,c,rfl,_,_,_⟩:=hv.get (by decide) hlen
 have hcells : ∀ (j : Nat) x,(l.map bs)[j]? = some x→w.cell? ⟨b,o+j,none⟩=some (.string x):=fun j x hj=>by
  obtain ⟨hjl,hje⟩:=List.getElem?_eq_some_iff.1 hj
  subst hje
  obtain ⟨b',o',c',hE,hc',hR,hcell⟩:=hv.get (by decide) hjl
  cases hE
  obtain rfl : c' = [.string (l.map bs)[j]]:=hR
  simpa using hcell 0 _ rfl w hr
 have hb : b<w.heap.size:=by
  have:=hcells 0 _ (List.getElem?_eq_getElem hlen)
  simp only [World.cell?] at this
  refine Nat.lt_of_not_le fun hn=>?_
  rw [Array.getElem?_eq_none hn] at this
  simp at this
 refine Calls.mono (Any.strings_Join Tryz.XV Tryz.xL b o cap (l.map bs) (bs [44,32]) w hcells hb (by rw [List.length_map];omega) hc ?_) ?_
 ·rw [hm];show (Lib.join l [44,32]).length≤_;rw [Xo];exact hl
 rintro e w' ⟨rfl,h2⟩
 refine ⟨_,rfl,?_⟩
 rw [hm]
 show K (.string ⟨(Lib.join l [44,32]).toArray⟩) w'
 rw [Xo]
 exact h _ h2
end Go.Proofs
end
section
namespace Go.Proofs.Tryz
open Go.Sh
set_option maxRecDepth 100000
def Xp (t0 t1 t2 : Value) (w : World) (K : VW) : Prop:=
 pw w (Instr.box 25 t0) fun t3 w1=>
 lo w1 25 t3 fun t11=>ca xk #[t11,t1,t2] w1 fun t14 w2=>
 pe t14 0 fun t15=>pe t14 1 fun t16=>pw w2 (Instr.alloc 44 true (.tuple #[])) fun t8 w3=>
 so w3 44 t8 t15 fun w4=>bt .neq 45 t16 (i6 0) fun t18=>zb t18 (K (.tuple #[(Value.string { data:=#[] }),t16]) w4) (lo w4 44 t8 fun t20=>ca vY #[t20,t2] w4 fun t22 w5=>
 K (.tuple #[t22,t16]) w5)
theorem VM {t0 t1 t2 : Value} {w : World} {K : VW} (h : Xp t0 t1 t2 w K) : zd prog kJ #[t0,t1,t2] w K:=
 okC false (.s (.r (rz 3 0 2)) (.s (.r (rz 10 0 163969)) (.s (.s (.r (rz 2 0 0)) (.c (.s (.r (rz 3 0 0)) (.n)) (.n))) (.s (.r (rz 6 0 33)) (.n))))) func11 rfl (by kernel_rfl) (by kernel_rfl) h
def Xq (t0 t1 : Value) (w : World) (K : VW) : Prop:=
 pw w (Instr.box 25 t0) fun t2 w1=>
 pw w1 (Instr.box 25 t1) fun t3 w2=>
 lo w2 25 t2 fun t7=>ca yM #[t7] w2 fun t8 w3=>
 za (fun K4=>gIf t8 true (lo w3 25 t3 fun t10=>ca yM #[t10] w3 fun t11 w8=>
 K4 [t11] w8) (K4 [undef] w3)) (fun s5 _d6 w7=>
 zc t8 (s5.getD 0 undef) fa_ fun t12=>za (fun K9=>gIf t12 true (fl w7 t2 25 2 3 fun t15=>fl w7 t3 25 2 3 fun t17=>bf .eql 3 t15 t17 fun t18=>K9 [t18] w7) (K9 [undef] w7)) (fun s10 _d11 w12=>
 zc t12 (s10.getD 0 undef) fa_ fun t19=>za (fun K13=>gIf t19 true (fl w12 t2 25 0 22 fun t22=>fl w12 t3 25 0 22 fun t24=>ca zs #[t22,t24,(Value.func (.func 41) #[] #[])] w12 fun t26 w17=>
 K13 [t26] w17) (K13 [undef] w12)) (fun s14 _d15 w16=>
 zc t19 (s14.getD 0 undef) fa_ fun t27=>za (fun K18=>gIf t27 true (fl w16 t2 25 1 23 fun t30=>fl w16 t3 25 1 23 fun t32=>ca zy #[t30,t32,(Value.func (.func 45) #[] #[])] w16 fun t34 w22=>
 K18 [t34] w22) (K18 [undef] w16)) (fun s19 _d20 w21=>
 zc t27 (s19.getD 0 undef) fa_ fun t35=>K t35 w21))))
theorem VN {t0 t1 : Value} {w : World} {K : VW} (h : Xq t0 t1 w K) : zd prog jh #[t0,t1] w K:=
 okC false (.s (.r (rz 3 0 10)) (.s (.r (rz 1 0 0)) (.s (.r (rz 1 0 0)) (.s (.r (ra 3 0 9 (.grp 9 true (ri 2 3 9) [11] (ra 2 5 0 (.grp 13 true (ri 5 7 68) [18] (ra 2 12 0 (.grp 20 true (ri 6 14 2116) [26] (ra 2 20 0 (.grp 28 true (ri 6 22 2116) [34] (rz 2 28 0)))))))))) (.n))))) func12 rfl (by kernel_rfl) (by kernel_rfl) h
def Xr (t0 t1 t2 : Value) (w : World) (K : VW) : Prop:=
 pw w (Instr.box 25 t0) fun t3 w1=>
 lo w1 25 t3 fun t11=>ca xk #[t11,t1,t2] w1 fun t14 w2=>
 pe t14 0 fun t15=>pe t14 1 fun t16=>pw w2 (Instr.alloc 44 true (.tuple #[])) fun t8 w3=>
 so w3 44 t8 t15 fun w4=>bt .neq 45 t16 (i6 0) fun t19=>za (fun K5=>gIf t19 false (fl w4 t8 44 0 35 fun t22=>bt .eql 35 t22 (Value.int .u8 14) fun t23=>K5 [t23] w4) (K5 [undef] w4)) (fun s6 _d7 w8=>
 zc t19 tr_ (s6.getD 0 undef) fun t24=>zb t24 (K (.tuple #[(Value.slice Option.none 0 0),t16]) w8) (fl w8 t8 44 0 35 fun t28=>bt .eql 35 t28 (Value.int .u8 12) fun t29=>za (fun K9=>gIf t29 true (fl w8 t8 44 10 3 fun t32=>fl w8 t8 44 11 3 fun t34=>bf .neq 3 t32 t34 fun t35=>K9 [t35] w8) (K9 [undef] w8)) (fun s10 _d11 w12=>
 zc t29 (s10.getD 0 undef) fa_ fun t36=>zb t36 (fl w12 t8 44 10 3 fun t38=>fl w12 t8 44 11 3 fun t40=>pw w12 (Instr.buildSlice 67 2 #[(0,t38),(1,t40)]) fun t41 w13=>
 K (.tuple #[t41,t16]) w13) (fl w12 t8 44 10 3 fun t44=>pw w12 (Instr.buildSlice 67 1 #[(0,t44)]) fun t45 w14=>
 K (.tuple #[t45,t16]) w14))))
theorem VO {t0 t1 t2 : Value} {w : World} {K : VW} (h : Xr t0 t1 t2 w K) : zd prog vX #[t0,t1,t2] w K:=
 okC false (.s (.r (rz 3 0 2)) (.s (.r (rz 10 0 163969)) (.s (.b (.s (.r (ra 3 0 0 (.grp 20 false (ri 3 3 4) [23] (rz 2 6 0)))) (.c (.s (.r (rz 3 0 0)) (.n)) (.s (.r (ra 4 0 4 (.grp 30 true (ri 5 4 68) [35] (rz 2 9 0)))) (.c (.s (.r (rz 8 0 580)) (.n)) (.n)))))) (.s (.r (rz 6 0 36)) (.n))))) func25 rfl (by kernel_rfl) (by kernel_rfl) h
def Xs (t0 t1 : Value) (w : World) (K : VW) : Prop:=
 pw w (Instr.box 44 t0) fun t2 w1=>
 fl w1 t2 44 4 42 fun t13=>pp (Builtin.len_ #[42] 3 #[t13]) fun t14=>zp [(Value.slice Option.none 0 0),(i6 0)] w1 (fun s3 _d4 w5 K2=>
 bf .lss 3 (s3.getD 1 undef) t14 fun t16=>zb t16 (xl w5 42 t13 (s3.getD 1 undef) 41 fun t18=>pw w5 (Instr.alloc 41 true (.tuple #[])) fun t7 w6=>
 so w6 41 t7 t18 fun w7=>lo w7 41 t7 fun t20=>ca yH #[t20] w7 fun t21 w8=>
 pw w8 (Instr.buildSlice 30 1 #[(0,t21)]) fun t22 w9=>
 pw w9 (Builtin.append_ #[30,30] 30 #[(s3.getD 0 undef),t22]) fun t23 w10=>
 bt .add 3 (s3.getD 1 undef) (i6 1) fun t24=>K2 [t23,t24] w10) (ca Z3 #[(s3.getD 0 undef),(Value.string { data:=#[44,32] })] w5 fun t26 w11=>
 bt .add 9 (Value.string { data:=#[40] }) t26 fun t27=>bt .add 9 t27 (Value.string { data:=#[41] }) fun t28=>fl w11.drew t2 44 2 41 fun t30=>fl w11.drew t2 44 6 38 fun t33=>ca yH #[t30] w11.drew fun t31 w12=>
 Ext w11.drew w12∧
 ca xP #[t33] w12 fun t34 w13=>
 za (fun K14=>
 fl w13 t2 44 0 35 fun t36=>bt .eql 35 t36 (Value.int .u8 1) fun t38=>zb t38 (K14 [t31] w13) (bt .eql 35 t36 (Value.int .u8 2) fun t41=>zb t41 (bt .add 9 t31 (Value.string { data:=#[32] }) fun t43=>fl w13.drew t2 44 5 9 fun t45=>bf .add 9 t43 t45 fun t46=>bt .add 9 t46 (Value.string { data:=#[32] }) fun t47=>fl w13.drew t2 44 3 41 fun t49=>ca yH #[t49] w13.drew fun t50 w18=>
 Ext w13.drew w18∧
 bf .add 9 t47 t50 fun t51=>K14 [t51] w18) (bt .eql 35 t36 (Value.int .u8 3) fun t53=>zb t53 (fl w13 t2 44 5 9 fun t55=>bt .add 9 t55 (Value.string { data:=#[32] }) fun t56=>bf .add 9 t56 t31 fun t58=>K14 [t58] w13) (bt .eql 35 t36 (Value.int .u8 4) fun t60=>zb t60 (bt .add 9 (Value.string { data:=#[38,32] }) t34 fun t62=>fl w13 t2 44 7 4 fun t64=>zb t64 (bt .add 9 (Value.string { data:=#[38,109,117,116,32] }) t34 fun t66=>K14 [t66] w13) (K14 [t62] w13)) (bt .eql 35 t36 (Value.int .u8 5) fun t68=>zb t68 (bt .add 9 (Value.string { data:=#[98,111,120,32] }) t31 fun t70=>K14 [t70] w13) (bt .eql 35 t36 (Value.int .u8 6) fun t72=>zb t72 (fl w13 t2 44 9 3 fun t74=>ca yK #[t74] w13 fun t75 w19=>
 bt .add 9 (Value.string { data:=#[35] }) t75 fun t76=>bf .add 9 t76 t28 fun t78=>K14 [t78] w19) (bt .eql 35 t36 (Value.int .u8 7) fun t80=>zb t80 (fl w13 t2 44 8 3 fun t82=>ca yK #[t82] w13 fun t83 w20=>
 bt .add 9 (Value.string { data:=#[102] }) t83 fun t84=>bf .add 9 t84 t28 fun t86=>K14 [t86] w20) (bt .eql 35 t36 (Value.int .u8 8) fun t88=>zb t88 (K14 [(Value.string { data:=#[114,101,97,100] })] w13) (bt .eql 35 t36 (Value.int .u8 9) fun t90=>zb t90 (bt .add 9 (Value.string { data:=#[112,114,105,110,116,32] }) t31 fun t92=>K14 [t92] w13) (bt .eql 35 t36 (Value.int .u8 10) fun t94=>zb t94 (bt .add 9 (Value.string { data:=#[100,114,111,112,32] }) t34 fun t96=>K14 [t96] w13) (bt .eql 35 t36 (Value.int .u8 11) fun t98=>zb t98 (bt .add 9 (Value.string { data:=#[100,101,97,100,32] }) t34 fun t100=>K14 [t100] w13) (bt .eql 35 t36 (Value.int .u8 12) fun t102=>zb t102 (bt .add 9 (Value.string { data:=#[105,102,32] }) t31 fun t104=>K14 [t104] w13) (bt .eql 35 t36 (Value.int .u8 13) fun t106=>zb t106 (K14 [(Value.string { data:=#[103,111,116,111] })] w13) (bt .eql 35 t36 (Value.int .u8 14) fun t108=>zb t108 (K (Value.string { data:=#[114,101,116,117,114,110] }) w13) (K14 [(Value.string { data:=#[] })] w13))))))))))))))) (fun s15 _d16 w17=>
 za (fun K21=>
 fl w17 t2 44 0 35 fun t110=>bt .leq 35 t110 (Value.int .u8 8) fun t111=>zb t111 (fl w17 t2 44 1 38 fun t113=>ca xP #[t113] w17 fun t114 w25=>
 bt .add 9 t114 (Value.string { data:=#[32,61,32] }) fun t115=>bf .add 9 t115 (s15.getD 0 undef) fun t117=>K21 [t117] w25) (K21 [(s15.getD 0 undef)] w17)) (fun s22 _d23 w24=>
 za (fun K26=>
 fl w24 t2 44 10 3 fun t119=>bt .add 3 t1 (i6 1) fun t121=>bf .neq 3 t119 t121 fun t122=>za (fun K30=>gIf t122 false (fl w24 t2 44 0 35 fun t125=>bt .eql 35 t125 (Value.int .u8 12) fun t126=>K30 [t126] w24) (K30 [undef] w24)) (fun s31 _d32 w33=>
 zc t122 tr_ (s31.getD 0 undef) fun t127=>za (fun K34=>gIf t127 false (fl w33 t2 44 0 35 fun t130=>bt .eql 35 t130 (Value.int .u8 13) fun t131=>K34 [t131] w33) (K34 [undef] w33)) (fun s35 _d36 w37=>
 zc t127 tr_ (s35.getD 0 undef) fun t132=>zb t132 (fl w37 t2 44 10 3 fun t135=>ca yK #[t135] w37 fun t136 w38=>
 bt .add 9 (Value.string { data:=#[32,45,62,32] }) t136 fun t137=>bf .add 9 (s22.getD 0 undef) t137 fun t138=>K26 [t138] w38) (K26 [(s22.getD 0 undef)] w37)))) (fun s27 _d28 w29=>
 za (fun K39=>
 fl w29 t2 44 0 35 fun t140=>bt .eql 35 t140 (Value.int .u8 12) fun t141=>zb t141 (fl w29 t2 44 11 3 fun t144=>ca yK #[t144] w29 fun t145 w43=>
 bt .add 9 (Value.string { data:=#[32,101,108,115,101,32] }) t145 fun t146=>bf .add 9 (s27.getD 0 undef) t146 fun t147=>K39 [t147] w43) (K39 [(s27.getD 0 undef)] w29)) (fun s40 _d41 w42=>
 K (s40.getD 0 undef) w42))))))
theorem VP {t0 t1 : Value} {w : World} {K : VW} (h : Xs t0 t1 w K) : zd prog vY #[t0,t1] w K:=
 okC false (.s (.r (rz 2 0 2)) (.s (.r (rz 1 0 0)) (.s (.s (.r (rz 4 0 4)) (.b (.lp [5,15] (.s (.r (rz 1 0 0)) (.s (.c (.n) (.n)) (.s (.b (.s (.r (rz 4 0 164)) (.r (rz 6 0 676)))) (.r (rz 2 0 0)))))))) (.s (.r (rz 5 0 8)) (.s (.r (ra 2 0 4 (ra 2 3 4 (ra 1 2 3 (rz 4 5 2))))) (.j [11] (.s (.r (rz 2 0 4)) (.b (.s (.r (rz 2 0 0)) (.c (.r (rz 2 0 0)) (.s (.r (rz 2 0 0)) (.c (.r (rz 11 0 213056)) (.s (.r (rz 2 0 0)) (.c (.r (rz 6 0 4)) (.s (.r (rz 2 0 0)) (.c (.s (.r (rz 3 0 0)) (.s (.r (rz 2 0 4)) (.c (.r (rz 3 0 0)) (.n)))) (.s (.r (rz 2 0 0)) (.c (.r (rz 3 0 0)) (.s (.r (rz 2 0 0)) (.c (.r (rz 7 0 36)) (.s (.r (rz 2 0 0)) (.c (.r (rz 7 0 36)) (.s (.r (rz 2 0 0)) (.c (.r (rz 1 0 0)) (.s (.r (rz 2 0 0)) (.c (.r (rz 3 0 0)) (.s (.r (rz 2 0 0)) (.c (.r (rz 3 0 0)) (.s (.r (rz 2 0 0)) (.c (.r (rz 3 0 0)) (.s (.r (rz 2 0 0)) (.c (.r (rz 3 0 0)) (.s (.r (rz 2 0 0)) (.c (.r (rz 1 0 0)) (.s (.r (rz 2 0 0)) (.c (.s (.r (rz 1 0 0)) (.n)) (.n))))))))))))))))))))))))))))))) (.j [11] (.s (.r (rz 3 0 4)) (.c (.r (rz 7 0 36)) (.n))) (.j [11] (.s (.r (ra 6 0 4 (.grp 123 false (ri 3 6 4) [126] (ra 2 9 0 (.grp 128 false (ri 3 11 4) [131] (rz 1 14 0)))))) (.c (.r (rz 7 0 144)) (.n))) (.j [11] (.s (.r (rz 3 0 4)) (.c (.r (rz 7 0 144)) (.n))) (.s (.r (rz 2 0 0)) (.n))))))))))) func40 rfl (by kernel_rfl) (by kernel_rfl) h
def jw (t0 : Value) (w : World) (K : VW) : Prop:=
 pw w (Instr.box 41 t0) fun t1 w1=>
 fl w1 t1 41 0 39 fun t4=>bt .eql 39 t4 (Value.int .u8 1) fun t6=>zb t6 (fl w1 t1 41 1 2 fun t8=>ca jt #[t8,(i6 10)] w1 fun t9 w2=>
 K t9 w2) (bt .eql 39 t4 (Value.int .u8 2) fun t11=>zb t11 (fl w1 t1 41 1 2 fun t13=>bt .eql 2 t13 (i6 1) fun t14=>ca x6 #[t14] w1 fun t15 w3=>
 K t15 w3) (bt .eql 39 t4 (Value.int .u8 3) fun t17=>zb t17 (fl w1 t1 41 2 38 fun t19=>ca xP #[t19] w1 fun t20 w4=>
 bt .add 9 (Value.string { data:=#[99,111,112,121,32] }) t20 fun t21=>K t21 w4) (fl w1 t1 41 2 38 fun t23=>ca xP #[t23] w1 fun t24 w5=>
 bt .add 9 (Value.string { data:=#[109,111,118,101,32] }) t24 fun t25=>K t25 w5)))
theorem YB {t0 : Value} {w : World} {K : VW} (h : jw t0 w K) : zd prog yH #[t0] w K:=
 okC false (.s (.r (rz 2 0 2)) (.s (.s (.r (rz 2 0 4)) (.b (.s (.r (rz 2 0 0)) (.c (.s (.r (rz 4 0 36)) (.n)) (.s (.r (rz 2 0 0)) (.c (.s (.r (rz 5 0 132)) (.n)) (.s (.r (rz 2 0 0)) (.c (.s (.r (rz 5 0 36)) (.n)) (.n))))))))) (.s (.r (rz 5 0 36)) (.n)))) func77 rfl (by kernel_rfl) (by kernel_rfl) h
def vB (t0 t1 : Value) (w : World) (K : VW) : Prop:=
 pw w (Instr.box 44 t0) fun t2 w1=>
 pw w1 (Instr.box 44 t1) fun t3 w2=>
 fl w2 t2 44 0 35 fun t7=>fl w2 t3 44 0 35 fun t9=>bf .eql 35 t7 t9 fun t10=>za (fun K3=>gIf t10 true (fl w2 t2 44 5 9 fun t13=>fl w2 t3 44 5 9 fun t15=>bf .eql 9 t13 t15 fun t16=>K3 [t16] w2) (K3 [undef] w2)) (fun s4 _d5 w6=>
 zc t10 (s4.getD 0 undef) fa_ fun t17=>za (fun K7=>gIf t17 true (fl w6 t2 44 7 4 fun t20=>fl w6 t3 44 7 4 fun t22=>bf .eql 4 t20 t22 fun t23=>K7 [t23] w6) (K7 [undef] w6)) (fun s8 _d9 w10=>
 zc t17 (s8.getD 0 undef) fa_ fun t24=>za (fun K11=>gIf t24 true (fl w10 t2 44 8 3 fun t27=>fl w10 t3 44 8 3 fun t29=>bf .eql 3 t27 t29 fun t30=>K11 [t30] w10) (K11 [undef] w10)) (fun s12 _d13 w14=>
 zc t24 (s12.getD 0 undef) fa_ fun t31=>za (fun K15=>gIf t31 true (fl w14 t2 44 9 3 fun t34=>fl w14 t3 44 9 3 fun t36=>bf .eql 3 t34 t36 fun t37=>K15 [t37] w14) (K15 [undef] w14)) (fun s16 _d17 w18=>
 zc t31 (s16.getD 0 undef) fa_ fun t38=>za (fun K19=>gIf t38 true (fl w18 t2 44 10 3 fun t41=>fl w18 t3 44 10 3 fun t43=>bf .eql 3 t41 t43 fun t44=>K19 [t44] w18) (K19 [undef] w18)) (fun s20 _d21 w22=>
 zc t38 (s20.getD 0 undef) fa_ fun t45=>za (fun K23=>gIf t45 true (fl w22 t2 44 11 3 fun t48=>fl w22 t3 44 11 3 fun t50=>bf .eql 3 t48 t50 fun t51=>K23 [t51] w22) (K23 [undef] w22)) (fun s24 _d25 w26=>
 zc t45 (s24.getD 0 undef) fa_ fun t52=>za (fun K27=>gIf t52 true (fl w26 t2 44 12 3 fun t55=>fl w26 t3 44 12 3 fun t57=>bf .eql 3 t55 t57 fun t58=>K27 [t58] w26) (K27 [undef] w26)) (fun s28 _d29 w30=>
 zc t52 (s28.getD 0 undef) fa_ fun t59=>za (fun K31=>gIf t59 true (fl w30 t2 44 1 38 fun t63=>fl w30 t3 44 1 38 fun t65=>ca kK #[t63,t65] w30 fun t66 w35=>
 K31 [t66] w35) (K31 [undef] w30)) (fun s32 _d33 w34=>
 zc t59 (s32.getD 0 undef) fa_ fun t67=>za (fun K36=>gIf t67 true (fl w34 t2 44 6 38 fun t70=>fl w34 t3 44 6 38 fun t72=>ca kK #[t70,t72] w34 fun t73 w40=>
 K36 [t73] w40) (K36 [undef] w34)) (fun s37 _d38 w39=>
 zc t67 (s37.getD 0 undef) fa_ fun t74=>za (fun K41=>gIf t74 true (fl w39 t2 44 2 41 fun t77=>fl w39 t3 44 2 41 fun t79=>ca yI #[t77,t79] w39 fun t80 w45=>
 K41 [t80] w45) (K41 [undef] w39)) (fun s42 _d43 w44=>
 zc t74 (s42.getD 0 undef) fa_ fun t81=>za (fun K46=>gIf t81 true (fl w44 t2 44 3 41 fun t84=>fl w44 t3 44 3 41 fun t86=>ca yI #[t84,t86] w44 fun t87 w50=>
 K46 [t87] w50) (K46 [undef] w44)) (fun s47 _d48 w49=>
 zc t81 (s47.getD 0 undef) fa_ fun t88=>za (fun K51=>gIf t88 true (fl w49 t2 44 4 42 fun t91=>fl w49 t3 44 4 42 fun t93=>ca zq #[t91,t93,(Value.func (.func 82) #[] #[])] w49 fun t94 w55=>
 K51 [t94] w55) (K51 [undef] w49)) (fun s52 _d53 w54=>
 zc t88 (s52.getD 0 undef) fa_ fun t95=>K t95 w54))))))))))))
theorem Xt {t0 t1 : Value} {w : World} {K : VW} (h : vB t0 t1 w K) : zd prog qg #[t0,t1] w K:=
 okC false (.s (.r (rz 3 0 10)) (.s (.r (ra 6 0 68 (.grp 11 true (ri 5 6 68) [16] (ra 2 11 0 (.grp 18 true (ri 5 13 68) [23] (ra 2 18 0 (.grp 25 true (ri 5 20 68) [30] (ra 2 25 0 (.grp 32 true (ri 5 27 68) [37] (ra 2 32 0 (.grp 39 true (ri 5 34 68) [44] (ra 2 39 0 (.grp 46 true (ri 5 41 68) [51] (ra 2 46 0 (.grp 53 true (ri 5 48 68) [58] (rz 2 53 0)))))))))))))))) (.s (.r (ra 2 0 0 (.grp 61 true (ri 5 2 580) [66] (ra 2 7 0 (.grp 68 true (ri 5 9 580) [73] (ra 2 14 0 (.grp 75 true (ri 5 16 580) [80] (ra 2 21 0 (.grp 82 true (ri 5 23 580) [87] (ra 2 28 0 (.grp 89 true (ri 5 30 580) [94] (rz 2 35 0)))))))))))) (.n)))) func50 rfl (by kernel_rfl) (by kernel_rfl) h
def jx (t0 t1 : Value) (w : World) (K : VW) : Prop:=
 pw w (Instr.box 41 t0) fun t2 w1=>
 pw w1 (Instr.box 41 t1) fun t3 w2=>
 fl w2 t2 41 0 39 fun t6=>fl w2 t3 41 0 39 fun t8=>bf .eql 39 t6 t8 fun t9=>za (fun K3=>gIf t9 true (fl w2 t2 41 1 2 fun t12=>fl w2 t3 41 1 2 fun t14=>bf .eql 2 t12 t14 fun t15=>K3 [t15] w2) (K3 [undef] w2)) (fun s4 _d5 w6=>
 zc t9 (s4.getD 0 undef) fa_ fun t16=>za (fun K7=>gIf t16 true (fl w6 t2 41 2 38 fun t19=>fl w6 t3 41 2 38 fun t21=>ca kK #[t19,t21] w6 fun t22 w11=>
 K7 [t22] w11) (K7 [undef] w6)) (fun s8 _d9 w10=>
 zc t16 (s8.getD 0 undef) fa_ fun t23=>K t23 w10))
theorem YC {t0 t1 : Value} {w : World} {K : VW} (h : jx t0 t1 w K) : zd prog yI #[t0,t1] w K:=
 okC false (.s (.r (rz 3 0 10)) (.s (.r (ra 6 0 68 (.grp 10 true (ri 5 6 68) [15] (ra 2 11 0 (.grp 17 true (ri 5 13 580) [22] (rz 2 18 0)))))) (.n))) func82 rfl (by kernel_rfl) (by kernel_rfl) h
def Ym (t0 t1 : Value) (w : World) (K : VW) : Prop:=
 pw w (Instr.box 84 t0) fun t2 w1=>
 pw w1 (Instr.box 84 t1) fun t3 w2=>
 fl w2 t2 84 0 9 fun t6=>fl w2 t3 84 0 9 fun t8=>bf .eql 9 t6 t8 fun t9=>za (fun K3=>gIf t9 true (fl w2 t2 84 1 82 fun t12=>fl w2 t3 84 1 82 fun t14=>ca zw #[t12,t14,(Value.func (.func 43) #[] #[])] w2 fun t15 w7=>
 K3 [t15] w7) (K3 [undef] w2)) (fun s4 _d5 w6=>
 zc t9 (s4.getD 0 undef) fa_ fun t16=>K t16 w6)
theorem Jk {t0 t1 : Value} {w : World} {K : VW} (h : Ym t0 t1 w K) : zd prog Z6 #[t0,t1] w K:=
 okC false (.s (.r (rz 3 0 10)) (.s (.r (ra 6 0 68 (.grp 10 true (ri 5 6 580) [15] (rz 2 11 0)))) (.n))) func41 rfl (by kernel_rfl) (by kernel_rfl) h
def Zl (t0 t1 : Value) (w : World) (K : VW) : Prop:=
 pw w (Instr.box 86 t0) fun t2 w1=>
 pw w1 (Instr.box 86 t1) fun t3 w2=>
 fl w2 t2 86 0 9 fun t6=>fl w2 t3 86 0 9 fun t8=>bf .eql 9 t6 t8 fun t9=>za (fun K3=>gIf t9 true (fl w2 t2 86 1 57 fun t12=>fl w2 t3 86 1 57 fun t14=>ca kG #[t12,t14] w2 fun t15 w7=>
 K3 [t15] w7) (K3 [undef] w2)) (fun s4 _d5 w6=>
 zc t9 (s4.getD 0 undef) fa_ fun t16=>K t16 w6)
theorem Qa {t0 t1 : Value} {w : World} {K : VW} (h : Zl t0 t1 w K) : zd prog vZ #[t0,t1] w K:=
 okC false (.s (.r (rz 3 0 10)) (.s (.r (ra 6 0 68 (.grp 10 true (ri 5 6 580) [15] (rz 2 11 0)))) (.n))) func43 rfl (by kernel_rfl) (by kernel_rfl) h
def Yn (t0 t1 : Value) (w : World) (K : VW) : Prop:=
 pw w (Instr.box 33 t0) fun t2 w1=>
 pw w1 (Instr.box 33 t1) fun t3 w2=>
 fl w2 t2 33 0 9 fun t7=>fl w2 t3 33 0 9 fun t9=>bf .eql 9 t7 t9 fun t10=>za (fun K3=>gIf t10 true (fl w2 t2 33 1 3 fun t13=>fl w2 t3 33 1 3 fun t15=>bf .eql 3 t13 t15 fun t16=>K3 [t16] w2) (K3 [undef] w2)) (fun s4 _d5 w6=>
 zc t10 (s4.getD 0 undef) fa_ fun t17=>za (fun K7=>gIf t17 true (fl w6 t2 33 3 3 fun t20=>fl w6 t3 33 3 3 fun t22=>bf .eql 3 t20 t22 fun t23=>K7 [t23] w6) (K7 [undef] w6)) (fun s8 _d9 w10=>
 zc t17 (s8.getD 0 undef) fa_ fun t24=>za (fun K11=>gIf t24 true (fl w10 t2 33 2 28 fun t27=>fl w10 t3 33 2 28 fun t29=>ca zT #[t27,t29] w10 fun t30 w15=>
 K11 [t30] w15) (K11 [undef] w10)) (fun s12 _d13 w14=>
 zc t24 (s12.getD 0 undef) fa_ fun t31=>za (fun K16=>gIf t31 true (fl w14 t2 33 5 30 fun t34=>fl w14 t3 33 5 30 fun t36=>ca yL #[t34,t36] w14 fun t37 w20=>
 K16 [t37] w20) (K16 [undef] w14)) (fun s17 _d18 w19=>
 zc t31 (s17.getD 0 undef) fa_ fun t38=>za (fun K21=>gIf t38 true (fl w19 t2 33 4 29 fun t42=>fl w19 t3 33 4 29 fun t44=>ca zD #[t42,t44,(Value.func (.func 44) #[] #[])] w19 fun t45 w25=>
 K21 [t45] w25) (K21 [undef] w19)) (fun s22 _d23 w24=>
 zc t38 (s22.getD 0 undef) fa_ fun t46=>za (fun K26=>gIf t46 true (fl w24 t2 33 6 31 fun t49=>fl w24 t3 33 6 31 fun t51=>ca zx #[t49,t51,(Value.func (.func 50) #[] #[])] w24 fun t52 w30=>
 K26 [t52] w30) (K26 [undef] w24)) (fun s27 _d28 w29=>
 zc t46 (s27.getD 0 undef) fa_ fun t53=>K t53 w29))))))
theorem Jl {t0 t1 : Value} {w : World} {K : VW} (h : Yn t0 t1 w K) : zd prog Z7 #[t0,t1] w K:=
 okC false (.s (.r (rz 3 0 10)) (.s (.r (ra 6 0 68 (.grp 11 true (ri 5 6 68) [16] (ra 2 11 0 (.grp 18 true (ri 5 13 68) [23] (ra 2 18 0 (.grp 25 true (ri 5 20 580) [30] (ra 2 25 0 (.grp 32 true (ri 5 27 580) [37] (rz 2 32 0)))))))))) (.s (.r (ra 2 0 0 (.grp 40 true (ri 5 2 580) [45] (ra 2 7 0 (.grp 47 true (ri 5 9 580) [52] (rz 2 14 0)))))) (.n)))) func45 rfl (by kernel_rfl) (by kernel_rfl) h
def Xu (t0 : Value) (w : World) (K : VW) : Prop:=
 pw w (Instr.box 38 t0) fun t1 w1=>
 fl w1 t1 38 0 3 fun t7=>bt .lss 3 t7 (i6 0) fun t8=>zb t8 (K (Value.string { data:=#[] }) w1) (pw w1 (Instr.alloc 176 true (.tuple #[])) fun t3 w2=>
 fl w2 t1 38 0 3 fun t10=>ca yK #[t10] w2 fun t11 w3=>
 bt .add 9 (Value.string { data:=#[95] }) t11 fun t12=>ca zX #[t3,t12] w3 fun _t13 w4=>
 fl w4 t1 38 1 36 fun t15=>pp (Builtin.len_ #[36] 3 #[t15]) fun t16=>zp [(i6 0)] w4 (fun s6 _d7 w8 K5=>
 bf .lss 3 (s6.getD 0 undef) t16 fun t18=>zb t18 (za (fun K9=>
 xl w8 36 t15 (s6.getD 0 undef) 138 fun t20=>bt .lss 138 t20 (i6 (-1)) fun t27=>zb t27 (K (Value.string { data:=#[] }) w8) (bt .eql 138 t20 (i6 (-1)) fun t30=>zb t30 (ca zX #[t3,(Value.string { data:=#[46,42] })] w8 fun _t31 w13=>
 K9 [] w13) (ca yK #[t20] w8 fun t22 w14=>
 bt .add 9 (Value.string { data:=#[46] }) t22 fun t23=>ca zX #[t3,t23] w14 fun _t24 w15=>
 K9 [] w15))) (fun _s10 _d11 w12=>
 bt .add 3 (s6.getD 0 undef) (i6 1) fun t32=>K5 [t32] w12)) (ca kF #[t3] w8 fun t33 w16=>
 K t33 w16)))
theorem VQ {t0 : Value} {w : World} {K : VW} (h : Xu t0 w K) : zd prog xP #[t0] w K:=
 okC false (.s (.r (rz 2 0 2)) (.s (.s (.r (rz 3 0 4)) (.c (.s (.r (rz 1 0 0)) (.n)) (.n))) (.s (.r (rz 1 0 2)) (.s (.r (rz 5 0 548)) (.s (.s (.r (rz 4 0 4)) (.b (.lp [17] (.s (.r (rz 1 0 0)) (.s (.c (.n) (.n)) (.j [] (.b (.s (.r (rz 3 0 4)) (.b (.s (.r (rz 3 0 0)) (.c (.s (.r (rz 1 0 0)) (.n)) (.s (.r (rz 3 0 0)) (.c (.r (rz 1 0 2)) (.r (rz 4 0 136))))))))) (.r (rz 2 0 0)))))))) (.s (.r (rz 2 0 2)) (.n))))))) func79 rfl (by kernel_rfl) (by kernel_rfl) h
def Xv (t0 t1 : Value) (w : World) (K : VW) : Prop:=
 pw w (Instr.box 38 t0) fun t2 w1=>
 pw w1 (Instr.box 38 t1) fun t3 w2=>
 lo w2 38 t2 fun t5=>lo w2 38 t3 fun t6=>ca vd #[t5,t6] w2 fun t7 w3=>
 bt .eql 3 t7 (i6 0) fun t8=>K t8 w3
theorem VR {t0 t1 : Value} {w : World} {K : VW} (h : Xv t0 t1 w K) : zd prog kK #[t0,t1] w K:=
 okC false (.s (.r (rz 3 0 10)) (.s (.r (rz 5 0 37)) (.n))) func81 rfl (by kernel_rfl) (by kernel_rfl) h
def YY (t0 t1 : Value) (w : World) (K : VW) : Prop:=
 pw w (Instr.box 38 t0) fun t2 w1=>
 pw w1 (Instr.box 38 t1) fun t3 w2=>
 fl w2.drew t2 38 0 3 fun t6=>fl w2.drew t3 38 0 3 fun t8=>fl w2.drew t2 38 1 36 fun t11=>fl w2.drew t3 38 1 36 fun t13=>ca qh #[t6,t8] w2.drew fun t9 w3=>
 Ext w2.drew w3∧
 ca yb #[t11,t13] w3 fun t14 w4=>
 pw w4 (Instr.buildSlice 67 2 #[(0,t9),(1,t14)]) fun t15 w5=>
 ca Za #[t15] w5 fun t16 w6=>
 K t16 w6
theorem J0 {t0 t1 : Value} {w : World} {K : VW} (h : YY t0 t1 w K) : zd prog vd #[t0,t1] w K:=
 okC false (.s (.r (rz 3 0 10)) (.s (.r (ra 4 0 68 (ra 4 5 68 (ra 1 4 3 (rz 4 9 42))))) (.n))) func120 rfl (by kernel_rfl) (by kernel_rfl) h
end Go.Proofs.Tryz
end
section
namespace Go.Proofs
open Go.Sh
set_option maxRecDepth 100000
set_option linter.unusedSimpArgs false
set_option linter.unusedVariables false
theorem adH {l : List Int} {i : Nat} (hi : i<l.length) : ((l.take (i+1)).map stT).flatten=((l.take i).map stT).flatten++stT l[i]:=by
 rw [List.take_succ_eq_append_getElem hi,List.map_append,List.flatten_append];simp
theorem adI {l : List Int} (h : ∀ k ∈ l,¬ k < -1) : l.any (fun k=>decide (k < -1))=false:=by
 rw [List.any_eq_false];intro x hx;simpa using h x hx
theorem adJ {p : PlD} (hf : p.fit) (i : Nat) : (([95]++Lib.itoa p.l)++((p.ps.take i).map stT).flatten).length≤23000:=by
 have h1:=ym hf.1
 have h2:=QH (f:=stT) (n:=22) (l:=p.ps.take i) fun k hk=>JZ (hf.2.2 k (List.mem_of_mem_take hk))
 have h3:=hf.2.1
 have h4 : (p.ps.take i).length≤p.ps.length:=by rw [List.length_take];omega
 simp only [List.length_append,List.length_cons,List.length_nil];omega
set_option maxHeartbeats 1000000 in
theorem jn {p : PlD} {c : List Value} {w : World} {r : Gh} {K : Value→World→Prop} (hT : TabZ r) (hr : Holds r w) (hp : PlG r c p) (hf : p.fit)
  (h : ∀ w',Ext w w'→K (.string (bs (plT p))) w') : zd Tryz.prog Tryz.xP #[.agg c.toArray] w K:=by
 refine Tryz.VQ ?_
 unfold Tryz.Xu
 obtain ⟨v,rfl,hsl⟩:=hp
 obtain ⟨q,cap,rfl,_,_⟩:=hsl.sl.shape
 have hpl : p.ps.length≤9223372036854775807:=hsl.few
 have S:=St.start hr
 refine S.box fun b1 w1 S=>?_
 have S : StX noX w r w1 [.cell b1 [.int .i64 p.l,.slice q p.ps.length cap] 38]:=S
 refine gg_ ?_
 rw [plT] at h
 refine zg (fun hneg=>?_) (fun hpos=>?_)
 ·rw [if_pos hneg] at h;exact h _ S.ext
 rw [if_neg hpos] at h
 have S1:=S
 have hb1:=Ext.refl w1
 refine acS fun b w2 e2 hB=>?_
 have S:=S1.go e2
 refine gg_ ?_
 refine vP hT hf.1 S.holds fun w3 e3=>?_
 have hlen:=ym hf.1
 refine s_c (by simp only [List.length_cons,List.length_nil];omega) ?_
 refine vj (hB.ext e3) (by simp only [List.length_append,List.length_cons,List.length_nil];omega) fun _ w4 h4 hB=>?_
 have e4 : Ext w1 w4:=Ext.below (e2.trans e3) h4
 clear h4
 have S:=S1.go e4
 refine gg_ ?_
 refine zk (ι:=Nat) (fun i=>[.int .i64 (i : Nat)]) (fun i w'=>i≤p.ps.length∧(∀ k ∈ p.ps.take i,¬ k < -1)∧Ext w1 w'∧Bld w1.heap.size b (([95]++Lib.itoa p.l)++((p.ps.take i).map stT).flatten) w') (fun i=>p.ps.length - i) 0 rfl
  ⟨Nat.zero_le _,by simp,e4,by simpa using hB⟩ ?_
 clear S
 rintro i d w8 ⟨hi,hok,e8,hB⟩ K5 hK5
 have S:=S1.go e8
 rw [List.getD_cons_zero]
 refine gg_ ?_
 refine zg (fun hlt=>?_) (fun hge=>?_)
 ·have hlt : i<p.ps.length:=by omega
  have htl:=adJ hf i
  obtain ⟨bs',os,cs,rfl,hcs,⟨rfl,hk⟩,hcl⟩:=hsl.sl.get (by decide) hlt
  have hload : w8.cell? ⟨bs',os+i,none⟩=some (.int .i64 p.ps[i]):=by simpa using S.at (hcl 0 _ rfl)
  have hmem : p.ps[i] ∈ p.ps:=List.getElem_mem hlt
  have hsn : ∀ k ∈ p.ps.take (i+1),¬ (p.ps[i] < -1)→¬ k < -1:=fun k hkm hki=>by
   rw [List.take_succ_eq_append_getElem hlt] at hkm
   rcases List.mem_append.1 hkm with hkm|hkm
   ·exact hok k hkm
   ·rw [List.mem_singleton.1 hkm];exact hki
  have hkl:=JZ hk
  refine zA (fun _ w'=>¬ (p.ps[i] < -1)∧Ext w1 w'∧Bld w1.heap.size b ((([95]++Lib.itoa p.l)++((p.ps.take i).map stT).flatten)++stT p.ps[i]) w') (fun K9 hK9=>?_) ?_
  ·refine gg_ ?_
   refine zG (v:=.int .i64 p.ps[i]) (by rw [Int.toNat_natCast];exact hload) ?_
   refine gg_ ?_
   refine zg (fun hbad=>?_) (fun hgood=>?_)
   ·rw [if_pos (List.any_eq_true.2 ⟨_,hmem,by simpa using hbad⟩)] at h
    exact h _ (S1.go e8).ext
   refine gg_ ?_
   refine zg (fun hd=>?_) (fun hd=>?_)
   ·have hs2 : stT p.ps[i] = [46,42]:=by rw [stT,if_pos hd]
    rw [hs2] at hK9
    refine vj hB (by simp only [List.length_append,List.length_cons,List.length_nil] at htl ⊢;omega) fun _ w13 h13 hB=>?_
    exact hK9 _ _ ⟨hgood,Ext.below e8 h13,hB⟩
   ·have hs2 : stT p.ps[i] = [46]++Lib.itoa p.ps[i]:=by rw [stT,if_neg hd]
    have:=ym hk
    rw [hs2] at hK9
    refine vP hT hk S.holds fun w14 e14=>?_
    refine s_c (by simp only [List.length_cons,List.length_nil];omega) ?_
    refine vj (hB.ext e14) (by simp only [List.length_append,List.length_cons,List.length_nil] at htl ⊢;omega) fun _ w15 h15 hB=>?_
    exact hK9 _ _ ⟨hgood,Ext.below (e8.trans e14) h15,hB⟩
  rintro _ w12 ⟨hgood,e12,hB⟩ d12
  refine gg_ ?_
  refine hK5 (i+1) _ ⟨hlt,fun k hkm=>hsn k hkm hgood,e12,?_⟩ (by omega)
  rw [adH hlt,← List.append_assoc]
  exact hB
 have hie : i=p.ps.length:=by omega
 subst hie
 rw [List.take_length] at hok hB
 rw [adI hok] at h
 refine acT hB fun w16 h16=>?_
 exact h _ (S1.go (Ext.below e8 h16)).ext
end Go.Proofs
end
section
namespace Go.Proofs
open Go.Sh
set_option maxRecDepth 100000
set_option linter.unusedSimpArgs false
set_option linter.unusedVariables false
theorem OpG.pl {r : Gh} {c : List Value} {o : OpD} (h : OpG r c o) : ∃ v,c = [.int .u8 o.k,.int .i64 o.n,.int .i64 o.pl.l,v]∧PlG r [.int .i64 o.pl.l,v] o.pl:=by
 obtain ⟨v,rfl,hs⟩:=h
 exact ⟨v,rfl,v,rfl,hs⟩
theorem kv {o : OpD} {c : List Value} {w : World} {r : Gh} {K : Value→World→Prop} (hT : TabZ r) (hr : Holds r w) (ho : OpG r c o) (hf : o.fit)
  (h : ∀ w',Ext w w'→K (.string (bs (opT o))) w') : zd Tryz.prog Tryz.yH #[.agg c.toArray] w K:=by
 refine Tryz.YB ?_
 unfold Tryz.jw
 obtain ⟨v,rfl,hp⟩:=ho.pl
 have hpl:=Yj hf.2
 have S:=St.start hr
 refine S.box fun b1 w1 S=>?_
 have S : StX noX w r w1 [.cell b1 [.int .u8 o.k,.int .i64 o.n,.int .i64 o.pl.l,v] 41]:=S
 rw [opT] at h
 refine gg_ ?_
 refine zg (fun h1=>?_) (fun h1=>?_)
 ·rw [if_pos h1] at h
  refine gg_ ?_
  exact abi hT hf.1 S.holds fun w2 e2=>h _ (S.go e2).ext
 rw [if_neg h1] at h
 refine gg_ ?_
 refine zg (fun h2=>?_) (fun h2=>?_)
 ·rw [if_pos h2] at h
  refine gg_ ?_
  refine aaJ ?_
  have:=h _ S.ext
  by_cases hn : o.n=1
  ·simpa [hn] using this
  ·simpa [hn] using this
 rw [if_neg h2] at h
 refine gg_ ?_
 refine zg (fun h3=>?_) (fun h3=>?_)
 ·rw [if_pos h3] at h
  refine gg_ ?_
  refine S.ldN (b:=b1) ?_
  refine jn hT S.holds hp hf.2 fun w2 e2=>?_
  refine s_c (by simp only [List.length_cons,List.length_nil];omega) ?_
  exact h _ (S.go e2).ext
 rw [if_neg h3] at h
 refine gg_ ?_
 refine S.ldN (b:=b1) ?_
 refine jn hT S.holds hp hf.2 fun w2 e2=>?_
 refine s_c (by simp only [List.length_cons,List.length_nil];omega) ?_
 exact h _ (S.go e2).ext
end Go.Proofs
end
section
namespace Go.Proofs
open Go.Sh
set_option linter.unusedVariables false
def stepG (ss : List StD) (s : TyD × Int) (k : Int) : Option (TyD × Int):=
 if k = -1∧s.1.k=3 then s.1.of.head?.map fun u=>(u,max s.2 1)
 else if k = -1∧s.1.k=4 then s.1.of.head?.map fun u=>(u,max s.2 (if s.1.m then 2 else 3))
 else if 0≤k∧s.1.k=5 then (ze ss s.1.st)[k.toNat]?.map fun u=>(u,s.2)
 else none
def goG (ss : List StD) : List Int→TyD × Int→Option (TyD × Int)
 |[],s=>some s
 |k::l,s=>(stepG ss s k).bind (goG ss l)
def zC (ss : List StD) (tys : List TyD) (p : PlD) : TyD × Int × Bool:=
 match (if p.l<0 then none else tys[p.l.toNat]?).bind fun t=>goG ss p.ps (t,0) with
 |some s=>(s.1,s.2,decide (p.ps.length≤8))
 |none=>(yo,0,false)
def aaK : TyD:=⟨1,false,0,0,[]⟩
def V2 : TyD:=⟨2,false,0,0,[]⟩
def x9 (p : PlD) : Bool:=decide (p.l=0)&&decide (p.ps.length=0)
def vH (o : OpD) : Bool:=(decide (o.k=0)&&decide (o.n=0))&&x9 o.pl
def zK (ss : List StD) (tys : List TyD) (o : OpD) : TyD × Bool:=
 if o.k=1 then (aaK,x9 o.pl)
 else if o.k=2 then (V2,x9 o.pl&&(decide (o.n=0)||decide (o.n=1)))
 else if o.k=3 then ((zC ss tys o.pl).1,((zC ss tys o.pl).2.2&&decide (o.n=0))&&qU (zC ss tys o.pl).1)
 else if o.k=4 then ((zC ss tys o.pl).1,(((zC ss tys o.pl).2.2&&decide (o.n=0)) && !qU (zC ss tys o.pl).1)&&decide ((zC ss tys o.pl).2.1<2))
 else (yo,false)
structure aaL where
 to : Bool:=false
 a : Bool:=false
 b : Bool:=false
 args : Bool:=false
 sign : Bool:=false
 fr : Bool:=false
 mu : Bool:=false
 fn : Bool:=false
 st : Bool:=false
 el : Bool:=false
def qD (p : PtD) (h : aaL) : List Bool:=
 [h.to||x9 p.to,h.a||vH p.a,h.b||vH p.b,h.args||decide (p.args.length=0),h.sign||(p.sign.toList == []),h.fr||x9 p.fr,h.mu || !p.mu,h.fn||decide (p.fn=0),h.st||decide (p.st=0),h.el||decide (p.el=0)]
def zE (p : PtD) (h : aaL) : Bool:=(qD p h).all id
def yT (ss : List StD) (tys : List TyD) : List OpD→List TyD→Bool
 |[],[]=>true
 |o::l,t::r=>((zK ss tys o).2&&zY xh (zK ss tys o).1 t)&&yT ss tys l r
 |_,_=>false
def kO (g : GrD) (q : Int) : Bool:=decide (0≤q)&&decide (q<g.pts.length)
def isK (t : TyD) (k : Int) : Bool:=decide (t.k=k)
def z8 (s : ByteArray) (l : List (List UInt8)) : Bool:=l.any fun x=>s.toList == x
noncomputable def ptG (u : UnD) (g : GrD) (p : PtD) : Bool:=
 let to:=zC u.ss g.tys p.to
 let fr:=zC u.ss g.tys p.fr
 let laid:=to.2.2&&decide (to.2.1<3)
 let a:=zK u.ss g.tys p.a
 let b:=zK u.ss g.tys p.b
 let ints:=isK a.1 1&&isK b.1 1
 if p.op=1 then ((zE p { to:=true,a:=true } && laid)&&a.2)&&zY xh a.1 to.1
 else if p.op=2 then
  (zE p { to:=true,a:=true,b:=true,sign:=true } && (laid&&(a.2&&b.2))) &&
   (if z8 p.sign [[43],[45],[42],[47],[37]] then isK to.1 1&&ints
    else if z8 p.sign [[60],[60,61],[62],[62,61]] then isK to.1 2&&ints
    else if z8 p.sign [[61,61],[33,61]] then isK to.1 2&&(ints||(isK a.1 2&&isK b.1 2)) else false)
 else if p.op=3 then
  ((zE p { to:=true,a:=true,sign:=true } && laid)&&a.2) &&
   (if z8 p.sign [[45]] then isK to.1 1&&isK a.1 1 else if z8 p.sign [[33]] then isK to.1 2&&isK a.1 2 else false)
 else if p.op=4 then
  ((((zE p { to:=true,fr:=true,mu:=true } && laid)&&fr.2.2)&&isK to.1 4)&&decide (to.1.m=p.mu))&&(zY xh (to.1.of.headD yo) fr.1 && !(p.mu&&decide (fr.2.1=3)))
 else if p.op=5 then (((zE p { to:=true,a:=true } && laid)&&a.2)&&isK to.1 3)&&zY xh (to.1.of.headD yo) a.1
 else if p.op=6 then
  (((zE p { to:=true,args:=true,st:=true } && laid)&&isK to.1 5)&&decide (to.1.st=p.st))&&yT u.ss g.tys p.args (xq u.ss to.1).1
 else if p.op=7 then
  ((zE p { to:=true,args:=true,fn:=true } && laid)&&(decide (0≤p.fn)&&decide (p.fn<u.fs.length))) &&
   (match u.fs[p.fn.toNat]? with
    |some f=>zY xh to.1 (f.tys.headD yo)&&yT u.ss g.tys p.args ((f.tys.drop 1).take f.pn.toNat)
    |none=>false)
 else if p.op=8 then (zE p { to:=true } && laid)&&isK to.1 1
 else if p.op=9 then (zE p { a:=true } && a.2)&&isK a.1 1
 else if p.op=10 then ((zE p { fr:=true } && fr.2.2)&&(Zj u.ss fr.1).1)&&decide (fr.2.1<2)
 else if p.op=11 then ((zE p { fr:=true } && fr.2.2)&&decide (0<p.fr.l))&&decide (p.fr.ps.length=0)
 else if p.op=12 then ((zE p { a:=true,el:=true } && a.2)&&isK a.1 2)&&kO g p.el
 else if p.op=13∨p.op=14 then zE p {}
 else false
noncomputable def zu (u : UnD) (g : GrD) (p : PtD) : Bool:=
 !((decide (p.tx<0)||(!decide (p.op=14) && !kO g p.nx))||(decide (p.op=14) && !decide (p.nx=0)))&&ptG u g p
def jo (x y : Int) : List Int→Bool
 |[]=>false
 |a::l=>(decide (a=y)&&l.contains x)||jo x y l
def jp (tys : List TyD) (x y : Int) : Bool:=tys.any fun t=>jo x y (y8 t)
def jM (outs : List (Int × Int)) (x y : Int) : Bool:=outs.contains (x,y)
def xi (lv : Int) (o : Int × Int) : Bool:=!((decide (min o.1 o.2<0)||decide (lv≤max o.1 o.2))||decide (o.1=o.2))
def jq (o w : Int × Int) : Bool:=decide (o.1<w.1)||(decide (o.1=w.1)&&decide (o.2<w.2))
def YD : List (Int × Int)→Bool
 |a::b::l=>jq a b&&YD (b::l)
 |_=>true
def ab3 (n : Nat) (must says : Int→Int→Bool) : Bool:=
 (List.range n).all fun a : Nat=>(List.range n).all fun b : Nat=>
  ((List.range n).all fun c : Nat=>!((says a b&&says b c)&&(!decide (a=c) && !says a c))) && !(!decide (a=b)&&(must a b && !says a b))
def vI (g : GrD) : Bool:=
 (g.outs.all (xi g.lv)&&YD g.outs)&&ab3 g.lv.toNat (jp (g.tys.take (g.pn.toNat+1))) (jM g.outs)
noncomputable def tyG (u : UnD) (g : GrD) (i : Nat) (t : TyD) : Bool:=
 x7 u.ss t&&(y8 t).all fun r=>!(decide (r<(if (i : Int)≤g.pn then 0 else -1))||decide (g.lv≤r))
noncomputable def kP (u : UnD) (g : GrD) : Nat→List TyD→Bool
 |_,[]=>true
 |i,t::l=>tyG u g i t&&kP u g (i+1) l
def zJ (l : List PtD) : Nat:=l.countP fun p=>decide (p.op=4)
noncomputable def yh (u : UnD) (fn : Nat) (g : GrD) : Bool:=
 ((((((decide (0≤g.lv)&&decide (g.lv≤8))&&(decide (0≤g.pn)&&decide (g.pn≤8)))&&(decide (g.pn<g.tys.length)&&decide (g.tys.length≤512)))&&decide (g.nms.length=g.tys.length)) &&
  kP u g 0 g.tys)&&((decide (1≤g.pts.length)&&decide (g.pts.length≤1024))&&vI g)) &&
  (decide (zJ g.pts≤256)&&(!decide ((fn : Int)=u.mn)||((decide (g.lv=0)&&decide (g.pn=0))&&isK (g.tys.headD yo) 1)))
noncomputable def kQ (u : UnD) : Nat→List GrD→Option Nat
 |_,[]=>none
 |i,g::l=>if yh u i g then kQ u (i+1) l else some i
noncomputable def jN (u : UnD) (g : GrD) : Nat→List PtD→Option Nat
 |_,[]=>none
 |q,p::l=>if zu u g p then jN u g (q+1) l else some q
noncomputable def jD (u : UnD) : Nat→List GrD→Option (Nat × Nat)
 |_,[]=>none
 |i,g::l=>match jN u g 0 g.pts with|some q=>some (i,q)|none=>jD u (i+1) l
noncomputable def kn (u : UnD) : Int × Int × Int:=
 if !decide ((zU u.ss).2=0)||(decide (u.fs.length<1)||decide (32<u.fs.length))||(decide (u.mn<0)||decide ((u.fs.length : Int)≤u.mn)) then (-1,-1,100)
 else match kQ u 0 u.fs with
  |some i=>(i,-1,100)
  |none=>match jD u 0 u.fs with
   |some (i,q)=>(i,q,100)
   |none=>(0,0,0)
noncomputable def kx (u : UnD) : Bool:=decide ((kn u).2.2=0)
end Go.Proofs
end
section
namespace Go.Proofs
open Go.Sh
set_option linter.unusedVariables false
theorem Xw : ∀ {n : Nat} {s s' : Int} {m : Nat} {t : TyD},zO s n t=true→n≤m→s≤s'→zO s' m t=true:=by
 intro n
 induction n with
 |zero=>intro s s' m t h;cases h
 |succ n ih=>
  intro s s' m t h hm hs
  obtain ⟨m,rfl⟩ : ∃ k,m=k+1:=⟨m - 1,by omega⟩
  have inn : inB s n t=true→inB s' m t=true:=by
   intro hi
   cases t with
   |mk k mm re st of=>
    cases of with
    |nil=>cases hi
    |cons u l=>exact ih (t:=u) hi (by omega) hs
  rw [vF] at h ⊢
  split
  ·rename_i h1;rw [if_pos h1] at h;exact h
  ·rename_i h1;rw [if_neg h1] at h
   split
   ·rename_i h2;rw [if_pos h2] at h
    simp only [Bool.and_eq_true,decide_eq_true_eq] at h ⊢
    exact ⟨h.1,by omega⟩
   ·rename_i h2;rw [if_neg h2] at h
    split
    ·rename_i h3;rw [if_pos h3] at h
     simp only [Bool.and_eq_true,decide_eq_true_eq] at h ⊢
     exact ⟨h.1,h.2.1,inn h.2.2⟩
    ·rename_i h3;rw [if_neg h3] at h
     split
     ·rename_i h4;rw [if_pos h4] at h
      simp only [Bool.and_eq_true,decide_eq_true_eq] at h ⊢
      exact ⟨h.1,h.2.1,inn h.2.2⟩
     ·rename_i h4;rw [if_neg h4] at h;cases h
def Fine (ss : List StD) (t : TyD) : Prop:=zO ss.length 48 t=true
theorem Fine.is {ss : List StD} {t : TyD} (h : Fine ss t) (hs : ss.length≤32) : isB t=true:=Xw h (Nat.le_refl _) (by omega)
theorem Fine.cases {ss : List StD} {t : TyD} (h : Fine ss t) : (t.of = []∧(t.k=1∨t.k=2∨t.k=5))∨∃ u,t.of = [u]∧Fine ss u∧(t.k=3∨t.k=4):=by
 rcases y7 h with h|⟨u,h1,h2,h3⟩
 ·exact .inl h
 ·exact .inr ⟨u,h1,Xw h2 (by omega) (Int.le_refl _),h3⟩
theorem Fine.st {ss : List StD} {t : TyD} (h : Fine ss t) (hk : t.k=5) : 0≤t.st∧t.st<ss.length:=by
 have:=Yh h hk
 exact ⟨this.1,this.2.1⟩
theorem acU {ss : List StD} (hg : jj ss) {s : TyD × Int} {k : Int} {s' : TyD × Int} (h : Fine ss s.1) (e : stepG ss s k=some s') : Fine ss s'.1:=by
 have inside : ∀ {f : TyD→TyD × Int},(∀ u,(f u).1=u)→s.1.of.head?.map f=some s'→Fine ss s'.1:=by
  intro f hf e
  rcases h.cases with ⟨h1,_⟩|⟨u,h1,h2,_⟩
  ·rw [h1] at e;cases e
  ·rw [h1] at e
   obtain rfl:=Option.some.inj e
   rw [hf];exact h2
 unfold stepG at e
 split at e
 ·exact inside (fun _=>rfl) e
 split at e
 ·exact inside (fun _=>rfl) e
 split at e
 ·rename_i h3
  cases hu : (ze ss s.1.st)[k.toNat]? with
  |none=>rw [hu] at e;cases e
  |some u=>
   rw [hu] at e
   obtain rfl:=Option.some.inj e
   exact hg _ u (List.mem_of_getElem? hu)
 ·cases e
theorem J1 {ss : List StD} (hg : jj ss) : ∀ {l : List Int} {s s' : TyD × Int},Fine ss s.1→goG ss l s=some s'→Fine ss s'.1
 |[],s,s',h,e=>by obtain rfl:=Option.some.inj e;exact h
 |k::l,s,s',h,e=>by
  rw [goG] at e
  cases hs : stepG ss s k with
  |none=>rw [hs] at e;cases e
  |some s2=>rw [hs] at e;exact J1 hg (acU hg h hs) e
structure YE (ss : List StD) (tys : List TyD) : Prop where
 few : ss.length≤32
 good : jj ss
 acy : ∀ k,¬ Rch ss k k
 all : ∀ t ∈ tys,Fine ss t
theorem acV {ss : List StD} {tys : List TyD} (h : YE ss tys) {p : PlD} (ho : (zC ss tys p).2.2=true) : Fine ss (zC ss tys p).1:=by
 unfold zC at ho ⊢
 cases hb : (if p.l<0 then none else tys[p.l.toNat]?).bind fun t=>goG ss p.ps (t,0) with
 |none=>rw [hb] at ho;cases ho
 |some s=>
  show Fine ss s.1
  split at hb
  ·cases hb
  ·cases ht : tys[p.l.toNat]? with
   |none=>rw [ht] at hb;cases hb
   |some t=>
    rw [ht] at hb
    exact J1 h.good (h.all t (List.mem_of_getElem? ht)) hb
end Go.Proofs
end
section
namespace Go.Proofs
open Go.Sh
set_option linter.unusedVariables false
end Go.Proofs
end
section
namespace Go.Proofs
open Go.Sh
set_option linter.unusedVariables false
end Go.Proofs
end
section
namespace Go.Proofs
open Go.Sh
set_option maxRecDepth 100000
set_option linter.unusedSimpArgs false
set_option linter.unusedVariables false
instance {P : Program} {t e ty : TypeId} {a b : Int} : PStep P (Builtin.max_ #[t,e] ty #[.int .i64 a,.int .i64 b]) (.int .i64 (max a b)):=⟨fun w=>Lib.run_max_ints w _ _ _ _ _ _⟩
instance (priority:=low) {P : Program} {t : TypeId} {c : Bool} {x : ByteArray} {m : List UInt8} : PStep P (zV .eql t c (.string x) (.string (bs m))) (.bool (x.toList == m)):=.of fun _ k=>
 z6 (fun w=>by rw [vU trivial,binOp_string_eql,qM m];rfl) k
theorem afl {P : Program} {w : World} {s : Sem Value} {K : Value→World→Prop} (h : opQ P w s fun v=>K v w) : opW P w s K:=w_q (by
 obtain ⟨v,h1,h2⟩:=h
 exact ⟨v,h1,h2⟩)
theorem SlB.lt {α : Type} {sz : Nat} {r : Gh} {R : List Value→α→Prop} {v : Value} {l : List α} (h : SlB sz r R v l) : l.length≤9223372036854775807:=h.few
theorem Z1 {a : Nat} : decide ((a : Int)=0)=decide (a=0):=decide_eq_decide.2 (by omega)
theorem kR {p : PlD} {c : List Value} {w : World} {r : Gh} {K : Value→World→Prop} (hr : Holds r w) (hp : PlG r c p) (h : ∀ w',Ext w w'→K (.bool (x9 p)) w') :
  zd Tryz.prog Tryz.xc #[.agg c.toArray] w K:=by
 obtain ⟨v,rfl,hl⟩:=hp
 obtain ⟨q,cap,rfl,_,_⟩:=hl.sl.shape
 refine Tryz.VE ?_
 unfold Tryz.Xd
 have S:=St.start hr
 refine S.box fun b1 w1 S=>?_
 refine gG_ ?_
 refine zj (c:=decide (p.ps.length=0)) (fun _ K2 hK2=>?_) ?_
 ·refine gG_ ?_
  rw [Z1]
  exact hK2
 exact h _ S.ext
def AskG (r : Gh) (v : Value) (u : UnD) (g : GrD) : Prop:=∃ p cap vf vo vt vn vp,v = .agg #[.slice p u.ss.length cap,vf,.int .i64 u.mn,.string g.name,.int .i64 g.lv,vo,.int .i64 g.pn,vt,vn,vp]∧
 UnG r (.agg #[.slice p u.ss.length cap,vf,.int .i64 u.mn]) u∧GrG r [.string g.name,.int .i64 g.lv,vo,.int .i64 g.pn,vt,vn,vp] g
theorem AskG.up {r s : Gh} {v : Value} {u : UnD} {g : GrD} (h : AskG r v u g) [l : Le r s] : AskG s v u g:=by
 obtain ⟨p,cap,vf,vo,vt,vn,vp,h0,h1,h2⟩:=h
 exact ⟨p,cap,vf,vo,vt,vn,vp,h0,h1.up,h2.up⟩
abbrev tyL (t : TyD) (q : Option Addr) (cap : Nat) : List Value:=[.int .u8 t.k,.bool t.m,.int .i64 t.re,.int .i64 t.st,.slice q t.of.length cap]
abbrev tyV (t : TyD) (q : Option Addr) (cap : Nat) : Value:=.agg #[.int .u8 t.k,.bool t.m,.int .i64 t.re,.int .i64 t.st,.slice q t.of.length cap]
abbrev spL (t : TyD) (q : Option Addr) (cap : Nat) (m : Int) (ok : Bool) : List Value:=[.int .u8 t.k,.bool t.m,.int .i64 t.re,.int .i64 t.st,.slice q t.of.length cap,.int .i64 m,.bool ok]
abbrev spV (t : TyD) (q : Option Addr) (cap : Nat) (m : Int) (ok : Bool) : Value:=.agg #[.int .u8 t.k,.bool t.m,.int .i64 t.re,.int .i64 t.st,.slice q t.of.length cap,.int .i64 m,.bool ok]
theorem qV {r : Gh} {c : List Value} {t : TyD} (h : TyG r (.agg c.toArray) t) : ∃ q cap,c=tyL t q cap∧TyG r (tyV t q cap) t:=by
 obtain ⟨p,cap,h1,_⟩:=QD h
 subst h1
 exact ⟨p,cap,rfl,h⟩
theorem V3 {r : Gh} {s uu : TyD} {q : Option Addr} {cap : Nat} (h : TyG r (tyV s q cap) s) (hof : s.of = [uu]) : ∃ b off q2 cap2,q=some ⟨b,off,none⟩∧TyG r (tyV uu q2 cap2) uu∧∀ j v,(tyL uu q2 cap2)[j]? = some v→Ob r fun w=>w.cell? ⟨b,off+j,none⟩=some v:=by
 obtain ⟨_,_,hE,_,_,hreps⟩:=h
 cases hE
 obtain ⟨b,off,rfl,c,h1,h2,h3⟩:=NdG.of hreps (i:=0) (by rw [hof];exact Nat.one_pos)
 have h3 : TyG r (.agg c.toArray) uu:=by simpa [hof] using h3
 obtain ⟨q2,cap2,rfl,ht⟩:=qV h3
 exact ⟨b,off,q2,cap2,rfl,ht,by simpa using h2⟩
theorem Jm (ss : List StD) : ∀ (l : List Int) (k : Int) (s : TyD × Int),goG ss (l ++ [k]) s=(goG ss l s).bind fun s'=>stepG ss s' k
 |[],k,s=>by
  show (stepG ss s k).bind (goG ss [])=stepG ss s k
  cases stepG ss s k<;>rfl
 |x::l,k,s=>by
  rw [List.cons_append,goG,goG]
  cases h : stepG ss s x with
  |none=>rfl
  |some s'=>exact Jm ss l k s'
theorem aaM {ss : List StD} : ∀ {l m : List Int} {s : TyD × Int},goG ss l s=none→goG ss (l++m) s=none
 |[],m,s,h=>by cases h
 |x::l,m,s,h=>by
  rw [List.cons_append,goG]
  rw [goG] at h
  cases hs : stepG ss s x with
  |none=>rfl
  |some s'=>rw [hs] at h;exact aaM (l:=l) (m:=m) h
theorem acW {ss : List StD} {tys : List TyD} {p : PlD} {t : TyD} {i : Nat} (h0 : 0≤p.l) (ht : tys[p.l.toNat]? = some t) (h : goG ss (p.ps.take i) (t,0)=none) : zC ss tys p=(yo,0,false):=by
 have:=aaM (m:=p.ps.drop i) h
 rw [List.take_append_drop] at this
 unfold zC
 rw [if_neg (by omega),ht]
 show (match goG ss p.ps (t,0) with|some s=>(s.1,s.2,decide (p.ps.length≤8))|none=>(yo,0,false))=_
 rw [this]
theorem acX {ss : List StD} {tys : List TyD} {p : PlD} {t : TyD} {s : TyD × Int} (h0 : 0≤p.l) (ht : tys[p.l.toNat]? = some t) (h : goG ss p.ps (t,0)=some s) : zC ss tys p=(s.1,s.2,decide (p.ps.length≤8)):=by
 unfold zC
 rw [if_neg (by omega),ht]
 show (match goG ss p.ps (t,0) with|some s=>(s.1,s.2,decide (p.ps.length≤8))|none=>(yo,0,false))=_
 rw [h]
theorem adK {ss : List StD} {tys : List TyD} {p : PlD} (h : p.l<0∨(tys.length : Int)≤p.l) : zC ss tys p=(yo,0,false):=by
 unfold zC
 by_cases h0 : p.l<0
 ·rw [if_pos h0];rfl
 ·rw [if_neg h0,List.getElem?_eq_none (by omega)];rfl
set_option maxHeartbeats 1000000 in
theorem yQ {u : UnD} {g : GrD} {p : PlD} {c : List Value} {v : Value} {w : World} {r : Gh} {K : Value→World→Prop} {t : TyD} {m : Int} {ok : Bool} (hr : Holds r w) (hx : AskG r v u g) (hf : YE u.ss g.tys) (hp : PlG r c p) (hsp : zC u.ss g.tys p=(t,m,ok))
  (h : ∀ q cap w',Ext w w'→TyG r (tyV t q cap) t→K (spV t q cap m ok) w') : zd Tryz.prog Tryz.zi #[v,.agg c.toArray] w K:=by
 obtain ⟨p0,cap0,vf,vo,vt,vn,vp,rfl,hu,hg⟩:=hx
 obtain ⟨_,_,_,_,hE,_,htys,_,_⟩:=hg
 cases hE
 obtain ⟨_,_,_,hE,_,_,hst,_,_⟩:=hu
 cases hE
 obtain ⟨qt,capt,rfl,_,_⟩:=htys.sl.shape
 obtain ⟨v,rfl,hl⟩:=hp
 obtain ⟨qs,caps,rfl,_,_⟩:=hl.sl.shape
 have hbl:=hl.lt
 refine Tryz.Y1 ?_
 unfold Tryz.jV
 have S:=St.start hr
 refine S.box fun b2 w1 S=>?_
 refine S.box fun b3 w2 S=>?_
 refine S.al fun b4 w3 S=>?_
 refine gG_ ?_
 refine zh (c:=decide ((g.tys.length : Int)≤p.l)) (fun _ K2 hK2=>?_) ?_
 ·refine gG_ ?_
  exact hK2
 refine c_b (fun ho=>?_) (fun hi=>?_)
 ·have hz:=adK (ss:=u.ss) (tys:=g.tys) (p:=p) (by simpa using ho)
  rw [hz] at hsp;cases hsp
  refine zz (cs:=#[.int .u8 0,.bool false,.int .i64 0,.int .i64 0,.slice none 0 0,.int .i64 0,.bool false]) (by kernel_rfl) ?_
  refine S.stB (b:=b4) fun w5 S=>?_
  refine gG_ ?_
  exact h none 0 _ S.ext vO
 have hlo : 0≤p.l∧p.l<g.tys.length:=by
  simp only [Bool.or_eq_false_iff,decide_eq_false_iff_not] at hi;omega
 clear hi
 have hlt0 : p.l.toNat<g.tys.length:=by omega
 obtain ⟨bt,ot,ct,rfl,hct,htc,hcell⟩:=htys.sl.get (by decide) hlt0
 obtain ⟨t0,hti⟩ : ∃ t0,g.tys[p.l.toNat]=t0:=⟨_,rfl⟩
 rw [hti] at htc
 have hq : g.tys[p.l.toNat]? = some t0:=by rw [List.getElem?_eq_getElem hlt0,hti]
 have hfi : Fine u.ss t0:=hf.all _ (List.mem_of_getElem? hq)
 obtain ⟨q0,cap1,rfl,ht0⟩:=qV htc
 have S:=S.go (Ext.drew _)
 refine gG_ ?_
 refine zt (n:=5) hct (fun j v hj=>S.at (hcell j v hj)) ?_
 refine gG_ ?_
 refine S.alU fun b5 w10 S=>?_
 refine S.stB (b:=b5) fun w11 S=>?_
 refine gG_ ?_
 have hok : decide (p.ps.length≤8)=decide ((p.ps.length : Int)≤8):=decide_eq_decide.2 (by omega)
 refine zk (ι:=Nat × TyD × Int × Option Addr × Nat) (fun i=>[.int .i64 (i.1 : Nat)]) (fun i w'=>i.1≤p.ps.length∧goG u.ss (p.ps.take i.1) (t0,0)=some (i.2.1,i.2.2.1)∧TyG r (tyV i.2.1 i.2.2.2.1 i.2.2.2.2) i.2.1∧
  StX noX w r w' [.cell b5 (spL i.2.1 i.2.2.2.1 i.2.2.2.2 i.2.2.1 (decide ((p.ps.length : Int)≤8))) 115,.cell b4 [.int .u8 0,.bool false,.int .i64 0,.int .i64 0,.slice none 0 0,.int .i64 0,.bool false] 115,.cell b3 [.int .i64 p.l,.slice qs p.ps.length caps] 38,
   .cell b2 [.slice p0 u.ss.length cap0,vf,.int .i64 u.mn,.string g.name,.int .i64 g.lv,vo,.int .i64 g.pn,.slice (some ⟨bt,ot,none⟩) g.tys.length capt,vn,vp] 117]) (fun i=>p.ps.length - i.1) (0,t0,0,q0,cap1) rfl ⟨Nat.zero_le _,rfl,ht0,S⟩ ?_
 clear S
 rintro ⟨i,s,m',q,cap⟩ d w15 ⟨hi,hgo,hs,S⟩ K6 hK6
 simp only at hi hgo hs S ⊢
 rw [List.getD_cons_zero]
 refine gG_ ?_
 refine c_b (fun hlt=>?_) (fun hge=>?_)
 rotate_left
 ·have hie : i=p.ps.length:=by
   have:=of_decide_eq_false hge;omega
  rw [hie,List.take_length] at hgo
  rw [acX hlo.1 hq hgo,hok] at hsp
  cases hsp
  refine gG_ ?_
  refine S.stB (b:=b4) fun w16 S=>?_
  refine gG_ ?_
  exact h _ _ _ S.ext hs
 have hlt : i<p.ps.length:=by simpa using hlt
 have hsf : Fine u.ss s:=J1 hf.good hfi hgo
 obtain ⟨k,hke⟩ : ∃ k,p.ps[i]=k:=⟨_,rfl⟩
 obtain ⟨bs,os,cs,rfl,hcs,hck,hcl⟩:=hl.sl.get (by decide) hlt
 rw [hke] at hck
 obtain ⟨rfl,hin⟩:=hck
 have hstep : goG u.ss (p.ps.take (i+1)) (t0,0)=stepG u.ss (s,m') k:=by
  rw [List.take_succ_eq_append_getElem hlt,Jm,hgo,hke];rfl
 refine zA (fun _ w'=>∃ s' m2 q' cap',stepG u.ss (s,m') k=some (s',m2)∧TyG r (tyV s' q' cap') s'∧
  StX noX w r w' [.cell b5 (spL s' q' cap' m2 (decide ((p.ps.length : Int)≤8))) 115,.cell b4 [.int .u8 0,.bool false,.int .i64 0,.int .i64 0,.slice none 0 0,.int .i64 0,.bool false] 115,.cell b3 [.int .i64 p.l,.slice (some ⟨bs,os,none⟩) p.ps.length caps] 38,
   .cell b2 [.slice p0 u.ss.length cap0,vf,.int .i64 u.mn,.string g.name,.int .i64 g.lv,vo,.int .i64 g.pn,.slice (some ⟨bt,ot,none⟩) g.tys.length capt,vn,vp] 117]) (fun K16 hK16=>?_) ?_
 rotate_left
 ·rintro _ w19 ⟨s',m2,q',cap',h1,h2,S⟩ d2
  refine gG_ ?_
  rw [show ((i : Int)+1)=((i+1 : Nat) : Int) by omega]
  exact hK6 (i+1,s',m2,q',cap') _ ⟨hlt,hstep.trans h1,h2,S⟩ (by show p.ps.length - (i+1)<p.ps.length - i;omega)
 refine gG_ ?_
 refine zG (v:=.int .i64 k) (by simpa using S.at (hcl 0 _ rfl)) ?_
 refine gP_ ?_
 refine S.ldN (b:=b5) ?_
 refine S.al fun b8 w20 S=>?_
 refine S.stB (b:=b8) fun w21 S=>?_
 refine gG_ ?_
 refine zj (c:=decide (s.k=3)) (fun _ K2 hK2=>?_) ?_
 ·refine gG_ ?_
  exact hK2
 have down : (s.k=3∨s.k=4)→∃ uu,s.of = [uu]:=by
  intro hk
  rcases hsf.cases with ⟨_,h1⟩|⟨uu,h1,_⟩
  ·omega
  ·exact ⟨uu,h1⟩
 refine c_b (fun hB=>?_) (fun hB=>?_)
 ·obtain ⟨hk1,hk3⟩ : k = -1∧s.k=3:=by simpa using hB
  obtain ⟨uu,hof⟩:=down (.inl hk3)
  obtain ⟨bo,oo,q2,cap2,rfl,ht2,hcc⟩:=V3 hs hof
  have hl1 : s.of.length=1:=by rw [hof];rfl
  refine gG_ ?_
  refine S.st (b:=b5) fun w26 S=>?_
  refine gG_ ?_
  refine zt (n:=5) (c:=tyL uu q2 cap2) rfl (fun j v hj=>by simpa using S.at (hcc j v hj)) ?_
  refine gG_ ?_
  refine S.stN (b:=b5) fun w27 S=>?_
  refine hK16 [] _ ⟨uu,max m' 1,q2,cap2,?_,ht2,S.drop b8⟩
  rw [stepG,if_pos ⟨hk1,hk3⟩,hof];rfl
 have hB : ¬ (k = -1∧s.k=3):=by simpa using hB
 refine gG_ ?_
 refine zj (c:=decide (s.k=4)) (fun _ K2 hK2=>?_) ?_
 ·refine gG_ ?_
  exact hK2
 refine c_b (fun hR=>?_) (fun hR=>?_)
 ·obtain ⟨hk1,hk3⟩ : k = -1∧s.k=4:=by simpa using hR
  obtain ⟨uu,hof⟩:=down (.inr hk3)
  obtain ⟨bo,oo,q2,cap2,rfl,ht2,hcc⟩:=V3 hs hof
  have hl1 : s.of.length=1:=by rw [hof];rfl
  refine zA (fun s' w'=>s' = [.int .i64 (if s.m then 2 else 3)]∧w'=w21) (fun K7 hK7=>?_) ?_
  ·refine gG_ ?_
   refine c_b (fun hm=>hK7 _ _ ⟨by rw [hm];rfl,rfl⟩) (fun hm=>hK7 _ _ ⟨by rw [hm];rfl,rfl⟩)
  rintro _ _ ⟨rfl,rfl⟩ d3
  refine gG_ ?_
  refine S.st (b:=b5) fun w26 S=>?_
  refine gG_ ?_
  refine zt (n:=5) (c:=tyL uu q2 cap2) rfl (fun j v hj=>by simpa using S.at (hcc j v hj)) ?_
  refine gG_ ?_
  refine S.stN (b:=b5) fun w27 S=>?_
  refine hK16 [] _ ⟨uu,max m' (if s.m then 2 else 3),q2,cap2,?_,ht2,S.drop b8⟩
  rw [stepG,if_neg (by omega),if_pos ⟨hk1,hk3⟩,hof];rfl
 have hR : ¬ (k = -1∧s.k=4):=by simpa using hR
 refine gG_ ?_
 refine zj (c:=decide (s.k=5)) (fun _ K2 hK2=>?_) ?_
 ·refine gG_ ?_
  exact hK2
 refine zj (c:=decide (k<(ze u.ss s.st).length)) (fun h5 K2 hK2=>?_) ?_
 ·obtain ⟨hk0,hk5⟩ : 0≤k∧s.k=5:=by simpa using h5
  obtain ⟨hst0,hst1⟩:=hsf.st hk5
  have hslt : s.st.toNat<u.ss.length:=by omega
  obtain ⟨b,off,q9,capq,rfl,hcell9,_,_,hfl⟩:=vG hst hslt
  have hlen : (ze u.ss s.st).length=u.ss[s.st.toNat].fs.length:=by
   rw [← Vk hslt];simp only [ze,Int.toNat_natCast]
  refine gG_ ?_
  refine zG (S.at hcell9) ?_
  refine gG_ ?_
  rw [← hlen]
  exact hK2
 refine c_b (fun hS=>?_) (fun hS=>?_)
 ·obtain ⟨⟨hk0,hk5⟩,hkl⟩ : (0≤k∧s.k=5)∧k<(ze u.ss s.st).length:=by simpa using hS
  obtain ⟨hst0,hst1⟩:=hsf.st hk5
  have hslt : s.st.toNat<u.ss.length:=by omega
  obtain ⟨b,off,q9,capq,rfl,hcell9,_,_,hfl⟩:=vG hst hslt
  have htl : ze u.ss s.st=u.ss[s.st.toNat].fs.map (·.2):=by
   rw [← kN hslt];simp only [ze,Int.toNat_natCast]
  have hkf : k.toNat<u.ss[s.st.toNat].fs.length:=by
   rw [htl,List.length_map] at hkl;omega
  obtain ⟨b9,off9,c9,rfl,hc9,hcell8,ht9⟩:=YA hfl hkf
  obtain ⟨q2,cap2,rfl,ht2⟩:=qV ht9
  refine gG_ ?_
  refine zG (S.at hcell9) ?_
  refine gG_ ?_
  refine zt (n:=5) (c:=tyL _ q2 cap2) rfl (fun j v hj=>by have:=S.at (hcell8 (j+1) v hj);rwa [show off9+k.toNat*6+(j+1)=off9+k.toNat*6+1+j by omega] at this) ?_
  refine gG_ ?_
  refine S.stN (b:=b5) fun w27 S=>?_
  refine hK16 [] _ ⟨_,m',q2,cap2,?_,ht2,S.drop b8⟩
  rw [stepG,if_neg (by omega),if_neg (by omega),if_pos ⟨hk0,hk5⟩,htl,List.getElem?_map,List.getElem?_eq_getElem hkf];rfl
 have hz : zC u.ss g.tys p=(yo,0,false):=by
  refine acW hlo.1 hq (i:=i+1) (hstep.trans ?_)
  rw [stepG,if_neg hB,if_neg hR]
  split
  ·rename_i h5
   rw [List.getElem?_eq_none];· rfl
   have : ¬ k<(ze u.ss s.st).length:=by
    intro hh
    have : ((decide (0≤k)&&decide (s.k=5))&&decide (k<((ze u.ss s.st).length : Int)))=true:=by simp [h5,hh]
    rw [this] at hS;cases hS
   have h50 : 0≤k:=h5.1
   show (ze u.ss s.st).length≤k.toNat
   omega
  ·rfl
 rw [hz] at hsp;cases hsp
 refine gG_ ?_
 refine S.stB (b:=b4) fun w16 S=>?_
 refine gG_ ?_
 exact h none 0 _ S.ext vO
end Go.Proofs
end
section
namespace Go.Proofs
open Go.Sh
set_option maxRecDepth 100000
set_option linter.unusedSimpArgs false
set_option linter.unusedVariables false
theorem Jn {r : Gh} {k : Int} {m : Bool} {re st : Int} : TyG r (tyV (.mk k m re st []) none 0) (.mk k m re st []):=vO
set_option maxHeartbeats 1000000 in
theorem xS {u : UnD} {g : GrD} {o : OpD} {c : List Value} {v : Value} {w : World} {r : Gh} {K : Value→World→Prop} {t : TyD} {ok : Bool} (hr : Holds r w) (hx : AskG r v u g) (hf : YE u.ss g.tys) (ho : OpG r c o) (hop : zK u.ss g.tys o=(t,ok))
  (h : ∀ q cap w',Ext w w'→TyG r (tyV t q cap) t→K (.tuple #[tyV t q cap,.bool ok]) w') : zd Tryz.prog Tryz.yk #[v,.agg c.toArray] w K:=by
 obtain ⟨p0,cap0,vf,vo,vt,vn,vp,rfl,hu,hg⟩:=id hx
 obtain ⟨vq,rfl,hl⟩:=ho
 obtain ⟨qs,caps,rfl,_,_⟩:=hl.sl.shape
 have hpl : PlG r [.int .i64 o.pl.l,.slice qs o.pl.ps.length caps] o.pl:=⟨_,rfl,hl⟩
 refine Tryz.ZU ?_
 unfold Tryz.qR
 have S:=St.start hr
 refine S.box fun b2 w1 S=>?_
 refine S.box fun b3 w2 S=>?_
 refine S.al fun b4 w3 S=>?_
 refine gG_ ?_
 unfold zK at hop
 refine zg (fun h1=>?_) (fun h1=>?_)
 ·rw [if_pos h1] at hop;cases hop
  refine gG_ ?_
  refine S.ldN (b:=b3) ?_
  refine kR S.holds hpl fun w4 e4=>?_
  have S:=S.go e4
  refine S.stB (b:=b4) fun w5 S=>?_
  refine gG_ ?_
  exact h none 0 _ S.ext Jn
 rw [if_neg h1] at hop
 refine gG_ ?_
 refine zg (fun h2=>?_) (fun h2=>?_)
 ·rw [if_pos h2] at hop;cases hop
  have S:=S.go (Ext.drew _)
  refine gG_ ?_
  refine S.ldN (b:=b3) ?_
  refine kR S.holds hpl fun w44 e4=>?_
  have S:=S.go e4
  have fin : ∀ {w9 : World},StX noX w r w9 [.cell b4 (tyL V2 none 0) 57,.cell b3 [.int .u8 o.k,.int .i64 o.n,.int .i64 o.pl.l,.slice qs o.pl.ps.length caps] 41,.cell b2 (Value.agg #[.slice p0 u.ss.length cap0,vf,.int .i64 u.mn,.string g.name,.int .i64 g.lv,vo,.int .i64 g.pn,vt,vn,vp]).cells.toList 117]→∀ x,x=(x9 o.pl&&(decide (o.n=0)||decide (o.n=1)))→
    K (.tuple #[tyV V2 none 0,.bool x]) w9:=by
   intro w9 S x hx
   subst hx
   exact h none 0 _ S.ext Jn
  have st : ∀ {w8 : World} {K : World→Prop},StX noX w r w8 [.cell b4 [.int .u8 0,.bool false,.int .i64 0,.int .i64 0,.slice none 0 0] 57,.cell b3 [.int .u8 o.k,.int .i64 o.n,.int .i64 o.pl.l,.slice qs o.pl.ps.length caps] 41,.cell b2 (Value.agg #[.slice p0 u.ss.length cap0,vf,.int .i64 u.mn,.string g.name,.int .i64 g.lv,vo,.int .i64 g.pn,vt,vn,vp]).cells.toList 117]→
    (∀ w9,StX noX w r w9 [.cell b4 (tyL V2 none 0) 57,.cell b3 [.int .u8 o.k,.int .i64 o.n,.int .i64 o.pl.l,.slice qs o.pl.ps.length caps] 41,.cell b2 (Value.agg #[.slice p0 u.ss.length cap0,vf,.int .i64 u.mn,.string g.name,.int .i64 g.lv,vo,.int .i64 g.pn,vt,vn,vp]).cells.toList 117]→K w9)→
    opU Tryz.prog w8 (Instr.storeAt 57 (.pointer (some ⟨b4,0,none⟩)) (.agg #[.int .u8 2,.bool false,.int .i64 0,.int .i64 0,.slice none 0 0])) K:=by
   intro w8 K S hK
   exact S.stB (b:=b4) fun w9 S=>hK w9 S
  cases hz : x9 o.pl with
  |false=>
   (intro K9 hK9;refine gD_ ?_;refine hK9 _ _ fun _=>?_;clear hK9 K9)
   (intro K9 hK9;refine gD_ ?_;refine hK9 _ _ fun _=>?_;clear hK9 K9)
   refine ⟨?_,?_⟩
   ·(intro K9 hK9;refine gD_ ?_;refine hK9 _ _ fun _=>?_;clear hK9 K9)
    (intro K9 hK9;refine gD_ ?_;refine hK9 _ _ fun _=>?_;clear hK9 K9)
    refine gD_ ?_
    refine st S fun w9 S=>?_
    refine gG_ ?_
    exact fin S _ (by rw [hz]<;>rfl)
   ·refine st S fun w9 S=>?_
    (intro K9 hK9;refine gD_ ?_;refine hK9 _ _ fun _=>?_;clear hK9 K9)
    (intro K9 hK9;refine gD_ ?_;refine hK9 _ _ fun _=>?_;clear hK9 K9)
    refine gD_ ?_
    exact fin S _ (by rw [hz]<;>rfl)
  |true=>
   by_cases hn0 : o.n=0
   ·refine zA (fun s w'=>s = [.bool true]∧w'=w44) (fun K9 hK9=>?_) ?_
    ·refine gD_ ?_
     rw [decide_eq_true hn0]
     exact hK9 _ _ ⟨rfl,rfl⟩
    rintro _ w44 ⟨rfl,rfl⟩ d1
    (intro K9 hK9;refine gD_ ?_;refine hK9 _ _ fun _=>?_;clear hK9 K9)
    refine ⟨?_,?_⟩
    ·(intro K9 hK9;refine gD_ ?_;refine hK9 _ _ fun _=>?_;clear hK9 K9)
     (intro K9 hK9;refine gD_ ?_;refine hK9 _ _ fun _=>?_;clear hK9 K9)
     refine gD_ ?_
     refine st S fun w9 S=>?_
     refine gG_ ?_
     exact fin S _ (by rw [hz,hn0]<;>rfl)
    ·refine st S fun w9 S=>?_
     (intro K9 hK9;refine gD_ ?_;refine hK9 _ _ fun _=>?_;clear hK9 K9)
     (intro K9 hK9;refine gD_ ?_;refine hK9 _ _ fun _=>?_;clear hK9 K9)
     refine gD_ ?_
     exact fin S _ (by rw [hz,hn0]<;>rfl)
   ·refine zA (fun s w'=>s = [.bool false]∧w'=w44) (fun K9 hK9=>?_) ?_
    ·refine gD_ ?_
     rw [decide_eq_false hn0]
     exact hK9 _ _ ⟨rfl,rfl⟩
    rintro _ w44 ⟨rfl,rfl⟩ d1
    (intro K9 hK9;refine gD_ ?_;refine hK9 _ _ fun _=>?_;clear hK9 K9)
    refine ⟨?_,?_⟩
    ·refine zA (fun s w'=>s = [.bool (decide (o.n=1))]∧w'=w44) (fun K9 hK9=>?_) ?_
     ·refine gD_ ?_
      refine afl ?_
      refine gD_ ?_
      exact hK9 _ _ ⟨rfl,rfl⟩
     rintro _ w44 ⟨rfl,rfl⟩ d1
     (intro K9 hK9;refine gD_ ?_;refine hK9 _ _ fun _=>?_;clear hK9 K9)
     refine gD_ ?_
     refine st S fun w9 S=>?_
     refine gG_ ?_
     exact fin S _ (by rw [hz,decide_eq_false hn0];first|rfl|simp)
    ·refine st S fun w9 S=>?_
     refine zA (fun s w'=>s = [.bool (decide (o.n=1))]∧w'=w9) (fun K9 hK9=>?_) ?_
     ·refine gD_ ?_
      refine afl ?_
      refine gD_ ?_
      exact hK9 _ _ ⟨rfl,rfl⟩
     rintro _ w44 ⟨rfl,rfl⟩ d1
     (intro K9 hK9;refine gD_ ?_;refine hK9 _ _ fun _=>?_;clear hK9 K9)
     refine gD_ ?_
     exact fin S _ (by rw [hz,decide_eq_false hn0];first|rfl|simp)
 rw [if_neg h2] at hop
 obtain ⟨sty,sm,sok,hsp⟩ : ∃ sty sm sok,zC u.ss g.tys o.pl=(sty,sm,sok):=⟨_,_,_,rfl⟩
 simp only [hsp] at hop
 refine gG_ ?_
 refine S.ldN (b:=b3) ?_
 refine yQ S.holds hx hf hpl hsp fun q cap w5 e5 ht=>?_
 have S:=S.go e5
 refine S.al fun b6 w6 S=>?_
 refine S.stB (b:=b6) fun w7 S=>?_
 refine gG_ ?_
 refine zj (c:=decide (o.n=0)) (fun _ K2 hK2=>?_) ?_
 ·refine gG_ ?_
  exact hK2
 refine gG_ ?_
 refine zg (fun h3=>?_) (fun h3=>?_)
 ·rw [if_pos h3] at hop;cases hop
  have S:=S.go (Ext.drew _)
  refine gP_ ?_
  refine S.ldN (b:=b6) ?_
  refine zm (c:=qU t) (fun _ K2 hK2=>?_) fun w9 e9=>?_
  ·refine gP_ ?_
   refine S.ldN (b:=b6) ?_
   exact Yg S.holds ht fun w9 e9=>⟨e9,hK2 _ e9⟩
  have S:=S.go e9
  refine S.stB (b:=b4) fun w10 S=>?_
  refine gG_ ?_
  exact h _ _ _ S.ext ht
 rw [if_neg h3] at hop
 refine gG_ ?_
 refine zg (fun h4=>?_) (fun h4=>?_)
 ·rw [if_pos h4] at hop;cases hop
  have S:=S.go (Ext.drew _)
  refine gP_ ?_
  refine S.ldN (b:=b6) ?_
  refine zm (c:=!qU t) (fun _ K2 hK2=>?_) fun w9 e9=>?_
  ·refine gP_ ?_
   refine S.ldN (b:=b6) ?_
   refine Yg S.holds ht fun w9 e9=>⟨e9,?_⟩
   refine gP_ ?_
   exact hK2 _ e9
  have S:=S.go e9
  cases hb : ((sok&&decide (o.n=0)) && !qU t) with
  |false=>
   (intro K9 hK9;refine gD_ ?_;refine hK9 _ _ fun _=>?_;clear hK9 K9)
   refine ⟨?_,?_⟩
   ·(intro K9 hK9;refine gD_ ?_;refine hK9 _ _ fun _=>?_;clear hK9 K9)
    refine gD_ ?_
    refine S.stB (b:=b4) fun w10 S=>?_
    refine gG_ ?_
    have:=h _ _ _ S.ext ht
    rwa [hb] at this
   ·refine S.stB (b:=b4) fun w10 S=>?_
    (intro K9 hK9;refine gD_ ?_;refine hK9 _ _ fun _=>?_;clear hK9 K9)
    refine gD_ ?_
    have:=h _ _ _ S.ext ht
    rwa [hb] at this
  |true=>
   (intro K9 hK9;refine gD_ ?_;refine hK9 _ _ fun _=>?_;clear hK9 K9)
   refine ⟨?_,?_⟩
   ·refine zA (fun s w'=>s = [.bool (decide (sm<2))]∧w'=w9) (fun K9 hK9=>?_) ?_
    ·refine gD_ ?_
     refine afb ?_
     refine gD_ ?_
     exact hK9 _ _ ⟨rfl,rfl⟩
    rintro _ _ ⟨rfl,rfl⟩ d1
    refine gD_ ?_
    refine S.stB (b:=b4) fun w10 S=>?_
    refine gG_ ?_
    have:=h _ _ _ S.ext ht
    rwa [hb] at this
   ·refine S.stB (b:=b4) fun w10 S=>?_
    refine zA (fun s w'=>s = [.bool (decide (sm<2))]∧w'=w10) (fun K9 hK9=>?_) ?_
    ·refine gD_ ?_
     refine afb ?_
     refine gD_ ?_
     exact hK9 _ _ ⟨rfl,rfl⟩
    rintro _ _ ⟨rfl,rfl⟩ d1
    refine gD_ ?_
    have:=h _ _ _ S.ext ht
    rwa [hb] at this
 rw [if_neg h4] at hop;cases hop
 refine gG_ ?_
 refine S.stB (b:=b4) fun w10 S=>?_
 refine gG_ ?_
 exact h none 0 _ S.ext Jn
end Go.Proofs
end
section
namespace Go.Proofs
open Go.Sh
set_option maxRecDepth 100000
set_option linter.unusedSimpArgs false
set_option linter.unusedVariables false
theorem Jo {x : Bool} {w : World} {p : Option Addr} {l : List Bool} {cap : Nat} {K : Value→World→Prop} (hl : Sl w p (l.map Value.bool)) (hb : l.length≤1000000000) (h : K (.bool (l.contains x)) w) :
  zd Tryz.prog Tryz.yO #[.slice p l.length cap,.bool x] w K:=by
 refine Tryz.jC ?_
 unfold Tryz.xZ
 refine Tryz.vE ?_
 unfold Tryz.kL
 refine gP_ ?_
 refine zk (ι:=Nat) (fun i=>[.int .i64 (i : Nat)]) (fun i w'=>w'=w∧i≤l.length∧(l.take i).contains x=false) (fun i=>l.length - i) 0 rfl ⟨rfl,Nat.zero_le _,by simp⟩ ?_
 rintro i d w' ⟨rfl,hi,hn⟩ K6 hK6
 simp only [List.getD_cons_zero]
 refine gP_ ?_
 refine zg (fun hlt=>?_) (fun hge=>?_)
 ·have hlt : i<l.length:=by omega
  obtain ⟨b,off,rfl,hc⟩:=hl.at (i:=i) (by rw [List.length_map];exact hlt)
  refine gP_ ?_
  have hv : (l.map Value.bool)[i]'(by rw [List.length_map];exact hlt) = .bool l[i]:=by simp
  rw [hv] at hc
  refine zG (by simpa using hc) ?_
  refine gP_ ?_
  have ht : (l.take (i+1)).contains x=((l.take i).contains x||(x == l[i])):=by
   rw [List.take_succ_eq_append_getElem hlt];simp only [List.contains_eq_any_beq,List.any_append,List.any_cons,List.any_nil,Bool.or_false]
  refine c_b (fun hy=>?_) (fun hno=>?_)
  ·refine gP_ ?_
   rw [show decide ((i : Int)≥0)=true by simp]
   have : l.contains x=true:=List.contains_iff_mem.2 (by rw [eq_of_beq hy];exact List.getElem_mem hlt)
   rwa [this] at h
  ·refine gP_ ?_
   refine hK6 (i+1) _ ⟨rfl,hlt,?_⟩ (by omega)
   rw [ht,hn,hno];rfl
 ·have : i=l.length:=by omega
  subst this
  rw [List.take_length] at hn
  refine gP_ ?_
  rwa [hn] at h
theorem Yo {o : OpD} {c : List Value} {w : World} {r : Gh} {K : Value→World→Prop} (hr : Holds r w) (ho : OpG r c o) (h : ∀ w',Ext w w'→K (.bool (vH o)) w') :
  zQ Tryz.prog (.func (.func Tryz.Z5) #[] #[]) #[.agg c.toArray] w K:=by
 obtain ⟨vq,rfl,hl⟩:=ho
 obtain ⟨qs,caps,rfl,_,_⟩:=hl.sl.shape
 have hpl : PlG r [.int .i64 o.pl.l,.slice qs o.pl.ps.length caps] o.pl:=⟨_,rfl,hl⟩
 refine ael (by kernel_rfl) ?_
 refine Tryz.Q9 ?_
 unfold Tryz.Z9
 have S:=St.start hr
 refine S.box fun b1 w1 S=>?_
 refine gG_ ?_
 refine zj (c:=decide (o.n=0)) (fun _ K2 hK2=>?_) ?_
 ·refine gG_ ?_
  exact hK2
 refine zm (c:=x9 o.pl) (fun _ K2 hK2=>?_) fun w3 e3=>h _ (S.go e3).ext
 refine gP_ ?_
 refine S.ldN (b:=b1) ?_
 exact kR S.holds hpl fun w3 e3=>hK2 _ e3
abbrev agl (h : aaL) : Value:=.agg #[.bool h.to,.bool h.a,.bool h.b,.bool h.args,.bool h.sign,.bool h.fr,.bool h.mu,.bool h.fn,.bool h.st,.bool h.el]
theorem aaN (l : List Bool) : (!l.contains false)=l.all id:=by
 induction l with
 |nil=>rfl
 |cons x l ih=>
  rw [List.contains_cons,List.all_cons,← ih]
  cases x<;>simp
set_option maxHeartbeats 1000000 in
theorem zS {p : PtD} {f : aaL} {c : List Value} {w : World} {r : Gh} {K : Value→World→Prop} (hr : Holds r w) (hp : PtG r c p) (h : ∀ w',Ext w w'→K (.bool (zE p f)) w') :
  zd Tryz.prog Tryz.zI #[.agg c.toArray,agl f] w K:=by
 obtain ⟨vt,va,vb,vl,vf,rfl,h1,h2,h3,h4,h5⟩:=hp
 obtain ⟨qt,capt,rfl,_,_⟩:=h1.sl.shape
 obtain ⟨qa,capa,rfl,_,_⟩:=h2.sl.shape
 obtain ⟨qb,capb,rfl,_,_⟩:=h3.sl.shape
 obtain ⟨ql,capl,rfl,_,_⟩:=h4.sl.shape
 obtain ⟨qf,capf,rfl,_,_⟩:=h5.sl.shape
 refine Tryz.VD ?_
 unfold Tryz.Xc
 have S:=St.start hr
 refine S.box fun b2 w1 S=>?_
 refine S.box fun b3 w2 S=>?_
 have S:=S.go (Ext.drew _)
 refine gG_ ?_
 refine xM (c:=x9 p.to) (fun _ K2 hK2=>?_) fun w4 e4=>?_
 ·refine gP_ ?_
  refine S.ldN (b:=b2) ?_
  exact kR S.holds ⟨_,rfl,h1⟩ fun w3 e3=>⟨e3,hK2 _ e3⟩
 have S:=S.go e4
 refine xM (c:=vH p.a) (fun _ K2 hK2=>?_) fun w5 e5=>?_
 ·refine gP_ ?_
  refine S.ldN (b:=b2) ?_
  exact Yo S.holds ⟨_,rfl,h2⟩ fun w3 e3=>⟨e3,hK2 _ e3⟩
 have S:=S.go e5
 refine xM (c:=vH p.b) (fun _ K2 hK2=>?_) fun w5 e5=>?_
 ·refine gP_ ?_
  refine S.ldN (b:=b2) ?_
  exact Yo S.holds ⟨_,rfl,h3⟩ fun w3 e3=>⟨e3,hK2 _ e3⟩
 have S:=S.go e5
 refine zh (c:=decide (p.args.length=0)) (fun _ K2 hK2=>?_) ?_
 ·refine gG_ ?_
  rw [Z1]
  exact hK2
 refine zh (c:=p.sign.toList == []) (fun _ K2 hK2=>?_) ?_
 ·refine gG_ ?_
  exact hK2
 refine xM (c:=x9 p.fr) (fun _ K2 hK2=>?_) fun w4 e4=>?_
 ·refine gP_ ?_
  refine S.ldN (b:=b2) ?_
  exact kR S.holds ⟨_,rfl,h5⟩ fun w3 e3=>⟨e3,hK2 _ e3⟩
 have S:=S.go e4
 refine zh (c:=!p.mu) (fun _ K2 hK2=>?_) ?_
 ·refine gG_ ?_
  exact hK2
 refine zh (c:=decide (p.fn=0)) (fun _ K2 hK2=>?_) ?_
 ·refine gG_ ?_
  exact hK2
 refine zh (c:=decide (p.st=0)) (fun _ K2 hK2=>?_) ?_
 ·refine gG_ ?_
  exact hK2
 refine zh (c:=decide (p.el=0)) (fun _ K2 hK2=>?_) ?_
 ·refine gG_ ?_
  exact hK2
 refine S.lit (e:=4) (cs:=(qD p f).map Value.bool) (by kernel_rfl) fun b80 w80 S=>?_
 refine Jo (l:=qD p f) (x:=false) (Sl.blk (S.blk b80)) (by simp [qD]) ?_
 refine gP_ ?_
 rw [aaN]
 exact h _ S.ext
end Go.Proofs
end
section
namespace Go.Sh
section
variable {w : World} {Z : Value→World→Prop} {b c : Bool}
theorem J2 {g : Bool} {A : (List Value→World→Prop)→World→Prop} {G : (List Value→World→Prop)→Prop} (hG : b=false→∀ K : List Value→World→Prop,K [.bool g] w→G K) (hA : g=true→∀ K : List Value→World→Prop,K [.bool c] w→A K w) (hZ : Z (.bool (b||(g&&c))) w) :
  za (fun K1=>gIf (.bool b) false (G K1) (K1 [undef] w)) fun s1 _ w1=>
   za (fun K2=>gIf (s1.getD 0 undef) true (A K2 w1) (K2 [undef] w1)) fun s2 _ w2=>
    za (fun K3=>gIf (.bool b) false (zc (s1.getD 0 undef) (s2.getD 0 undef) (.bool false) fun t=>K3 [t] w2) (K3 [undef] w2)) fun s3 _ w3=>
     zc (.bool b) (.bool true) (s3.getD 0 undef) fun t=>Z t w3:=by
 intro K1 hK1
 cases b with
 |true=>
  refine hK1 _ _ fun _=>?_
  intro K2 hK2
  refine hK2 _ _ fun _=>?_
  intro K3 hK3
  refine hK3 _ _ fun _=>⟨true,rfl,?_⟩
  rw [Bool.true_or] at hZ;exact hZ
 |false=>
  refine hG rfl _ (hK1 _ _ fun _=>?_)
  intro K2 hK2
  cases g with
  |true=>
   refine hA rfl _ (hK2 _ _ fun _=>?_)
   intro K3 hK3
   refine ⟨true,rfl,hK3 _ _ fun _=>⟨false,rfl,?_⟩⟩
   rw [Bool.false_or,Bool.true_and] at hZ;exact hZ
  |false=>
   refine hK2 _ _ fun _=>?_
   intro K3 hK3
   refine ⟨false,rfl,hK3 _ _ fun _=>⟨false,rfl,?_⟩⟩
   rw [Bool.false_or,Bool.false_and] at hZ;exact hZ
end
theorem abj {P : Program} {K : Value→Prop} {t e : TypeId} {n : Nat} {p : Option Addr} {len cap : Nat} {kd kd' : IntKind} {a b : Int} (h : slT P t=some (e,n)) (h0 : 0≤a) (h1 : a≤b) (h2 : b≤cap)
  (k : K (.slice (if cap=a.toNat then p else p.map (·.add (a.toNat*n))) (b.toNat - a.toNat) (cap - a.toNat))) : opP P (Instr.sliceAt t (.slice p len cap) (some (.int kd a)) (some (.int kd' b)) none) K:=by
 refine z6 (fun w=>?_) k
 unfold slT at h
 cases hu : P.underlying t with
 |none=>rw [hu] at h;cases h
 |some d=>
  rw [hu] at h
  cases d<;>first|cases h|skip
  rename_i e'
  simp only [Option.map_eq_some_iff,Prod.mk.injEq] at h
  obtain ⟨m,hs,rfl,rfl⟩:=h
  have h3 : 0≤b:=by omega
  have h5 : a≤max b 0:=by omega
  simp [Instr.sliceAt,Instr.slice,Instr.sliceBounds,Instr.sliceBound,asIntOf,Sem.run_bind,zn hu,Result.andThen,Sem.run,pure,h0,h2,h3,h5,zW hs]
instance {P : Program} {t e : TypeId} {n : Nat} {p : Option Addr} {len cap : Nat} {i j : IntKind} {a b : Int} [h : SlT P t e n] : PCond P (Instr.sliceAt t (.slice p len cap) (some (.int i a)) (some (.int j b)) none) (.slice (if cap=a.toNat then p else p.map (·.add (a.toNat*n))) (b.toNat - a.toNat) (cap - a.toNat)) (0≤a∧a≤b∧b≤cap):=
 .of fun x _ k=>abj (e:=e) (n:=n) h.h x.1 x.2.1 x.2.2 k
theorem StX.holdW {X : Nat→Prop} {w0 w : World} {r : Gh} {L : List Asr} (S : StX X w0 r w L) (b : Nat) {c : List Value} {T : TypeId} {f : List Value→List Asr} [h : At b L c T f] : Holds (r.or (Go.Sh.one b c T)) w:=S.holds.or (yc (S.blk b))
end Go.Sh
namespace Go.Proofs
open Go.Sh
set_option maxRecDepth 100000
set_option linter.unusedSimpArgs false
set_option linter.unusedVariables false
section
variable {X : Nat→Prop} {w0 w : World} {r : Gh} {L : List Asr}
theorem Vp {x n : Int} {b : Nat} {f : List Value→List Asr} {K : Value→World→Prop} (S : StX X w0 r w L) [At b L [.int .i64 n] 3 f] (h : K (.bool (decide (0≤x)&&decide (x<n))) w) :
  zQ Tryz.prog (.func (.func Tryz.qN) #[] #[.pointer (some ⟨b,0,none⟩)]) #[.int .i64 x] w K:=by
 refine abZ (by kernel_rfl) ?_
 refine Tryz.ZT ?_
 unfold Tryz.qQ
 refine gP_ ?_
 refine zj (c:=decide (x<n)) (fun _ K2 hK2=>?_) h
 refine S.ld (b:=b) ?_ rfl
 refine gP_ ?_
 exact hK2
end
theorem zZ {t : TyD} {q : Option Addr} {cap : Nat} {k : Int} {w : World} {r : Gh} {K : Value→World→Prop} (hr : Holds r w) (h : ∀ w',Ext w w'→K (.bool (isK t k)) w') :
  zQ Tryz.prog (.func (.func Tryz.qO) #[] #[]) #[tyV t q cap,.int .u8 k] w K:=by
 refine Yy (by kernel_rfl) ?_
 refine Tryz.ZV ?_
 unfold Tryz.qS
 have S:=St.start hr
 refine S.box fun b1 w1 S=>?_
 refine gG_ ?_
 exact h _ S.ext
theorem abk {u : UnD} {g : GrD} {o : OpD} {t : TyD} {b2 : Nat} {c c2 : List Value} {q : Option Addr} {cap : Nat} {w : World} {r : Gh} {K : Value→World→Prop} (hr : Holds r w) (hb2 : Ob r fun w=>Blk w b2 c2 117) (hx : AskG r (.agg c2.toArray) u g)
  (hc2 : c2.length=10) (hf : YE u.ss g.tys) (ho : OpG r c o) (hc : c.length=4) (ht : TyG r (tyV t q cap) t)
  (h : ∀ w',Ext w w'→K (.bool ((zK u.ss g.tys o).2&&zY xh (zK u.ss g.tys o).1 t)) w') :
  zQ Tryz.prog (.func (.func Tryz.qc) #[] #[.pointer (some ⟨b2,0,none⟩)]) #[.agg c.toArray,tyV t q cap] w K:=by
 refine af2 (by kernel_rfl) ?_
 refine Tryz.Zc ?_
 unfold Tryz.qd
 have S:=St.start hr
 refine S.box fun b3 w1 S=>?_
 refine S.box fun b4 w2 S=>?_
 refine zt (n:=10) (c:=c2) hc2 (fun j v hj=>by rw [Nat.zero_add,(S.at hb2).cell];exact hj) ?_
 refine S.ldB (b:=b3) ?_ hc
 obtain ⟨t1,ok,hop⟩ : ∃ t1 ok,zK u.ss g.tys o=(t1,ok):=⟨_,_,rfl⟩
 rw [hop] at h
 refine xS S.holds hx hf ho hop fun q1 cap1 w3 e3 ht1=>?_
 have S:=S.go e3
 refine gP_ ?_
 refine gP_ ?_
 refine S.al fun b6 w4 S=>?_
 refine S.stB (b:=b6) fun w5 S=>?_
 refine zm (c:=zY xh t1 t) (fun _ K2 hK2=>?_) fun w9 e9=>h _ (S.go e9).ext
 refine S.ldB (b:=b6) ?_ rfl
 refine S.ldB (b:=b4) ?_ rfl
 exact km S.holds ht1 ht fun w9 e9=>hK2 _ e9
theorem YF {ss : List StD} {tys : List TyD} {o : OpD} {l : List OpD} {t : TyD} {r : List TyD} : yT ss tys (o::l) (t::r)=(((zK ss tys o).2&&zY xh (zK ss tys o).1 t)&&yT ss tys l r):=rfl
theorem Vq {ss : List StD} {tys : List TyD} : ∀ {l : List OpD} {r : List TyD},l.length≠r.length→yT ss tys l r=false
 |[],[],h=>absurd rfl h
 |[],_::_,_=>rfl
 |_::_,[],_=>rfl
 |o::l,t::r,h=>by rw [YF,Vq (by simpa using h),Bool.and_false]
theorem TysG.up {s t : Gh} {q : Option Addr} {ts : List TyD} (h : TysG s q ts) [l : Le s t] : TysG t q ts:=fun i hi=>by
 obtain ⟨b,off,c,h1,h2,h3,h4⟩:=h i hi
 exact ⟨b,off,c,h1,h2,fun j v hj=>(h3 j v hj).up,h4.up⟩
theorem abz {r : Gh} {q : Option Addr} {n cap : Nat} {ts : List TyD} (h : SlG 5 r (TyC r) (.slice q n cap) ts) : TysG r q ts:=fun i hi=>by
 obtain ⟨b,off,c,h1,h2,h3,h4⟩:=h.get (by decide) hi
 exact ⟨b,off,c,h1,h2,h4,h3⟩
theorem adL {top : Gh} {gs : Nat→Gh} {q : Option Addr} {ts : List TyD} (h : afi top gs q ts) : TysG (top.or (un gs 0 ts.length)) q ts:=fun i hi=>by
 obtain ⟨b,off,c,h1,h2,h3,h4,_⟩:=h.at' i hi
 exact ⟨b,off,c,h1,h2,fun j v hj=>(h3 j v hj).up,TyG.up h4 (l:=⟨fun b o hb=>.inr ⟨i,Nat.zero_le _,hi,hb⟩⟩)⟩
theorem TysG.sub {s : Gh} {q : Option Addr} {ts : List TyD} (h : TysG s q ts) {a n cap : Nat} (hc : ts.length≤cap) : TysG s (if cap=a then q else q.map (·.add (a*5))) ((ts.drop a).take n):=fun i hi=>by
 rw [List.length_take,List.length_drop] at hi
 obtain ⟨b,off,c,h1,h2,h3,h4⟩:=h (a+i) (by omega)
 refine ⟨b,off+a*5,c,?_,h2,fun j v hj=>?_,?_⟩
 ·rw [if_neg (by omega),h1,Option.map_some,xA]
 ·have:=h3 j v hj
  rwa [show off+(a+i)*5+j=off+a*5+i*5+j by omega] at this
 ·rw [List.getElem_take,List.getElem_drop];exact h4
theorem Vr {u : UnD} {g : GrD} {p : PtD} {l : List TyD} {b2 b3 : Nat} {c2 c3 : List Value} {ql : Option Addr} {capl : Nat} {w : World} {r : Gh} {K : Value→World→Prop} (hr : Holds r w) (hb2 : Ob r fun w=>Blk w b2 c2 117) (hb3 : Ob r fun w=>Blk w b3 c3 44) (hx : AskG r (.agg c2.toArray) u g)
  (hc2 : c2.length=10) (hf : YE u.ss g.tys) (hp : PtG r c3 p) (hl : TysG r ql l)
  (h : ∀ w',Ext w w'→K (.bool (yT u.ss g.tys p.args l)) w') :
  zQ Tryz.prog (.func (.func Tryz.qP) #[] #[.pointer (some ⟨b3,0,none⟩),.pointer (some ⟨b2,0,none⟩)]) #[.slice ql l.length capl] w K:=by
 refine V1 (by kernel_rfl) ?_
 refine Tryz.ZW ?_
 unfold Tryz.qT
 obtain ⟨vt,va,vb,va',vf,rfl,h1,h2,h3,h4,h5⟩:=hp
 obtain ⟨qa,capa,rfl,_,_⟩:=h4.sl.shape
 have S:=St.start hr
 have hlen:=h4.lt
 refine gP_ ?_
 refine zG (by rw [(S.at hb3).cell];rfl) ?_
 refine gP_ ?_
 refine Tryz.yu ?_
 unfold Tryz.zM
 refine gG_ ?_
 refine zg (fun hne=>?_) (fun heq=>?_)
 ·rw [Vq (by omega)] at h
  exact h _ S.ext
 have heq : p.args.length=l.length:=by omega
 refine gG_ ?_
 refine zk (ι:=Nat) (fun i=>[.int .i64 (i : Nat)]) (fun i w'=>i≤p.args.length∧yT u.ss g.tys (p.args.drop i) (l.drop i)=yT u.ss g.tys p.args l∧StX noX w r w' []) (fun i=>p.args.length - i) 0 rfl ⟨Nat.zero_le _,rfl,S⟩ ?_
 clear S
 rintro i d w1 ⟨hi,hd,S⟩ K6 hK6
 rw [List.getD_cons_zero]
 refine gP_ ?_
 refine zg (fun hlt=>?_) (fun hge=>?_)
 ·have hlt : i<p.args.length:=by omega
  have hlt2 : i<l.length:=by omega
  obtain ⟨ba,oa,ca,rfl,hca,hao,hac⟩:=h4.sl.get (by decide) hlt
  obtain ⟨bt,ot,ct,rfl,hct,htc,hto⟩:=hl i hlt2
  obtain ⟨q2,cap2,rfl,ht2⟩:=qV hto
  rw [List.drop_eq_getElem_cons hlt,List.drop_eq_getElem_cons hlt2,YF] at hd
  refine gP_ ?_
  refine zt (n:=4) hca (fun j v hj=>by rw [Int.toNat_natCast];exact S.at (hac j v hj)) ?_
  refine S.al fun b8 w2 S=>?_
  obtain ⟨vq,hca',hlq⟩:=id hao
  subst hca'
  obtain ⟨qs,caps,rfl,_⟩:=hlq.sl.shape
  refine S.stB (b:=b8) fun w3 S=>?_
  refine gP_ ?_
  refine zt (n:=5) hct (fun j v hj=>by rw [Int.toNat_natCast];exact S.at (htc j v hj)) ?_
  refine S.al fun b9 w4 S=>?_
  refine S.stB (b:=b9) fun w5 S=>?_
  refine S.ldB (b:=b8) ?_ rfl
  refine S.ldB (b:=b9) ?_ rfl
  refine abk S.holds hb2 hx hc2 hf hao rfl ht2 fun w6 e6=>?_
  have S:=S.go e6
  refine gP_ ?_
  refine c_b (fun hno=>?_) (fun hy=>?_)
  ·have hno : ((zK u.ss g.tys p.args[i]).2&&zY xh (zK u.ss g.tys p.args[i]).1 l[i])=false:=by rw [← Bool.not_eq_true'];exact hno
   rw [hno,Bool.false_and] at hd
   rw [← hd] at h
   exact h _ S.ext
  ·have hy : ((zK u.ss g.tys p.args[i]).2&&zY xh (zK u.ss g.tys p.args[i]).1 l[i])=true:=by rw [← Bool.not_eq_false'];exact hy
   rw [hy,Bool.true_and] at hd
   refine gP_ ?_
   rw [show ((i : Int)+1)=((i+1 : Nat) : Int) by omega]
   exact hK6 (i+1) _ ⟨hlt,hd,S.to r |>.less (fun _ _ h=>h) (List.nil_sublist _)⟩ (by omega)
 ·have hie : i=p.args.length:=by omega
  rw [hie,List.drop_length,heq,List.drop_length] at hd
  rw [← hd] at h
  exact h _ S.ext
end Go.Proofs
end
section
end
section
namespace Go.Proofs
open Go.Sh
set_option maxRecDepth 100000
set_option linter.unusedSimpArgs false
set_option linter.unusedVariables false
theorem QJ {f : Int→Bool} {fv : Value} {w : World} (hf : ∀ (x : Int) (K : Value→World→Prop),K (.bool (f x)) w→zQ Tryz.prog fv #[.int .i64 x] w K) {p : Option Addr} {l : List Int} {cap : Nat} {K : Value→World→Prop}
  (hl : Sl w p (ints l)) (hb : l.length≤1000000000) (h : ∀ i : Int,(0≤i↔l.any f=true)→K (.int .i64 i) w) : zd Tryz.prog Tryz.yX #[.slice p l.length cap,fv] w K:=by
 refine Tryz.jZ ?_
 unfold Tryz.kj
 refine gP_ ?_
 refine zk (ι:=Nat) (fun i=>[.int .i64 i]) (fun i w'=>w'=w∧i≤l.length∧(l.take i).any f=false) (fun i=>l.length - i) 0 rfl ⟨rfl,Nat.zero_le _,by simp⟩ ?_
 rintro i d w' ⟨rfl,hi,hn⟩ K6 hK6
 simp only [List.getD_cons_zero]
 refine gP_ ?_
 refine zg (fun hlt=>?_) (fun hge=>?_)
 ·have hlt : i<l.length:=by omega
  obtain ⟨b,off,rfl,hc⟩:=hl.at (i:=i) (by rw [kM];exact hlt)
  refine gP_ ?_
  have hv : (ints l)[i]'(by rw [kM];exact hlt) = .int .i64 l[i]:=by simp [ints]
  rw [hv] at hc
  refine zG (by simpa using hc) ?_
  refine hf _ _ ?_
  have ht : (l.take (i+1)).any f=((l.take i).any f||f l[i]):=by
   rw [List.take_succ_eq_append_getElem hlt,List.any_append];simp only [List.any_cons,List.any_nil,Bool.or_false]
  refine c_b (fun hy=>?_) (fun hno=>?_)
  ·refine h _ ⟨fun _=>?_,fun _=>Int.natCast_nonneg _⟩
   exact List.any_eq_true.2 ⟨l[i],List.getElem_mem hlt,hy⟩
  ·refine gP_ ?_
   refine hK6 (i+1) _ ⟨rfl,hlt,?_⟩ (by omega)
   rw [ht,hn,hno];rfl
 ·have : i=l.length:=by omega
  subst this
  rw [List.take_length] at hn
  exact h _ ⟨fun h=>by omega,fun h=>by rw [hn] at h;cases h⟩
theorem Y5 {f : Int→Bool} {fv : Value} {w : World} (hf : ∀ (x : Int) (K : Value→World→Prop),K (.bool (f x)) w→zQ Tryz.prog fv #[.int .i64 x] w K) {p : Option Addr} {l : List Int} {cap : Nat} {K : Value→World→Prop}
  (hl : Sl w p (ints l)) (hb : l.length≤1000000000) (h : K (.bool (l.any f)) w) : zd Tryz.prog Tryz.yB #[.slice p l.length cap,fv] w K:=by
 refine Tryz.ji ?_
 unfold Tryz.xF
 refine QJ hf hl hb fun i hi=>?_
 refine gP_ ?_
 have e : decide (i≥0)=l.any f:=by
  by_cases hh : l.any f=true
  ·rw [hh];exact decide_eq_true (hi.2 hh)
  ·rw [Bool.eq_false_iff.2 hh];exact decide_eq_false fun h=>hh (hi.1 h)
 rw [e];exact h
end Go.Proofs
end
section
namespace Go.Proofs
open Go.Sh
set_option maxRecDepth 100000
set_option linter.unusedSimpArgs false
set_option linter.unusedVariables false
end Go.Proofs
end
section
namespace Go.Proofs
open Go.Sh
set_option linter.unusedVariables false
end Go.Proofs
end
