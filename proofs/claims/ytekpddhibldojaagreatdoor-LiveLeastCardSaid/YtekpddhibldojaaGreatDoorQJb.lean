/-
  A way of walking: a memory that stays (a ghost), the cells that the walk itself has made, and one fact that carries both from world to world. Steps by classes.
  More of the way of walking: a row of one's own as a cell; what is frozen.
  The shallow reading of a function that defers one closure, and of a deferred closure that recovers.
  Data as such: what a value tells in a memory that stays, whatever its type: numbers, texts, structs, slices.
  Conditions put together: the value of 'and', 'or' as it stands.
  More of the way of walking: literals in a drawn region, cells that come to stay, rows that are given and taken.
  Strings as lists of bytes; interface values; structs compared.
  Notes beside code, told by numbers.
  The seat's types, reckoned: what each operation on them asks. Made by a program (wip/gen/gen.py).
  Shallow readings of functions. Made by a program (wip/gen/gen.py) out of the translation; the kernel checks each equality.
  Shallow readings of functions. Made by a program (wip/gen/gen.py) out of the translation; the kernel checks each equality.
  Shallow readings of functions. Made by a program (wip/gen/gen.py) out of the translation; the kernel checks each equality.
  Shallow readings of functions. Made by a program (wip/gen/gen.py) out of the translation; the kernel checks each equality.
  Shallow readings of functions. Made by a program (wip/gen/gen.py) out of the translation; the kernel checks each equality.
  Types as data: what a value of api.Type tells; typeFits.
  Contracts: which types may be (package types, the document's answer).
  Contracts: types that are alike, the same.
  Contracts: the regions of a type.
  Contracts: Regions, of both sides; which regions one type asks of another (pure).
  Contracts: what one type asks of another.
  Contracts: Asks, of both sides.
  Contracts: Asks, the document's.
  Contracts: the text of a type, of both sides. Itoa of small numbers.
  Contracts: the text of a type, the document's; Itoa of small numbers; Copies.
  Contracts: Structs, May, Words where there are no structs (what awake asks).
  Arithmetic of unsigned numbers, told by whole numbers where nothing runs over.
  A slice of one's own that need not begin where its block does: a queue.
  Further steps: values that are arrays, shifts and joins of numbers, structs of numbers compared; conditions put together.
  Contracts: the reader of types' texts: comes, take.
  Contracts: the reader of types' texts: digits.
  What is read of bytes, byte by byte: readers as data; how far they go. No program in sight.
  Contracts: the reader of types' texts: kind, ref.
  Contracts: the reader of types' texts: ref.
  Contracts: the reader of types' texts: kind.
  Contracts: types.Read.
  Contracts: the document's reader of types' texts: next, word, number.
  Contracts: the document's reader of types' texts: number.
  Contracts: the document's reader of types' texts: reference, kind.
  Contracts: the document's reader of types' texts: Read.
  Contracts: equal (of what is alike), spoil.
-/
import Derived.Test.YtekpddhibldojaaGreatDoorQJa
import Derived.RecoverIn
import Derived.Laws.StructEq
import Derived.Laws.Concat
import Derived.WideLaws
import Derived.Test.YtekpddhibldojaaGreatDoorProg
import Derived.KernelRfl
import Derived.ArgAppend
section
namespace Go.Sh
open Go.RowKit
class PStep (P : Program) (s : Sem Value) (v : outParam Value) : Prop where
 yields : ∀ w,s.run P w = .ok v w
class PCond (P : Program) (s : Sem Value) (v : outParam Value) (c : outParam Prop) : Prop where
 yields : c→∀ w,s.run P w = .ok v w
section
variable {P : Program} {s : Sem Value} {v : Value} {c : Prop}
theorem s_p {K : Value→Prop} [i : PStep P s v] (k : K v) : opP P s K:=zO i.yields k
theorem s_c {K : Value→Prop} [i : PCond P s v c] (h : c) (k : K v) : opP P s K:=zO (i.yields h) k
theorem PStep.of (h : ∀ K : Value→Prop,K v→opP P s K) : PStep P s v:=⟨by
 obtain ⟨v',h1,rfl⟩:=h (fun x=>x=v) rfl
 exact h1⟩
theorem PCond.of (h : c→∀ K : Value→Prop,K v→opP P s K) : PCond P s v c:=⟨fun hc=>by
 obtain ⟨v',h1,rfl⟩:=h hc (fun x=>x=v) rfl
 exact h1⟩
end
class zy (P : Program) (t : TypeId) (i : Nat) (n : outParam Nat) : Prop where
 h : aeX P t i=some n
class SlT (P : Program) (t : TypeId) (e : outParam TypeId) (n : outParam Nat) : Prop where
 h : slT P t=some (e,n)
class Ld1 (P : Program) (t : TypeId) : Prop where
 h : ld1 P t=true
class LdN (P : Program) (t : TypeId) (n : outParam Nat) : Prop where
 h : ldN P t=some n
class SzT (P : Program) (t : TypeId) (n : outParam Nat) : Prop where
 h : szT P t=some n
class ZrT (P : Program) (t : TypeId) (c : outParam (List Value)) : Prop where
 h : zrT P t=some c
class ApT (P : Program) (t : TypeId) (e : outParam TypeId) (n b : outParam Nat) : Prop where
 h : apT P t=some (e,n,b)
class ArT (P : Program) (t : TypeId) (l : outParam Nat) (e : outParam TypeId) (n : outParam Nat) : Prop where
 h : arT P t=some (l,e,n)
class KdB (P : Program) (t : TypeId) : Prop where
 h : kdB P t=true
section
variable {P : Program} {t ty e : TypeId} {c : Bool} {i j : IntKind} {a b : Int} {n l : Nat}
instance : PStep P (zA .lss t c (.int i a) (.int i b)) (.bool (decide (a<b))):=.of fun _ k=>ah1 k
instance : PStep P (zA .leq t c (.int i a) (.int i b)) (.bool (decide (a≤b))):=.of fun _ k=>ah2 k
instance : PStep P (zA .gtr t c (.int i a) (.int i b)) (.bool (decide (b<a))):=.of fun _ k=>ah3 k
instance : PStep P (zA .geq t c (.int i a) (.int i b)) (.bool (decide (b≤a))):=.of fun _ k=>ah4 k
instance : PStep P (zA .eql t c (.int i a) (.int i b)) (.bool (decide (a=b))):=.of fun _ k=>af5 k
instance : PStep P (zA .neq t c (.int i a) (.int i b)) (.bool (decide (a≠b))):=.of fun _ k=>af6 k
instance {x : Bool} : PStep P (Op.unary .not (.bool x)) (.bool (!x)):=.of fun _ k=>ah5 k
instance : PCond P (zA .add t c (.int .i64 a) (.int .i64 b)) (.int .i64 (a+b)) (-9223372036854775808≤a+b∧a+b<9223372036854775808):=.of fun h _ k=>ahW h k
instance : PCond P (zA .sub t c (.int .i64 a) (.int .i64 b)) (.int .i64 (a - b)) (-9223372036854775808≤a - b∧a - b<9223372036854775808):=.of fun h _ k=>ahX h k
instance : PCond P (zA .mul t c (.int .i64 a) (.int .i64 b)) (.int .i64 (a*b)) (-9223372036854775808≤a*b∧a*b<9223372036854775808):=.of fun h _ k=>ahY h k
instance : PCond P (zA .quo t c (.int .i64 a) (.int .i64 b)) (.int .i64 (a / b)) (0≤a∧a<9223372036854775808∧0<b):=.of fun h _ k=>ahZ h.1 h.2.1 h.2.2 k
instance : PCond P (zA .rem t c (.int .i64 a) (.int .i64 b)) (.int .i64 (a % b)) (0≤a∧0<b):=.of fun h _ k=>ah0 h.1 h.2 k
instance {x y : BitVec 64} : PStep P (zA .or t c (u64 x) (u64 y)) (u64 (x ||| y)):=.of fun _ k=>ahi (by rw [Qs];exact k)
instance {x y : BitVec 64} : PStep P (zA .andNot t c (u64 x) (u64 y)) (u64 (x &&& ~~~ y)):=.of fun _ k=>acZ (by rw [Qs];exact k)
instance (priority:=low) {x : BitVec 64} : PStep P (zA .and t c (u64 x) (.int .u64 a)) (u64 (x &&& BitVec.ofInt 64 a)):=.of fun _ k=>JN k
instance (priority:=low) {x : BitVec 64} : PStep P (zA .sub t c (u64 x) (.int .u64 a)) (u64 (x - BitVec.ofInt 64 a)):=.of fun _ k=>agk k
instance {x : BitVec 64} : PCond P (zA .shr t c (u64 x) (.int i a)) (u64 (x >>> a.toNat)) (0≤a):=.of fun h _ k=>acm h k
instance : PCond P (zA .shl t c (.int .u64 b) (.int i a)) (u64 (BitVec.ofInt 64 b <<< a.toNat)) (0≤a):=.of fun h _ k=>agl h k
instance {f : Fn} {x y : Array Value} : PStep P (Instr.makeFunc f x y) (.func f x y):=.of fun _ k=>ahk k
instance {b off k : Nat} [h : zy P t k n] : PStep P (Instr.fieldAt t (.pointer (some ⟨b,off,none⟩)) k) (.pointer (some ⟨b,off+n,none⟩)):=.of fun _ k=>agm h.h k
instance {p : Option Addr} {len cap : Nat} [h : SlT P t e n] : PStep P (Builtin.len_ #[t] ty #[.slice p len cap]) (.int .i64 len):=.of fun _ k=>ahj h.h k
instance : PStep P (Builtin.min_ #[t,e] ty #[.int .i64 a,.int .i64 b]) (.int .i64 (min a b)):=.of fun _ k=>ah9 k
instance {b off len cap : Nat} [h : SlT P t e 1] : PCond P (Instr.indexAt t (.slice (some ⟨b,off,none⟩) len cap) (.int i a)) (.pointer (some ⟨b,off+a.toNat,none⟩)) (0≤a∧a<len):=
 .of fun x _ k=>acn (e:=e) (n:=1) h.h x.1 x.2 (by rw [Nat.mul_one];exact k)
instance (priority:=low) {b off len cap : Nat} [h : SlT P t e n] : PCond P (Instr.indexAt t (.slice (some ⟨b,off,none⟩) len cap) (.int i a)) (.pointer (some ⟨b,off+a.toNat*n,none⟩)) (0≤a∧a<len):=
 .of fun x _ k=>acn (e:=e) (n:=n) h.h x.1 x.2 k
instance {b off : Nat} [h : ArT P t l e n] : PCond P (Instr.indexAt t (.pointer (some ⟨b,off,none⟩)) (.int i a)) (.pointer (some ⟨b,off+a.toNat*n,none⟩)) (0≤a∧a<l):=
 .of fun x _ k=>aaH h.h x.1 x.2 k
instance {p : Option Addr} {len cap : Nat} [h : SlT P t e n] : PCond P (Instr.sliceAt t (.slice p len cap) none (some (.int i a)) none) (.slice p a.toNat cap) (0≤a∧a≤cap):=
 .of fun x _ k=>adM (e:=e) (n:=n) h.h x.1 x.2 k
instance {p : Option Addr} {len cap : Nat} [h : SlT P t e n] : PCond P (Instr.sliceAt t (.slice p len cap) (some (.int i a)) none none) (.slice (if cap=a.toNat then p else p.map (·.add (a.toNat*n))) (len - a.toNat) (cap - a.toNat)) (0≤a∧a≤len):=
 .of fun x _ k=>Vt (e:=e) (n:=n) h.h x.1 x.2 k
instance {p : Option Addr} {len cap l' c' : Nat} [h : SlT P t e n] : PStep P (zA .eql t c (.slice p len cap) (.slice none l' c')) (.bool p.isNone):=.of fun _ k=>aaG h.h k
instance {p : Option Addr} {len cap l' c' : Nat} [h : SlT P t e n] : PStep P (zA .neq t c (.slice p len cap) (.slice none l' c')) (.bool (!p.isNone)):=.of fun _ k=>adN h.h k
instance {x y : Bool} [h : KdB P t] : PStep P (zA .eql t c (.bool x) (.bool y)) (.bool (x == y)):=.of fun _ k=>ahq h.h k
instance {x y : Bool} [h : KdB P t] : PStep P (zA .neq t c (.bool x) (.bool y)) (.bool (!(x == y))):=.of fun _ k=>ahr h.h k
instance {a b : Value} : PStep P (Instr.extract (.tuple #[a,b]) 0) a:=.of fun _ k=>x20 k
instance {a b : Value} : PStep P (Instr.extract (.tuple #[a,b]) 1) b:=.of fun _ k=>x21 k
instance {a b d : Value} : PStep P (Instr.extract (.tuple #[a,b,d]) 0) a:=.of fun _ k=>x30 k
instance {a b d : Value} : PStep P (Instr.extract (.tuple #[a,b,d]) 1) b:=.of fun _ k=>x31 k
instance {a b d : Value} : PStep P (Instr.extract (.tuple #[a,b,d]) 2) d:=.of fun _ k=>x32 k
instance {a b d x : Value} : PStep P (Instr.extract (.tuple #[a,b,d,x]) 0) a:=.of fun _ k=>x40 k
instance {a b d x : Value} : PStep P (Instr.extract (.tuple #[a,b,d,x]) 1) b:=.of fun _ k=>x41 k
instance {a b d x : Value} : PStep P (Instr.extract (.tuple #[a,b,d,x]) 2) d:=.of fun _ k=>x42 k
instance {a b d x : Value} : PStep P (Instr.extract (.tuple #[a,b,d,x]) 3) x:=.of fun _ k=>x43 k
end
abbrev Gh:=Nat→Obj→Prop
def Gh.or (r s : Gh) : Gh:=fun b o=>r b o∨s b o
def Holds (r : Gh) (w : World) : Prop:=∀ b o,r b o→w.heap[b]? = some o
theorem Holds.lt {r : Gh} {w : World} (h : Holds r w) {b : Nat} {o : Obj} (hb : r b o) : b<w.heap.size:=(Array.getElem?_eq_some_iff.1 (h b o hb)).1
theorem Holds.ext {r : Gh} {w w' : World} (h : Holds r w) (e : Ext w w') : Holds r w':=fun b o hb=>(e.block b (h.lt hb)).trans (h b o hb)
theorem Holds.but {r : Gh} {S : Nat→Prop} {w w' : World} (h : Holds r w) (e : ExtBut S w w') (hS : ∀ b o,r b o→¬ S b) : Holds r w':=fun b o hb=>(e.block b (h.lt hb) (hS b o hb)).trans (h b o hb)
theorem Holds.or {r s : Gh} {w : World} (h : Holds r w) (k : Holds s w) : Holds (r.or s) w:=fun b o hb=>hb.elim (h b o) (k b o)
class Le (r s : Gh) : Prop where
 le : ∀ b o,r b o→s b o
instance {r : Gh} : Le r r:=⟨fun _ _ h=>h⟩
instance (priority:=high) {r s t : Gh} [h : Le r t] [k : Le s t] : Le (r.or s) t:=⟨fun b o x=>x.elim (h.le b o) (k.le b o)⟩
instance {r s t : Gh} [h : Le r s] : Le r (s.or t):=⟨fun b o k=>.inl (h.le b o k)⟩
instance {r s t : Gh} [h : Le r t] : Le r (s.or t):=⟨fun b o k=>.inr (h.le b o k)⟩
theorem Holds.le {r s : Gh} {w : World} [h : Le r s] (k : Holds s w) : Holds r w:=fun b o hb=>k b o (h.le b o hb)
def Ob (r : Gh) (p : World→Prop) : Prop:=∀ w,Holds r w→p w
theorem Ob.up {r s : Gh} {p : World→Prop} (h : Ob r p) [l : Le r s] : Ob s p:=fun w k=>h w (k.le (h:=l))
def all (w : World) : Gh:=fun b o=>w.heap[b]? = some o
theorem adO (w : World) : Holds (all w) w:=fun _ _ h=>h
theorem aaL {w : World} {a : Addr} {v : Value} (h : w.cell? a=some v) : Ob (all w) fun w'=>w'.cell? a=some v:=fun w' k=>by
 have hl:=JO h
 show w'.cell? a=some v
 rw [World.cell?_of_block (w:=w) ((k a.block _ (Array.getElem?_eq_getElem hl)).trans (Array.getElem?_eq_getElem hl).symm)];exact h
def one (b : Nat) (c : List Value) (T : TypeId) : Gh:=fun k o=>k=b∧o = .cells c.toArray T (0,0)
theorem xC {w : World} {b : Nat} {c : List Value} {T : TypeId} (h : Blk w b c T) : Holds (Go.Sh.one b c T) w:=by rintro _ _ ⟨rfl,rfl⟩;exact h
theorem zF {b : Nat} {c : List Value} {T : TypeId} : Ob (Go.Sh.one b c T) fun w=>Blk w b c T:=fun _ h=>h b _ ⟨rfl,rfl⟩
structure New (w : World) (s : Gh) (w' : World) : Prop where
 holds : Holds s w'
 fresh : ∀ b o,s b o→w.heap.size≤b
theorem New.one {w w' : World} {b : Nat} {c : List Value} {T : TypeId} (h : Blk w' b c T) (hb : w.heap.size≤b) : New w (Go.Sh.one b c T) w':=⟨xC h,by rintro _ _ ⟨rfl,_⟩;exact hb⟩
def Dis (r s : Gh) : Prop:=∀ b o o',r b o→¬ s b o'
def Above (w : World) (s : Gh) : Prop:=∀ b o,s b o→w.heap.size≤b
def nothing : Gh:=fun _ _=>False
theorem New.nothing {w w' : World} : New w nothing w':=⟨fun _ _ h=>h.elim,fun _ _ h=>h.elim⟩
instance {r : Gh} : Le nothing r:=⟨fun _ _ h=>h.elim⟩
inductive Asr where
 |cell (b : Nat) (c : List Value) (T : TypeId)
 |row (v : Value) (e : TypeId) (sz n : Nat) (xs : List Value)
 |que (v : Value) (e : TypeId) (sz n : Nat) (xs : List Value)
 |obj (g : Nat) (Q : Obj→Prop)
def Que (w : World) (e : TypeId) (sz : Nat) (v : Value) (n : Nat) (xs : List Value) : Prop:=
 xs.length=n*sz∧((v = .slice none 0 0∧n=0)∨
  ∃ g off cap c,v = .slice (some ⟨g,off,none⟩) n cap∧Blk w g c e∧n≤cap∧cap≤maxLen∧off+cap*sz≤c.length∧(c.drop off).take (n*sz)=xs)
def Asr.has (base : Nat) : Asr→World→Prop
 |.cell b c T,w=>Blk w b c T
 |.row v e sz n xs,w=>w.ownsRow base e sz v n xs
 |.que v e sz n xs,w=>Que w e sz v n xs
 |.obj g Q,w=>∃ o,w.heap[g]? = some o∧Obj.isBook o=false∧Q o
def Asr.dom : Asr→Nat→Prop
 |.cell b _ _,k=>k=b
 |.row v _ _ _ _,k=>v.ownBlock=some k
 |.que v _ _ _ _,k=>v.ownBlock=some k
 |.obj g _,k=>k=g
theorem YT {w : World} {e : TypeId} {size : Nat} {v : Value} {n : Nat} {xs : List Value} (h : Que w e size v n xs) :
  v.ownBlock=none∨∃ g c,v.ownBlock=some g∧Blk w g c e:=by
 rcases h.2 with ⟨rfl,_⟩|⟨g,off,cap,c,rfl,B,_⟩
 ·exact .inl rfl
 ·exact .inr ⟨g,c,rfl,B⟩
theorem aaM {w w' : World} {e : TypeId} {size : Nat} {v : Value} {n : Nat} {xs : List Value} (h : Que w e size v n xs)
  (hk : ∀ g,v.ownBlock=some g→w'.heap[g]? = w.heap[g]?) : Que w' e size v n xs:=by
 rcases h with ⟨hl,h|⟨g,off,cap,c,rfl,B,hr⟩⟩
 ·exact ⟨hl,.inl h⟩
 ·exact ⟨hl,.inr ⟨g,off,cap,c,rfl,(hk g rfl).trans B,hr⟩⟩
theorem jz {w : World} {base : Nat} {e : TypeId} {size : Nat} {v : Value} {n : Nat} {xs : List Value} (h : w.ownsRow base e size v n xs) :
  v.ownBlock=none∨∃ g cap c,v.ownBlock=some g∧v = .slice (some ⟨g,0,none⟩) n cap∧Blk w g c e∧base≤g:=by
 rcases xW h with ⟨rfl,_,_⟩|⟨g,cap,c,rfl,hb,B,_⟩
 ·exact .inl rfl
 ·exact .inr ⟨g,cap,c,rfl,rfl,B,hb⟩
theorem aaN {w w' : World} {base : Nat} {e : TypeId} {size : Nat} {v : Value} {n : Nat} {xs : List Value} (h : w.ownsRow base e size v n xs)
  (hk : ∀ g,v.ownBlock=some g→w'.heap[g]? = w.heap[g]?) : w'.ownsRow base e size v n xs:=by
 rcases h with ⟨hl,h|⟨g,cap,cur,rfl,hb,hg,hr⟩⟩
 ·exact ⟨hl,.inl h⟩
 ·exact ⟨hl,.inr ⟨g,cap,cur,rfl,hb,(hk g rfl).trans hg,hr⟩⟩
theorem Asr.lt {base : Nat} {x : Asr} {w : World} (h : x.has base w) {k : Nat} (hk : x.dom k) : k<w.heap.size:=by
 cases x with
 |cell b c T=>cases hk;exact Blk.lt h
 |row v e sz n xs=>
  rcases jz h with h0|⟨g,cap,c,h1,h2,B,_⟩
  ·rw [Asr.dom,h0] at hk;cases hk
  ·rw [Asr.dom,h1] at hk;cases hk;exact B.lt
 |que v e sz n xs=>
  rcases YT h with h0|⟨g,c,h1,B⟩
  ·rw [Asr.dom,h0] at hk;cases hk
  ·rw [Asr.dom,h1] at hk;cases hk;exact B.lt
 |obj g Q=>cases hk;obtain ⟨o,ho,_⟩:=h;exact (Array.getElem?_eq_some_iff.1 ho).1
theorem Asr.keep {base : Nat} {x : Asr} {w w' : World} (h : x.has base w) (hk : ∀ k,x.dom k→w'.heap[k]? = w.heap[k]?) : x.has base w':=by
 cases x with
 |cell b c T=>exact (hk b rfl).trans h
 |row v e sz n xs=>exact aaN h hk
 |que v e sz n xs=>exact aaM h hk
 |obj g Q=>obtain ⟨o,h1,h2⟩:=h;exact ⟨o,(hk g rfl).trans h1,h2⟩
structure StX (X : Nat→Prop) (w0 : World) (r : Gh) (w : World) (L : List Asr) : Prop where
 x : ExtBut X w0 w
 holds : Holds r w
 has : ∀ x ∈ L,x.has 0 w
 mine : ∀ x ∈ L,∀ k,x.dom k→(w0.heap.size≤k∨X k)∧∀ o,¬ r k o
 apart : L.Pairwise fun x y=>∀ k,x.dom k→¬ y.dom k
abbrev noX : Nat→Prop:=fun _=>False
abbrev St:=StX noX
theorem ExtBut.ext {w w' : World} (h : ExtBut noX w w') : Ext w w':=⟨h.os,h.tape,h.output,h.size,fun k hk=>h.block k hk (fun hf=>hf)⟩
theorem ExtBut.but {X Y : Nat→Prop} {w0 w w' : World} (h : ExtBut X w0 w) (e : ExtBut Y w w') (hY : ∀ k,Y k→w0.heap.size≤k∨X k) : ExtBut X w0 w':=
 ⟨e.os.trans h.os,e.tape.trans h.tape,e.output.trans h.output,Nat.le_trans h.size e.size,fun k hk hx=>
  (e.block k (Nat.lt_of_lt_of_le hk h.size) (fun hy=>(hY k hy).elim (fun h=>by omega) hx)).trans (h.block k hk hx)⟩
section
variable {X : Nat→Prop} {w0 w w' : World} {r s : Gh} {L : List Asr}
theorem StX.ext (S : StX noX w0 r w L) : Ext w0 w:=S.x.ext
theorem St.start (h : Holds r w) : St w r w []:=⟨.refl _ _,h,by simp,by simp,.nil⟩
theorem StX.at (S : StX X w0 r w L) {q : Gh} {p : World→Prop} (h : Ob q p) [l : Le q r] : p w:=h w (S.holds.le (h:=l))
theorem StX.go (S : StX X w0 r w L) (e : Ext w w') : StX X w0 r w' L:=
 ⟨S.x.trans (.of_ext e),S.holds.ext e,fun x hx=>Asr.keep (S.has x hx) fun k hk=>e.block k (Asr.lt (S.has x hx) hk),S.mine,S.apart⟩
theorem StX.new (S : StX X w0 r w L) (e : Ext w w') (n : New w s w') : StX X w0 (r.or s) w' L:=
 { S.go e with
  holds:=(S.holds.ext e).or n.holds
  mine:=fun x hx k hk=>⟨(S.mine x hx k hk).1,fun o ho=>ho.elim ((S.mine x hx k hk).2 o) fun h=>by
   have:=n.fresh k o h;have:=Asr.lt (S.has x hx) hk;omega⟩ }
theorem StX.tell (S : StX X w0 r w L) (e : Ext w w') (n : New w s w') : StX X w0 (r.or s) w' L∧Dis s r∧Above w0 s:=
 ⟨S.new e n,fun b o o' h h'=>by have:=n.fresh b o h;have:=S.holds.lt h';omega,fun b o h=>by have:=n.fresh b o h;have:=S.x.size;omega⟩
theorem StX.nlX (S : StX X w0 r w L) {n : Nat} (hn : w0.heap.size≤n) (hr : ∀ b o,r b o→b<n∨Obj.isBook o=false) (e : Nl n w w') : StX X w0 r w' L:=by
 refine ⟨⟨e.os.trans S.x.os,e.tape.trans S.x.tape,e.output.trans S.x.output,Nat.le_trans S.x.size e.size,fun k hk hx=>?_⟩,fun b o hb=>e.block b o (S.holds b o hb) (hr b o hb),fun x hx=>?_,S.mine,S.apart⟩
 ·have h1:=S.x.block k hk hx
  have hkw : k<w.heap.size:=Nat.lt_of_lt_of_le hk S.x.size
  rw [← h1,Array.getElem?_eq_getElem hkw]
  exact e.block k _ (Array.getElem?_eq_getElem hkw) (.inl (by omega))
 have hx':=S.has x hx
 cases x with
 |cell b c T=>exact Blk.nl hx' e
 |row v e' sz k xs=>
  refine aaN hx' fun g hg=>?_
  rcases jz hx' with h0|⟨g',cap,c,h1,h2,B,_⟩
  ·rw [h0] at hg;cases hg
  ·rw [h1] at hg;cases hg;exact (B.nl e).trans B.symm
 |que v e' sz k xs=>
  refine aaM hx' fun g hg=>?_
  rcases YT hx' with h0|⟨g',c,h1,B⟩
  ·rw [h0] at hg;cases hg
  ·rw [h1] at hg;cases hg;exact (B.nl e).trans B.symm
 |obj g Q=>obtain ⟨o,h1,h2,h3⟩:=hx';exact ⟨o,e.block g o h1 (.inr h2),h2,h3⟩
theorem StX.less (S : StX X w0 r w L) {q : Gh} {M : List Asr} (hq : ∀ b o,q b o→r b o) (hM : M.Sublist L) : StX X w0 q w M:=
 ⟨S.x,fun b o h=>S.holds b o (hq b o h),fun x hx=>S.has x (hM.subset hx),fun x hx k hk=>⟨(S.mine x (hM.subset hx) k hk).1,fun o ho=>(S.mine x (hM.subset hx) k hk).2 o (hq k o ho)⟩,S.apart.sublist hM⟩
theorem StX.add (S : StX X w0 r w L) (e : Ext w w') {b : Nat} {c : List Value} {T : TypeId} (hb : w.heap.size≤b) (B : Blk w' b c T) : StX X w0 r w' (.cell b c T::L):=by
 have S':=S.go e
 refine ⟨S'.x,S'.holds,?_,?_,.cons ?_ S'.apart⟩
 ·intro x hx;rcases List.mem_cons.1 hx with rfl|hx
  ·exact B
  ·exact S'.has x hx
 ·intro x hx;rcases List.mem_cons.1 hx with rfl|hx
  ·rintro k rfl
   exact ⟨.inl (by have:=S.x.size;omega),fun o ho=>by have:=S.holds.lt ho;omega⟩
  ·exact S'.mine x hx
 ·rintro y hy k rfl hk
  have:=Asr.lt (S.has y hy) hk;omega
theorem StX.turn {p q : List Asr} {x y : Asr} (S : StX X w0 r w (p++x::q)) (e : ExtBut x.dom w w') (hy : y.has 0 w') (hd : ∀ k,y.dom k→x.dom k∨w.heap.size≤k) : StX X w0 r w' (p++y::q):=by
 have hx:=S.has x (by simp)
 have hap:=List.pairwise_append.1 S.apart
 have hap2:=List.pairwise_cons.1 hap.2.1
 have hmx : ∀ k,y.dom k→(w0.heap.size≤k∨X k)∧∀ o,¬ r k o:=fun k hk=>by
  rcases hd k hk with h|h
  ·exact S.mine x (by simp) k h
  ·exact ⟨.inl (by have:=S.x.size;omega),fun o ho=>by have:=S.holds.lt ho;omega⟩
 have hother : ∀ z,z ∈ p∨z ∈ q→∀ k,z.dom k→¬ x.dom k:=by
  rintro z (hz|hz) k hk hx
  ·exact hap.2.2 z hz x (by simp) k hk hx
  ·exact hap2.1 z hz k hx hk
 have hmem : ∀ z,z ∈ p++y::q→z=y∨((z ∈ p∨z ∈ q)∧z ∈ p++x::q):=by
  intro z hz
  simp only [List.mem_append,List.mem_cons] at hz ⊢
  rcases hz with h|rfl|h
  ·exact .inr ⟨.inl h,.inl h⟩
  ·exact .inl rfl
  ·exact .inr ⟨.inr h,.inr (.inr h)⟩
 have hyo : ∀ z,z ∈ p∨z ∈ q→z ∈ p++x::q→∀ k,z.dom k→¬ y.dom k:=fun z hz hm k hk hy=>by
  rcases hd k hy with h|h
  ·exact hother z hz k hk h
  ·have:=Asr.lt (S.has z hm) hk;omega
 refine ⟨S.x.but e fun k hk=>(S.mine x (by simp) k hk).1,S.holds.but e fun b o hb hk=>(S.mine x (by simp) b hk).2 o hb,?_,?_,?_⟩
 ·intro z hz
  rcases hmem z hz with rfl|⟨h,hm⟩
  ·exact hy
  ·exact Asr.keep (S.has z hm) fun k hk=>e.block k (Asr.lt (S.has z hm) hk) (hother z h k hk)
 ·intro z hz
  rcases hmem z hz with rfl|⟨h,hm⟩
  ·exact hmx
  ·exact S.mine z hm
 ·refine List.pairwise_append.2 ⟨hap.1,.cons (fun z hz k hk hk2=>hyo z (.inr hz) (by simp [hz]) k hk2 hk) hap2.2,fun z hz u hu k hk=>?_⟩
  rcases List.mem_cons.1 hu with rfl|hu
  ·exact hyo z (.inl hz) (by simp [hz]) k hk
  ·exact hap.2.2 z hz u (by simp [hu]) k hk
def y9 : List Asr→Nat→Prop
 |[],_=>False
 |x::L,k=>x.dom k∨y9 L k
theorem yT : ∀ {L : List Asr} {k : Nat},y9 L k↔∃ x ∈ L,x.dom k
 |[],k=>by simp [y9]
 |x::L,k=>by simp [y9,yT (L:=L)]
theorem StX.part (S : StX X w0 r w L) : StX (y9 L) w r w L:=
 ⟨.refl _ _,S.holds,S.has,fun x hx k hk=>⟨.inr (yT.2 ⟨x,hx,hk⟩),(S.mine x hx k hk).2⟩,S.apart⟩
theorem StX.whole {Y : Nat→Prop} {q : Gh} {M : List Asr} (S : StX X w0 r w L) (R : StX Y w q w' M) (hY : ∀ k,Y k→y9 L k) : StX X w0 q w' M:=
 have hy : ∀ k,Y k→w0.heap.size≤k∨X k:=fun k hk=>by obtain ⟨x,hx,hd⟩:=yT.1 (hY k hk);exact (S.mine x hx k hd).1
 ⟨S.x.but R.x hy,R.holds,R.has,fun x hx k hk=>⟨(R.mine x hx k hk).1.elim (fun h=>.inl (Nat.le_trans S.x.size h)) (hy k),(R.mine x hx k hk).2⟩,R.apart⟩
theorem Qv (S : StX X w0 r w L) : ∀ b,y9 L b→∃ o,w.heap[b]? = some o∧Obj.isBook o=false:=fun b hb=>by
 obtain ⟨x,hx,hd⟩:=yT.1 hb
 have h:=S.has x hx
 cases x with
 |cell b' c T=>cases hd;exact ⟨_,h,rfl⟩
 |row v e sz n xs=>
  rcases jz h with h0|⟨g,cap,c,h1,h2,B,_⟩
  ·rw [Asr.dom,h0] at hd;cases hd
  ·rw [Asr.dom,h1] at hd;cases hd;exact ⟨_,B,rfl⟩
 |que v e sz n xs=>
  rcases YT h with h0|⟨g,c,h1,B⟩
  ·rw [Asr.dom,h0] at hd;cases hd
  ·rw [Asr.dom,h1] at hd;cases hd;exact ⟨_,B,rfl⟩
 |obj g Q=>cases hd;obtain ⟨o,h1,h2,_⟩:=h;exact ⟨o,h1,h2⟩
end
class At (b : Nat) (L : List Asr) (c : outParam (List Value)) (T : outParam TypeId) (f : outParam (List Value→List Asr)) : Prop where
 h : ∃ p q,L=p ++ .cell b c T::q∧∀ c',f c'=p ++ .cell b c' T::q
instance {b : Nat} {c : List Value} {T : TypeId} {L : List Asr} : At b (.cell b c T::L) c T fun c'=>.cell b c' T::L:=⟨[],L,rfl,fun _=>rfl⟩
instance (priority:=low) {b : Nat} {c : List Value} {T : TypeId} {x : Asr} {L : List Asr} {f : List Value→List Asr} [h : At b L c T f] : At b (x::L) c T fun c'=>x::f c':=⟨by
 obtain ⟨p,q,h1,h2⟩:=h.h
 exact ⟨x::p,q,by rw [h1];rfl,fun c'=>by rw [h2];rfl⟩⟩
class kc (v : Value) (L : List Asr) (e : outParam TypeId) (sz n : outParam Nat) (xs : outParam (List Value)) (f : outParam (Asr→List Asr)) : Prop where
 h : ∃ p q,L=p ++ .row v e sz n xs::q∧∀ y,f y=p++y::q
instance {v : Value} {e : TypeId} {sz n : Nat} {xs : List Value} {L : List Asr} : kc v (.row v e sz n xs::L) e sz n xs fun y=>y::L:=⟨[],L,rfl,fun _=>rfl⟩
instance (priority:=low) {v : Value} {e : TypeId} {sz n : Nat} {xs : List Value} {x : Asr} {L : List Asr} {f : Asr→List Asr} [h : kc v L e sz n xs f] : kc v (x::L) e sz n xs fun y=>x::f y:=⟨by
 obtain ⟨p,q,h1,h2⟩:=h.h
 exact ⟨x::p,q,by rw [h1];rfl,fun c'=>by rw [h2];rfl⟩⟩
section
variable {P : Program} {X : Nat→Prop} {w0 w : World} {r : Gh} {L : List Asr} {t T : TypeId} {b i n : Nat} {c : List Value} {v : Value} {f : List Value→List Asr}
theorem StX.blk (S : StX X w0 r w L) (b : Nat) [h : At b L c T f] : Blk w b c T:=by
 obtain ⟨p,q,h1,_⟩:=h.h
 exact S.has (.cell b c T) (by rw [h1];simp)
theorem StX.ld (S : StX X w0 r w L) [h : At b L c T f] [k : Ld1 P t] {K : Value→Prop} (hk : K v) (hc : c[i]? = some v:=by rfl) : opQ P w (Instr.loadAt t (.pointer (some ⟨b,i,none⟩))) K:=
 aaD k.h (((S.blk b (h:=h)).cell i).trans hc) hk
theorem StX.ldB (S : StX X w0 r w L) [h : At b L c T f] [k : LdN P t n] {K : Value→Prop} (hk : K (.agg c.toArray)) (hc : c.length=n:=by rfl) : opQ P w (Instr.loadAt t (.pointer (some ⟨b,0,none⟩))) K:=
 acp (by rw [hc];exact k.h) (S.blk b (h:=h)) hk
theorem StX.ldN (S : StX X w0 r w L) [h : At b L c T f] [k : LdN P t n] {K : Value→Prop} {vs : List Value} (hk : K (.agg vs.toArray)) (hv : (c.drop i).take n=vs:=by rfl) (hl : vs.length=n:=by rfl) : opQ P w (Instr.loadAt t (.pointer (some ⟨b,i,none⟩))) K:=
 JP (by rw [hl];exact k.h) (fun j u hu=>by
  rw [(S.blk b (h:=h)).cell]
  rw [← hv,List.getElem?_take] at hu
  split at hu
  ·rw [← List.getElem?_drop];exact hu
  ·cases hu) hk
theorem StX.ce (S : StX X w0 r w L) [h : At b L [v] T f] [k : Ld1 P t] {K : Value→Prop} (hk : K v) : opQ P w (zf t (.pointer (some ⟨b,0,none⟩))) K:=
 ags k.h (by rw [(S.blk b (h:=h)).cell];rfl) hk
theorem StX.ceB (S : StX X w0 r w L) [h : At b L c T f] [k : LdN P t n] {K : Value→Prop} (hk : K (.agg c.toArray)) (hc : c.length=n:=by rfl) : opQ P w (zf t (.pointer (some ⟨b,0,none⟩))) K:=
 agr (by rw [hc];exact k.h) (S.blk b (h:=h)) hk
theorem StX.alM (S : StX X w0 r w L) [z : ZrT P t c] {K : Value→World→Prop} (h : ∀ b w',b=w.heap.size→NC w w'→StX X w0 r w' (.cell b c t::L)→K (.pointer (some ⟨b,0,none⟩)) w') : opW P w (Instr.alloc t true (.tuple #[])) K:=
 acq z.h fun b w' hb e _ B=>h b w' hb (NC.of_ext e) (S.add e (by omega) B)
theorem StX.al (S : StX X w0 r w L) [z : ZrT P t c] {K : Value→World→Prop} (h : ∀ b w',StX X w0 r w' (.cell b c t::L)→K (.pointer (some ⟨b,0,none⟩)) w') : opW P w (Instr.alloc t true (.tuple #[])) K:=
 S.alM fun b w' _ _=>h b w'
theorem StX.boxM (S : StX X w0 r w L) {K : Value→World→Prop} (h : ∀ b w',b=w.heap.size→NC w w'→StX X w0 r w' (.cell b v.cells.toList t::L)→K (.pointer (some ⟨b,0,none⟩)) w') : opW P w (Instr.box t v) K:=
 ah6 fun b w' hb e _ B=>h b w' hb (NC.of_ext e) (S.add e (by omega) B)
theorem StX.box (S : StX X w0 r w L) {K : Value→World→Prop} (h : ∀ b w',StX X w0 r w' (.cell b v.cells.toList t::L)→K (.pointer (some ⟨b,0,none⟩)) w') : opW P w (Instr.box t v) K:=
 S.boxM fun b w' _ _=>h b w'
theorem StX.turnC (S : StX X w0 r w L) [h : At b L c T f] {w' : World} {c' : List Value} (e : ExtBut (· = b) w w') (B : Blk w' b c' T) : StX X w0 r w' (f c'):=by
 obtain ⟨p,q,h1,h2⟩:=h.h
 rw [h2]
 rw [h1] at S
 exact S.turn (x:=.cell b c T) (y:=.cell b c' T) e B fun k hk=>.inl hk
theorem StX.stM (S : StX X w0 r w L) [h : At b L c T f] [z : SzT P t 1] {K : World→Prop} (k : ∀ w',NC w w'→StX X w0 r w' (f (c.set i v))→K w') (hl : i<c.length:=by simp) (h1 : v.oneCell'=true:=by rfl) : opU P w (Instr.storeAt t (.pointer (some ⟨b,i,none⟩)) v) K:=
 ae5 z.h (S.blk b (h:=h)) hl h1 fun w' x _ B=>k w' (NC.of_b (S.blk b (h:=h)) x) (S.turnC (h:=h) x B)
theorem StX.st (S : StX X w0 r w L) [h : At b L c T f] [z : SzT P t 1] {K : World→Prop} (k : ∀ w',StX X w0 r w' (f (c.set i v))→K w') (hl : i<c.length:=by simp) (h1 : v.oneCell'=true:=by rfl) : opU P w (Instr.storeAt t (.pointer (some ⟨b,i,none⟩)) v) K:=
 S.stM (h:=h) (fun w' _=>k w') hl h1
theorem StX.stBM (S : StX X w0 r w L) [h : At b L c T f] [z : SzT P t n] {cs : Array Value} {K : World→Prop} (k : ∀ w',NC w w'→StX X w0 r w' (f cs.toList)→K w') (hl : c.length=n:=by rfl) (hc : cs.size=n:=by rfl) (h1 : ∀ u ∈ cs.toList,u.oneCell'=true:=by simp [Value.oneCell']) : opU P w (Instr.storeAt t (.pointer (some ⟨b,0,none⟩)) (.agg cs)) K:=
 ae4 (v:=.agg cs) (by rw [show (Value.agg cs).cells.size=n from hc];exact z.h) (S.blk b (h:=h)) (by rw [hl];exact hc) h1 fun w' x _ B=>k w' (NC.of_b (S.blk b (h:=h)) x) (S.turnC (h:=h) x B)
theorem StX.stB (S : StX X w0 r w L) [h : At b L c T f] [z : SzT P t n] {cs : Array Value} {K : World→Prop} (k : ∀ w',StX X w0 r w' (f cs.toList)→K w') (hl : c.length=n:=by rfl) (hc : cs.size=n:=by rfl) (h1 : ∀ u ∈ cs.toList,u.oneCell'=true:=by simp [Value.oneCell']) : opU P w (Instr.storeAt t (.pointer (some ⟨b,0,none⟩)) (.agg cs)) K:=
 S.stBM (h:=h) (fun w' _=>k w') hl hc h1
theorem StX.stN (S : StX X w0 r w L) [h : At b L c T f] [z : SzT P t n] {cs : Array Value} {K : World→Prop} (k : ∀ w',StX X w0 r w' (f (c.take i++cs.toList++c.drop (i+n)))→K w') (hl : i+n≤c.length:=by simp) (hc : cs.size=n:=by rfl) (h1 : ∀ u ∈ cs.toList,u.oneCell'=true:=by simp [Value.oneCell']) : opU P w (Instr.storeAt t (.pointer (some ⟨b,i,none⟩)) (.agg cs)) K:=
 JQ (v:=.agg cs) (by rw [show (Value.agg cs).cells.size=n from hc];exact z.h) (S.blk b (h:=h)) (by rw [show (Value.agg cs).cells.size=n from hc];exact hl) h1 fun w' x _ B=>k w' (S.turnC (h:=h) x (by rw [show (Value.agg cs).cells.size=n from hc] at B;exact B))
theorem StX.lit (S : StX X w0 r w L) {e : TypeId} {len : Nat} {parts : Array (Nat × Value)} {cs : List Value} {K : Value→World→Prop} (hT : JR P t len parts=some (e,cs))
  (h : ∀ b w',StX X w0 r w' (.cell b cs e::L)→K (.slice (some ⟨b,0,none⟩) len len) w') : opW P w (Instr.buildSlice t len parts) K:=
 ac5 hT fun b w' hb e' _ B=>h b w' (S.add e' (by omega) B)
theorem StX.ownNil (S : StX X w0 r w L) (e : TypeId) (sz : Nat) : StX X w0 r w (.row (.slice none 0 0) e sz 0 []::L):=by
 refine ⟨S.x,S.holds,?_,?_,.cons (fun y _ k hk=>by cases hk) S.apart⟩
 ·intro x hx;rcases List.mem_cons.1 hx with rfl|hx
  ·exact World.ownsRow_nil _ _ _ _
  ·exact S.has x hx
 ·intro x hx;rcases List.mem_cons.1 hx with rfl|hx
  ·intro k hk;cases hk
  ·exact S.mine x hx
theorem StX.apM (S : StX X w0 r w L) {e ty : TypeId} {sz by' m m' cap : Nat} {xs news : List Value} {p : Option Addr} {g : Asr→List Asr} [h : kc v L e sz m xs g] [z : ApT P t e sz by'] {K : Value→World→Prop}
  (hs : Sl w p news) (k : ∀ v' w',NC w w'→(v' = .slice none 0 0↔v = .slice none 0 0∧m'=0)→StX X w0 r w' (g (.row v' e sz (m+m') (xs++news)))→K v' w')
  (hb : (m+m')*by'≤140737488355328) (hl : news.length=m'*sz:=by simp) (hp : p=none→cap=0:=by simp) (h1 : ∀ u ∈ news,u.oneCell'=true:=by simp [Value.oneCell']) : opW P w (Builtin.append_ #[t,t] ty #[v,.slice p m' cap]) K:=by
 obtain ⟨pp,qq,h2,h3⟩:=h.h
 have hr:=S.has (.row v e sz m xs) (by rw [h2];simp)
 refine aaE z.h hr hs hl hp h1 hb (Nat.zero_le _) fun v' w' h4 h5 h6 h7=>k v' w' ?_ h7 ?_
 ·refine NC.of_but h5 fun b hb=>?_
  rcases jz hr with h0|⟨g',cap',c',h8,h9,B,_⟩
  ·rw [h0] at hb;cases hb
  ·rw [h8] at hb;cases hb;exact ⟨_,_,B⟩
 ·rw [h3]
  rw [h2] at S
  refine S.turn (x:=.row v e sz m xs) (y:=.row v' e sz (m+m') (xs++news)) h5 h4 fun j hj=>?_
  rw [Asr.dom] at hj
  rcases h6 with h6|h6
  ·rw [h6] at hj;exact .inl hj
  ·rw [h6] at hj;cases hj;exact .inr (Nat.le_refl _)
theorem StX.ap (S : StX X w0 r w L) {e ty : TypeId} {sz by' m m' cap : Nat} {xs news : List Value} {p : Option Addr} {g : Asr→List Asr} [h : kc v L e sz m xs g] [z : ApT P t e sz by'] {K : Value→World→Prop}
  (hs : Sl w p news) (k : ∀ v' w',StX X w0 r w' (g (.row v' e sz (m+m') (xs++news)))→K v' w')
  (hb : (m+m')*by'≤140737488355328) (hl : news.length=m'*sz:=by simp) (hp : p=none→cap=0:=by simp) (h1 : ∀ u ∈ news,u.oneCell'=true:=by simp [Value.oneCell']) : opW P w (Builtin.append_ #[t,t] ty #[v,.slice p m' cap]) K:=
 S.apM (h:=h) hs (fun v' w' _ _=>k v' w') hb hl hp h1
theorem StX.rowSl (S : StX X w0 r w L) {e : TypeId} {sz m : Nat} {xs : List Value} {g : Asr→List Asr} (v : Value) [h : kc v L e sz m xs g] : w.ownsRow 0 e sz v m xs:=by
 obtain ⟨pp,qq,h2,h3⟩:=h.h
 exact S.has (.row v e sz m xs) (by rw [h2];simp)
end
end Go.Sh
end
section
namespace Go.Sh
open Go.RowKit
class xP (r : Gh) : Prop where
 h : ∀ b o,r b o→Obj.isBook o=false
instance {r s : Gh} [h : xP r] [k : xP s] : xP (r.or s):=⟨fun b o x=>x.elim (h.h b o) (k.h b o)⟩
instance {b : Nat} {c : List Value} {T : TypeId} : xP (Go.Sh.one b c T):=⟨fun _ _ h=>by rw [h.2];rfl⟩
instance : xP nothing:=⟨fun _ _ h=>h.elim⟩
theorem c_t {c : Bool} {A B : Prop} (h : c=true) (a : A) : zc (.bool c) A B:=by subst h;exact a
theorem c_f {c : Bool} {A B : Prop} (h : c=false) (b : B) : zc (.bool c) A B:=by subst h;exact b
section
variable {P : Program} {X : Nat→Prop} {w0 w : World} {r : Gh} {L : List Asr}
theorem StX.rowCell (S : StX X w0 r w L) {e : TypeId} {sz m : Nat} {xs : List Value} {g : Asr→List Asr} (v : Value) [h : kc v L e sz m xs g] (hm : m≠0) :
  ∃ b cap c,v = .slice (some ⟨b,0,none⟩) m cap∧m≤cap∧c.length=cap*sz∧c.take (m*sz)=xs∧StX X w0 r w (g (.cell b c e)):=by
 obtain ⟨pp,qq,h2,h3⟩:=h.h
 have hr:=S.has (.row v e sz m xs) (by rw [h2];simp)
 rcases xW hr with ⟨_,h0,_⟩|⟨b,cap,c,rfl,hb,B,hn,_,hc,ht⟩
 ·exact absurd h0 hm
 ·refine ⟨b,cap,c,rfl,hn,hc,ht,?_⟩
  rw [h3]
  rw [h2] at S
  exact S.turn (x:=.row _ e sz m xs) (y:=.cell b c e) (ExtBut.refl _ _) B fun k hk=>.inl (by cases hk;rfl)
theorem StX.swap {x y : Asr} (S : StX X w0 r w (x::y::L)) : StX X w0 r w (y::x::L):=by
 have hp : (y::x::L).Perm (x::y::L):=.swap x y L
 have ha:=S.apart
 refine ⟨S.x,S.holds,fun z hz=>S.has z (hp.subset hz),fun z hz=>S.mine z (hp.subset hz),?_⟩
 rw [List.pairwise_cons,List.pairwise_cons] at ha
 refine .cons (fun z hz k hk hk2=>?_) (.cons (fun z hz=>ha.1 z (List.mem_cons_of_mem _ hz)) ha.2.2)
 rcases List.mem_cons.1 hz with rfl|hz
 ·exact ha.1 y List.mem_cons_self k hk2 hk
 ·exact ha.2.1 z hz k hk hk2
theorem StX.tl {x : Asr} (S : StX X w0 r w (x::L)) : StX X w0 r w L:=S.less (fun _ _ h=>h) (List.sublist_cons_self _ _)
theorem StX.to (S : StX X w0 r w L) (q : Gh) [l : Le q r] : StX X w0 q w L:=S.less l.le (List.Sublist.refl _)
theorem StX.alU (S : StX X w0 r w L) {t : TypeId} {c : List Value} [z : ZrT P t c] {K : Value→World→Prop} (h : ∀ b w',StX X w0 r w' (.cell b c t::L)→K (.pointer (some ⟨b,0,none⟩)) w') :
  opW P w (Instr.alloc t true (.tuple #[])) fun t' w'=>Ext w w'∧K t' w':=
 acq z.h fun b w' hb e _ B=>⟨e,h b w' (S.add e (by omega) B)⟩
theorem ahs {w w' : World} {e : TypeId} {sz n : Nat} {v : Value} {xs : List Value} (h : w'.ownsRow w.heap.size e sz v n xs) :
  ∃ s p cap,New w s w'∧xP s∧v = .slice p n cap∧(p=none→cap=0)∧n≤cap∧(Ob s fun w=>Sl w p xs):=by
 rcases xW h with ⟨rfl,rfl,rfl⟩|⟨g,cap,c,rfl,hg,B,h1,_,h3,h4⟩
 ·exact ⟨nothing,none,0,New.nothing,inferInstance,rfl,fun _=>rfl,Nat.le_refl _,fun w _=>Sl.nil w _⟩
 ·refine ⟨one g c e,_,cap,New.one B hg,inferInstance,rfl,by simp,h1,fun w k=>?_⟩
  rw [← h4];exact (Sl.blk (zF w k)).take _
section
variable {t T : TypeId} {b i n : Nat} {c : List Value} {v : Value} {f : List Value→List Asr}
theorem StX.alN (S : StX X w0 r w L) [z : ZrT P t c] {K : Value→World→Prop} (h : ∀ b w',b=w.heap.size→StX X w0 r w' (.cell b c t::L)→K (.pointer (some ⟨b,0,none⟩)) w') :
  opW P w (Instr.alloc t true (.tuple #[])) fun t' w'=>NC w w'∧K t' w':=S.alM fun b w' hb nc S=>⟨nc,h b w' hb S⟩
theorem StX.boxN (S : StX X w0 r w L) {K : Value→World→Prop} (h : ∀ b w',b=w.heap.size→StX X w0 r w' (.cell b v.cells.toList t::L)→K (.pointer (some ⟨b,0,none⟩)) w') :
  opW P w (Instr.box t v) fun t' w'=>NC w w'∧K t' w':=S.boxM fun b w' hb nc S=>⟨nc,h b w' hb S⟩
theorem StX.stN' (S : StX X w0 r w L) [h : At b L c T f] [z : SzT P t 1] {K : World→Prop} (k : ∀ w',StX X w0 r w' (f (c.set i v))→K w') (hl : i<c.length:=by simp) (h1 : v.oneCell'=true:=by rfl) :
  opU P w (Instr.storeAt t (.pointer (some ⟨b,i,none⟩)) v) fun w'=>NC w w'∧K w':=S.stM (h:=h) (fun w' nc S=>⟨nc,k w' S⟩) hl h1
theorem StX.stBN (S : StX X w0 r w L) [h : At b L c T f] [z : SzT P t n] {cs : Array Value} {K : World→Prop} (k : ∀ w',StX X w0 r w' (f cs.toList)→K w') (hl : c.length=n:=by rfl) (hc : cs.size=n:=by rfl)
  (h1 : ∀ u ∈ cs.toList,u.oneCell'=true:=by simp [Value.oneCell']) :
  opU P w (Instr.storeAt t (.pointer (some ⟨b,0,none⟩)) (.agg cs)) fun w'=>NC w w'∧K w':=S.stBM (h:=h) (fun w' nc S=>⟨nc,k w' S⟩) hl hc h1
theorem StX.litN (S : StX X w0 r w L) {e : TypeId} {len : Nat} {parts : Array (Nat × Value)} {cs : List Value} {K : Value→World→Prop} (hT : JR P t len parts=some (e,cs))
  (h : ∀ b w',StX X w0 r w' (.cell b cs e::L)→K (.slice (some ⟨b,0,none⟩) len len) w') : opW P w (Instr.buildSlice t len parts) fun t' w'=>NC w w'∧K t' w':=
 ac5 hT fun b w' hb e' _ B=>⟨NC.of_ext e',h b w' (S.add e' (by omega) B)⟩
end
theorem StX.dlt (S : StX X w0 r w L) {b : Nat} (h : y9 L b) : b<w.heap.size:=by
 obtain ⟨x,hx,hd⟩:=yT.1 h;exact Asr.lt (S.has x hx) hd
class Low (n : Nat) (r : Gh) : Prop where
 h : ∀ b o,r b o→b<n∨Obj.isBook o=false
instance {n : Nat} {r s : Gh} [h : Low n r] [k : Low n s] : Low n (r.or s):=⟨fun b o x=>x.elim (h.h b o) (k.h b o)⟩
instance (priority:=low) {n : Nat} {r : Gh} [h : xP r] : Low n r:=⟨fun b o x=>.inr (h.h b o x)⟩
theorem StX.low (S : StX X w0 r w L) : Low w.heap.size r:=⟨fun _ _ x=>.inl (S.holds.lt x)⟩
theorem StX.nl (S : StX X w0 r w L) {n : Nat} {w' : World} (e : Nl n w w') (hn : w0.heap.size≤n) [l : Low n r] : StX X w0 r w' L:=S.nlX hn l.h e
theorem StX.shut (S : StX X w0 r w L) {w' : World} (e : Shuts w0.heap.size w w') [l : Low w0.heap.size r] : StX X w0 r w' L:=by
 have hb : ∀ b o,w.heap[b]? = some o→(b<w0.heap.size∨Obj.isBook o=false)→w'.heap[b]? = some o:=fun b o h hh=>by
  rw [e.block b (hh.imp id fun hh ds hd=>by rw [h] at hd;cases hd;cases hh)];exact h
 exact S.nlX (Nat.le_refl _) l.h ⟨e.os,e.tape,e.output,Nat.le_of_eq e.size.symm,hb⟩
end
end Go.Sh
end
section
namespace Go.Sh
open Go.RowKit
section
variable {P : Program}
end
end Go.Sh
end
section
namespace Go.Sh
open Go.RowKit
inductive Dat where
 |int (k : IntKind) (n : Int)
 |bool (b : Bool)
 |str (s : ByteArray)
 |agg (fs : List Dat)
 |sl (sz : Nat) (es : List Dat)
def CellsAt (r : Gh) (p : Option Addr) (n : Nat) (c : List Value) : Prop:=
 ∀ j v,c[j]? = some v→∃ b off,p=some ⟨b,off,none⟩∧Ob r fun w=>w.cell? ⟨b,off+n+j,none⟩=some v
mutual
def Rep (r : Gh) : Dat→List Value→Prop
 |.int k n,cs=>cs = [.int k n]
 |.bool b,cs=>cs = [.bool b]
 |.str s,cs=>cs = [.string s]
 |.agg fs,cs=>RepA r fs cs
 |.sl sz es,cs=>∃ p cap,cs = [.slice p es.length cap]∧(p=none→cap=0)∧es.length≤cap∧RepS r sz p 0 es
def RepA (r : Gh) : List Dat→List Value→Prop
 |[],cs=>cs = []
 |d::ds,cs=>∃ a b,cs=a++b∧Rep r d a∧RepA r ds b
def RepS (r : Gh) (sz : Nat) (p : Option Addr) : Nat→List Dat→Prop
 |_,[]=>True
 |i,d::ds=>(∃ c,c.length=sz∧CellsAt r p (i*sz) c∧Rep r d c)∧RepS r sz p (i+1) ds
end
theorem CellsAt.up {r s : Gh} {p : Option Addr} {n : Nat} {c : List Value} (h : CellsAt r p n c) (l : Le r s) : CellsAt s p n c:=fun j v hj=>by
 obtain ⟨b,off,h1,h2⟩:=h j v hj
 exact ⟨b,off,h1,h2.up⟩
mutual
theorem Rep.up' {r s : Gh} (l : Le r s) : ∀ {d : Dat} {cs : List Value},Rep r d cs→Rep s d cs
 |.int _ _,_,h=>h
 |.bool _,_,h=>h
 |.str _,_,h=>h
 |.agg fs,_,h=>RepA.up' l (fs:=fs) h
 |.sl _ es,_,h=>by
  obtain ⟨p,cap,h1,h2,h3,h4⟩:=h
  exact ⟨p,cap,h1,h2,h3,RepS.up' l (es:=es) h4⟩
theorem RepA.up' {r s : Gh} (l : Le r s) : ∀ {fs : List Dat} {cs : List Value},RepA r fs cs→RepA s fs cs
 |[],_,h=>h
 |d::ds,_,h=>by
  obtain ⟨a,b,h1,h2,h3⟩:=h
  exact ⟨a,b,h1,Rep.up' l (d:=d) h2,RepA.up' l (fs:=ds) h3⟩
theorem RepS.up' {r s : Gh} (l : Le r s) {sz : Nat} {p : Option Addr} : ∀ {i : Nat} {es : List Dat},RepS r sz p i es→RepS s sz p i es
 |_,[],_=>trivial
 |_,d::ds,h=>by
  obtain ⟨⟨c,h1,h2,h3⟩,h4⟩:=h
  exact ⟨⟨c,h1,h2.up l,Rep.up' l (d:=d) h3⟩,RepS.up' l (es:=ds) h4⟩
end
theorem Rep.up {r s : Gh} {d : Dat} {cs : List Value} (h : Rep r d cs) [l : Le r s] : Rep s d cs:=Rep.up' l h
theorem RepS.up {r s : Gh} {sz i : Nat} {p : Option Addr} {es : List Dat} (h : RepS r sz p i es) [l : Le r s] : RepS s sz p i es:=RepS.up' l h
theorem RepS.get {r : Gh} {sz : Nat} {p : Option Addr} : ∀ {es : List Dat} {k i : Nat} {d : Dat},RepS r sz p k es→es[i]? = some d→∃ c,c.length=sz∧CellsAt r p ((k+i)*sz) c∧Rep r d c
 |[],_,_,_,_,h=>by cases h
 |e::es,k,0,d,h,hi=>by simp only [List.getElem?_cons_zero,Option.some.injEq] at hi;subst hi;exact h.1
 |e::es,k,i+1,d,h,hi=>by
  have:=RepS.get (i:=i) h.2 hi
  rw [show k+1+i=k+(i+1) by omega] at this;exact this
theorem RepS.of {r : Gh} {sz : Nat} {p : Option Addr} : ∀ {es : List Dat} {k : Nat},(∀ i d,es[i]? = some d→∃ c,c.length=sz∧CellsAt r p ((k+i)*sz) c∧Rep r d c)→RepS r sz p k es
 |[],_,_=>trivial
 |e::es,k,h=>⟨h 0 e rfl,RepS.of (es:=es) (k:=k+1) fun i d hi=>by
  have:=h (i+1) d hi
  rw [show k+(i+1)=k+1+i by omega] at this;exact this⟩
theorem RepS.at {X : Nat→Prop} {w0 w : World} {r q : Gh} {L : List Asr} (S : StX X w0 r w L) {sz : Nat} {p : Option Addr} {es : List Dat} (h : RepS q sz p 0 es) [l : Le q r] {i : Nat} (hi : i<es.length) (hz : 0<sz) :
  ∃ b off c,p=some ⟨b,off,none⟩∧c.length=sz∧(∀ j v,c[j]? = some v→w.cell? ⟨b,off+i*sz+j,none⟩=some v)∧Rep q es[i] c:=by
 obtain ⟨c,h1,h2,h3⟩:=h.get (i:=i) (List.getElem?_eq_getElem hi)
 obtain ⟨b,off,rfl,_⟩:=h2 0 c[0] (List.getElem?_eq_getElem (by omega))
 refine ⟨b,off,c,rfl,h1,fun j v hj=>?_,h3⟩
 obtain ⟨b',off',hp,ho⟩:=h2 j v hj
 cases hp
 have:=S.at ho
 rwa [Nat.zero_add] at this
end Go.Sh
end
section
namespace Go.Sh
open Go.RowKit
section
variable {w : World} {A : (List Value→World→Prop)→Prop} {Z : Value→World→Prop} {b c : Bool}
theorem kT (hA : ∀ K : List Value→World→Prop,K [.bool c] w→A K) (hZ : Z (.bool (b&&c)) w) :
  za (fun K=>gIf (.bool b) true (A K) (K [undef] w)) fun s _ w'=>zb (.bool b) (s.getD 0 undef) (.bool false) fun t=>Z t w':=by
 intro K hK
 cases b with
 |true=>exact hA K (hK _ _ fun _=>⟨true,rfl,by simpa using hZ⟩)
 |false=>exact hK _ _ fun _=>⟨false,rfl,by simpa using hZ⟩
theorem ac7 (hA : ∀ K : List Value→World→Prop,K [.bool c] w→A K) (hZ : Z (.bool (b||c)) w) :
  za (fun K=>gIf (.bool b) false (A K) (K [undef] w)) fun s _ w'=>zb (.bool b) (.bool true) (s.getD 0 undef) fun t=>Z t w':=by
 intro K hK
 cases b with
 |true=>exact hK _ _ fun _=>⟨true,rfl,by simpa using hZ⟩
 |false=>exact hA K (hK _ _ fun _=>⟨false,rfl,by simpa using hZ⟩)
theorem zT (hA : b=true→∀ K : List Value→World→Prop,(∀ w',Ext w w'→K [.bool c] w')→A K) (hZ : ∀ w',Ext w w'→Z (.bool (b&&c)) w') :
  za (fun K=>gIf (.bool b) true (A K) (K [undef] w)) fun s _ w'=>zb (.bool b) (s.getD 0 undef) (.bool false) fun t=>Z t w':=by
 intro K hK
 cases b with
 |true=>exact hA rfl K fun w' e=>hK _ _ fun _=>⟨true,rfl,by simpa using hZ w' e⟩
 |false=>exact hK _ _ fun _=>⟨false,rfl,by simpa using hZ w (.refl w)⟩
theorem xp (hA : b=false→∀ K : List Value→World→Prop,(∀ w',Ext w w'→K [.bool c] w')→A K) (hZ : ∀ w',Ext w w'→Z (.bool (b||c)) w') :
  za (fun K=>gIf (.bool b) false (A K) (K [undef] w)) fun s _ w'=>zb (.bool b) (.bool true) (s.getD 0 undef) fun t=>Z t w':=by
 intro K hK
 cases b with
 |true=>exact hK _ _ fun _=>⟨true,rfl,by simpa using hZ w (.refl w)⟩
 |false=>exact hA rfl K fun w' e=>hK _ _ fun _=>⟨false,rfl,by simpa using hZ w' e⟩
theorem qD {K : List Value→World→Prop} {A : Prop} (hk : K [.bool (b||c)] w) (hA : b=false→K [.bool c] w→A) : zc (.bool b) (K [.bool b] w) A:=by
 cases b with
 |true=>rw [Bool.true_or] at hk;exact hk
 |false=>exact hA rfl (by rw [Bool.false_or] at hk;exact hk)
end
theorem zH {P : Program} {w : World} {K : Value→Prop} {t : TypeId} {b off n : Nat} {c : List Value} [k : LdN P t n] (hl : c.length=n) (h : ∀ j v,c[j]? = some v→w.cell? ⟨b,off+j,none⟩=some v) (hk : K (.agg c.toArray)) :
  opQ P w (Instr.loadAt t (.pointer (some ⟨b,off,none⟩))) K:=JP (by rw [hl];exact k.h) h hk
theorem zh {P : Program} {w : World} {K : Value→Prop} {t : TypeId} {a : Addr} {v : Value} [k : Ld1 P t] (h : w.cell? a=some v) (hk : K v) : opQ P w (Instr.loadAt t (.pointer (some a))) K:=aaD k.h h hk
theorem n_some {a : Addr} {K : Value→Prop} (k : K (.pointer (some a))) : YP (.pointer (some a)) K:=ah7 k
end Go.Sh
end
section
namespace Go.Sh
section
variable {P : Program} {X : Nat→Prop} {w0 w w' : World} {r s : Gh} {L : List Asr} {t e : TypeId} {sz n m : Nat} {v : Value} {xs : List Value}
theorem StX.litU (S : StX X w0 r w L) {e : TypeId} {len : Nat} {parts : Array (Nat × Value)} {cs : List Value} {K : Value→World→Prop} (hT : JR P t len parts=some (e,cs))
  (h : ∀ b w',StX X w0 r w' (.cell b cs e::L)→K (.slice (some ⟨b,0,none⟩) len len) w') : opW P w (Instr.buildSlice t len parts) fun t' w'=>Ext w w'∧K t' w':=
 ac5 hT fun b w' hb e' _ B=>⟨e',h b w' (S.add e' (by omega) B)⟩
theorem StX.frz {b : Nat} {c : List Value} {T : TypeId} (S : StX X w0 r w (.cell b c T::L)) : StX X w0 (r.or (Go.Sh.one b c T)) w L:=by
 have B : Blk w b c T:=S.has _ (List.mem_cons_self ..)
 refine ⟨S.x,S.holds.or (xC B),fun x hx=>S.has x (List.mem_cons_of_mem _ hx),fun x hx k hk=>⟨(S.mine x (List.mem_cons_of_mem _ hx) k hk).1,fun o ho=>?_⟩,(List.pairwise_cons.1 S.apart).2⟩
 rcases ho with ho|⟨rfl,_⟩
 ·exact (S.mine x (List.mem_cons_of_mem _ hx) k hk).2 o ho
 ·exact (List.pairwise_cons.1 S.apart).1 x hx k rfl hk
theorem StX.take (S : StX X w0 r w L) (E : Ext w w') (h : w'.ownsRow w.heap.size e sz v n xs) : StX X w0 r w' (.row v e sz n xs::L):=by
 have S':=S.go E
 have hb : ∀ k,v.ownBlock=some k→w.heap.size≤k:=fun k hk=>by
  rcases jz h with h0|⟨g,cap,c,h1,_,_,h2⟩
  ·rw [h0] at hk;cases hk
  ·rw [h1] at hk;cases hk;exact h2
 refine ⟨S'.x,S'.holds,?_,?_,.cons ?_ S'.apart⟩
 ·intro x hx;rcases List.mem_cons.1 hx with rfl|hx
  ·rcases h with ⟨hl,h|⟨g,cap,cur,rfl,_,hg⟩⟩
   ·exact ⟨hl,.inl h⟩
   ·exact ⟨hl,.inr ⟨g,cap,cur,rfl,Nat.zero_le _,hg⟩⟩
  ·exact S'.has x hx
 ·intro x hx;rcases List.mem_cons.1 hx with rfl|hx
  ·intro k hk
   have:=hb k hk
   exact ⟨.inl (by have:=S.x.size;omega),fun o ho=>by have:=S.holds.lt ho;omega⟩
  ·exact S'.mine x hx
 ·intro y hy k hk hk2
  have:=hb k hk
  have:=Asr.lt (S.has y hy) hk2
  omega
theorem StX.give {f : Asr→List Asr} (S : StX noX w0 r w L) (v : Value) [h : kc v L e sz n xs f] : w.ownsRow w0.heap.size e sz v n xs:=by
 obtain ⟨p,q,h2,h3⟩:=h.h
 have hx:=S.has (.row v e sz n xs) (by rw [h2];simp)
 have hm:=S.mine (.row v e sz n xs) (by rw [h2];simp)
 rcases hx with ⟨hl,hx|⟨g,cap,cur,rfl,hb,hg⟩⟩
 ·exact ⟨hl,.inl hx⟩
 ·exact ⟨hl,.inr ⟨g,cap,cur,rfl,(hm g rfl).1.resolve_right id,hg⟩⟩
theorem YU {base : Nat} (h : w.ownsRow base e sz v n xs) : ∃ p cap,v = .slice p n cap∧(p=none→cap=0)∧n≤cap∧xs.length=n*sz∧Sl w p xs:=by
 have hl:=h.1
 rcases xW h with ⟨rfl,rfl,rfl⟩|⟨g,cap,c,rfl,hg,B,h1,_,h3,h4⟩
 ·exact ⟨none,0,rfl,fun _=>rfl,Nat.le_refl _,hl,Sl.nil _ _⟩
 ·exact ⟨_,cap,rfl,by simp,h1,hl,by rw [← h4];exact (Sl.blk B).take _⟩
theorem StX.rowS {f : Asr→List Asr} (S : StX X w0 r w L) (v : Value) [h : kc v L e sz n xs f] : ∃ p cap,v = .slice p n cap∧(p=none→cap=0)∧n≤cap∧xs.length=n*sz∧Sl w p xs:=
 YU (S.rowSl v (h:=h))
theorem StX.row1 {f : Asr→List Asr} (S : StX X w0 r w L) (v : Value) [h : kc v L e sz n xs f] : v.oneCell'=true:=by
 obtain ⟨p,cap,rfl,_⟩:=S.rowS v (h:=h);rfl
theorem w_q {P : Program} {w : World} {s : Sem Value} {K : Value→World→Prop} (h : opQ P w s fun v=>K v w) : opW P w s K:=by
 obtain ⟨v,h1,h2⟩:=h
 exact ⟨v,w,h1 w (Ext.refl w),h2⟩
theorem aht {P : Program} {w : World} {s : Sem Value} {K : Value→World→Prop} (h : opQ P w s fun v=>K v w) : opW P w s fun v w'=>Ext w w'∧K v w':=w_q (by
 obtain ⟨v,h1,h2⟩:=h
 exact ⟨v,h1,Ext.refl w,h2⟩)
theorem StX.toRow {b : Nat} {c : List Value} (S : StX X w0 r w (.cell b c e::L)) (n sz : Nat) (hc : c.length=n*sz) (hm : n≤maxLen) : StX X w0 r w (.row (.slice (some ⟨b,0,none⟩) n n) e sz n c::L):=by
 have B : Blk w b c e:=S.has _ (List.mem_cons_self ..)
 refine S.turn (p:=[]) (x:=.cell b c e) (y:=.row _ e sz n c) (ExtBut.refl _ _) ?_ fun k hk=>.inl (by cases hk;rfl)
 have:=qC (base:=0) (Nat.zero_le _) B (Nat.le_refl n) hm hc
 rwa [List.take_of_length_le (by omega)] at this
end
end Go.Sh
end
section
namespace Go.Sh
open Go.RowKit
abbrev bs (l : List UInt8) : ByteArray:=⟨l.toArray⟩
theorem Vu (l : List UInt8) : (bs l).toList=l:=by rw [ByteArray.toList_eq]
section
variable {P : Program} {t ty : TypeId} {c : Bool} {l m : List UInt8} {a b : Int} {i j : IntKind}
theorem ae6 {op : BinOp} {x y : Value} (h : (match op,x,y with|.eql,.nilIface,.nilIface=>c=true|.neq,.nilIface,.nilIface=>c=true|.eql,.agg _,.agg _=>P.eqGuardType P.depth t=false|.neq,.agg _,.agg _=>P.eqGuardType P.depth t=false|_,_,_=>True)) (w : World) :
  (zA op t c x y).run P w=(binOp op t x y).run P w:=by
 have hg : (eqG op t c x y).run P w = .ok () w:=by
  unfold eqG
  cases op<;>first|rfl|(cases x<;>first|rfl|(cases y<;>first|rfl|(subst h;rfl)|(simp only at h;simp [run_program,h])))
 rw [zA,Sem.run_bind,hg];rfl
end
end Go.Sh
end
section
namespace Go.Sh
def kdN (n : Nat) : yd:=match n % 4 with|0=>.p|1=>.q|2=>.l|_=>.u
def ra : Nat→Nat→Nat→RI→RI
 |0,_,_,t=>t
 |n+1,i,c,t=>.op i (kdN c) (ra n (i+1) (c / 4) t)
abbrev rz (n i c : Nat) : RI:=ra n i c .nil
def ri : Nat→Nat→Nat→List (Nat × yd)
 |0,_,_=>[]
 |n+1,i,c=>(i,kdN c)::ri n (i+1) (c / 4)
end Go.Sh
end
section
namespace Go.Proofs
open Go.Sh
set_option maxRecDepth 100000
theorem Tryz.mixed : Tryz.prog.follows .mixedOrders=true:=by kernel_rfl
namespace Tryz
abbrev VW:=Value→World→Prop
abbrev fa (v : Value) (T : TypeId) (i : Nat) (k : Value→Prop) : Prop:=YP v fun a=>opP prog (Instr.fieldAt T a i) k
abbrev pf (T : TypeId) (v : Value) (i : Nat) (k : Value→Prop) : Prop:=opP prog (Instr.fieldAt T v i) k
abbrev lo (w : World) (T : TypeId) (v : Value) (k : Value→Prop) : Prop:=opQ prog w (Instr.loadAt T v) k
abbrev ff (w : World) (v : Value) (T : TypeId) (i : Nat) (U : TypeId) (k : Value→Prop) : Prop:=YP v fun a=>opP prog (Instr.fieldAt T a i) fun b=>opQ prog w (Instr.loadAt U b) k
abbrev fl (w : World) (v : Value) (T : TypeId) (i : Nat) (U : TypeId) (k : Value→Prop) : Prop:=opP prog (Instr.fieldAt T v i) fun b=>opQ prog w (Instr.loadAt U b) k
abbrev px (T : TypeId) (v i : Value) (k : Value→Prop) : Prop:=opP prog (Instr.indexAt T v i) k
abbrev xl (w : World) (T : TypeId) (v i : Value) (U : TypeId) (k : Value→Prop) : Prop:=opP prog (Instr.indexAt T v i) fun b=>opQ prog w (Instr.loadAt U b) k
abbrev bt (o : BinOp) (T : TypeId) (x y : Value) (k : Value→Prop) : Prop:=opP prog (zA o T true x y) k
abbrev bf (o : BinOp) (T : TypeId) (x y : Value) (k : Value→Prop) : Prop:=opP prog (zA o T false x y) k
abbrev pe (x : Value) (i : Nat) (k : Value→Prop) : Prop:=opP prog (Instr.extract x i) k
abbrev so (w : World) (T : TypeId) (x y : Value) (k : World→Prop) : Prop:=opU prog w (Instr.storeAt T x y) k
abbrev pp (s : Sem Value) (k : Value→Prop) : Prop:=opP prog s k
abbrev pq (w : World) (s : Sem Value) (k : Value→Prop) : Prop:=opQ prog w s k
abbrev pw (w : World) (s : Sem Value) (k : Value→World→Prop) : Prop:=opW prog w s k
abbrev pu (w : World) (s : Sem Unit) (k : World→Prop) : Prop:=opU prog w s k
abbrev ca (f : FuncId) (a : Array Value) (w : World) (k : Value→World→Prop) : Prop:=zd prog f a w k
abbrev cv (f : Value) (a : Array Value) (w : World) (k : Value→World→Prop) : Prop:=zB prog f a w k
abbrev i6 (n : Int) : Value:=.int .i64 n
abbrev tr_ : Value:=.bool true
abbrev fa_ : Value:=.bool false
theorem okC (m : Bool) (A : Ann) {f : FuncId} {fn : Func} {args : Array Value} {w : World} {K : VW} {X : Prop} (hf : prog.funcs[f]? = some fn) (hb : fn.body.isSome=true) (hc : chk ⟨m,false⟩ prog false A (jx fn)=true)
  (he : sw ⟨m,false⟩ prog (fun _ _=>False) A (jx fn) (args.toList++List.replicate (fn.ntmps - args.size) undef) w (aeT m prog fn w K)=X) (h : X) : zd prog f args w K:=
 abT (cf:=⟨m,false⟩) mixed hf hb hc (he.mpr h)
abbrev xq : FuncId:=31
abbrev kq : FuncId:=32
end Tryz
abbrev Tryz.ke : FuncId:=94
instance : LdN Tryz.prog 83 5:=⟨by kernel_rfl⟩
instance : SzT Tryz.prog 83 5:=⟨by kernel_rfl⟩
abbrev Tryz.xX : FuncId:=112
abbrev Tryz.jn : FuncId:=120
instance : ZrT Tryz.prog 83 [(.int .u8 0),(.bool false),(.int .i64 0),(.int .i64 0),(.slice none 0 0)]:=⟨by kernel_rfl⟩
instance : zy Tryz.prog 83 4 4:=⟨by kernel_rfl⟩
instance : Ld1 Tryz.prog 44:=⟨by kernel_rfl⟩
instance : SzT Tryz.prog 44 1:=⟨by kernel_rfl⟩
instance : SlT Tryz.prog 44 83 5:=⟨by kernel_rfl⟩
instance : Ld1 Tryz.prog 3:=⟨by kernel_rfl⟩
instance : SzT Tryz.prog 3 1:=⟨by kernel_rfl⟩
abbrev Tryz.kg : FuncId:=87
instance : Ld1 Tryz.prog 50:=⟨by kernel_rfl⟩
instance : SzT Tryz.prog 50 1:=⟨by kernel_rfl⟩
instance : SlT Tryz.prog 50 3 1:=⟨by kernel_rfl⟩
instance : ZrT Tryz.prog 50 [(.slice none 0 0)]:=⟨by kernel_rfl⟩
abbrev Tryz.kh : FuncId:=74
instance : Ld1 Tryz.prog 22:=⟨by kernel_rfl⟩
instance : SlT Tryz.prog 22 42 2:=⟨by kernel_rfl⟩
instance : ZrT Tryz.prog 3 [(.int .i64 0)]:=⟨by kernel_rfl⟩
instance : SlT Tryz.prog 160 71 1:=⟨by kernel_rfl⟩
instance : Ld1 Tryz.prog 71:=⟨by kernel_rfl⟩
abbrev Tryz.kU : FuncId:=93
instance : Ld1 Tryz.prog 32:=⟨by kernel_rfl⟩
instance : SzT Tryz.prog 32 1:=⟨by kernel_rfl⟩
abbrev Tryz.qE : FuncId:=110
instance : zy Tryz.prog 83 0 0:=⟨by kernel_rfl⟩
instance : Ld1 Tryz.prog 81:=⟨by kernel_rfl⟩
abbrev Tryz.xr : FuncId:=86
instance : zy Tryz.prog 83 1 1:=⟨by kernel_rfl⟩
instance : Ld1 Tryz.prog 4:=⟨by kernel_rfl⟩
instance : SzT Tryz.prog 4 1:=⟨by kernel_rfl⟩
instance : KdB Tryz.prog 4:=⟨by kernel_rfl⟩
instance : zy Tryz.prog 83 2 2:=⟨by kernel_rfl⟩
instance : zy Tryz.prog 83 3 3:=⟨by kernel_rfl⟩
abbrev Tryz.kN : FuncId:=111
instance : ApT Tryz.prog 50 3 1 8:=⟨by kernel_rfl⟩
abbrev Tryz.xk : FuncId:=83
instance : zy Tryz.prog 42 1 1:=⟨by kernel_rfl⟩
instance : Ld1 Tryz.prog 40:=⟨by kernel_rfl⟩
instance : SlT Tryz.prog 40 154 6:=⟨by kernel_rfl⟩
instance : LdN Tryz.prog 154 6:=⟨by kernel_rfl⟩
instance : SzT Tryz.prog 154 6:=⟨by kernel_rfl⟩
abbrev Tryz.YI : FuncId:=85
instance : zy Tryz.prog 154 1 1:=⟨by kernel_rfl⟩
abbrev Tryz.xm : FuncId:=88
abbrev Tryz.qF : FuncId:=89
instance : ArT Tryz.prog 188 32 4 1:=⟨by kernel_rfl⟩
instance : ZrT Tryz.prog 188 [(.bool false),(.bool false),(.bool false),(.bool false),(.bool false),(.bool false),(.bool false),(.bool false),(.bool false),(.bool false),(.bool false),(.bool false),(.bool false),(.bool false),(.bool false),(.bool false),(.bool false),(.bool false),(.bool false),(.bool false),(.bool false),(.bool false),(.bool false),(.bool false),(.bool false),(.bool false),(.bool false),(.bool false),(.bool false),(.bool false),(.bool false),(.bool false)]:=⟨by kernel_rfl⟩
instance : ZrT Tryz.prog 154 [(.string ByteArray.empty),(.int .u8 0),(.bool false),(.int .i64 0),(.int .i64 0),(.slice none 0 0)]:=⟨by kernel_rfl⟩
abbrev Tryz.xn : FuncId:=90
abbrev Tryz.k6 : FuncId:=91
abbrev Tryz.jF : FuncId:=92
abbrev Tryz.yH : FuncId:=104
abbrev Tryz.qX : FuncId:=106
instance : ApT Tryz.prog 44 83 5 48:=⟨by kernel_rfl⟩
abbrev Tryz.jG : FuncId:=107
abbrev Tryz.kB : FuncId:=115
abbrev Tryz.k7 : FuncId:=116
abbrev Tryz.Zf : FuncId:=117
abbrev Tryz.k8 : FuncId:=121
abbrev Tryz.Jc : FuncId:=124
abbrev Tryz.jo : FuncId:=36
instance : LdN Tryz.prog 25 3:=⟨by kernel_rfl⟩
instance : SzT Tryz.prog 25 3:=⟨by kernel_rfl⟩
abbrev Tryz.jH : FuncId:=53
instance : zy Tryz.prog 25 0 0:=⟨by kernel_rfl⟩
instance : zy Tryz.prog 25 1 1:=⟨by kernel_rfl⟩
instance : Ld1 Tryz.prog 23:=⟨by kernel_rfl⟩
instance : SlT Tryz.prog 23 48 7:=⟨by kernel_rfl⟩
instance : LdN Tryz.prog 48 7:=⟨by kernel_rfl⟩
instance : SzT Tryz.prog 48 7:=⟨by kernel_rfl⟩
instance : zy Tryz.prog 25 2 2:=⟨by kernel_rfl⟩
instance : ZrT Tryz.prog 48 [(.string ByteArray.empty),(.int .i64 0),(.slice none 0 0),(.int .i64 0),(.slice none 0 0),(.slice none 0 0),(.slice none 0 0)]:=⟨by kernel_rfl⟩
instance : LdN Tryz.prog 143 10:=⟨by kernel_rfl⟩
instance : SzT Tryz.prog 143 10:=⟨by kernel_rfl⟩
instance : ZrT Tryz.prog 143 [(.slice none 0 0),(.slice none 0 0),(.int .i64 0),(.string ByteArray.empty),(.int .i64 0),(.slice none 0 0),(.int .i64 0),(.slice none 0 0),(.slice none 0 0),(.slice none 0 0)]:=⟨by kernel_rfl⟩
instance : zy Tryz.prog 48 6 6:=⟨by kernel_rfl⟩
instance : Ld1 Tryz.prog 46:=⟨by kernel_rfl⟩
instance : SlT Tryz.prog 46 92 21:=⟨by kernel_rfl⟩
instance : LdN Tryz.prog 92 21:=⟨by kernel_rfl⟩
instance : SzT Tryz.prog 92 21:=⟨by kernel_rfl⟩
instance : ZrT Tryz.prog 92 [(.int .u8 0),(.int .i64 0),(.slice none 0 0),(.int .u8 0),(.int .i64 0),(.int .i64 0),(.slice none 0 0),(.int .u8 0),(.int .i64 0),(.int .i64 0),(.slice none 0 0),(.slice none 0 0),(.string ByteArray.empty),(.int .i64 0),(.slice none 0 0),(.bool false),(.int .i64 0),(.int .i64 0),(.int .i64 0),(.int .i64 0),(.int .i64 0)]:=⟨by kernel_rfl⟩
abbrev Tryz.zn : FuncId:=98
instance : LdN Tryz.prog 165 7:=⟨by kernel_rfl⟩
instance : SzT Tryz.prog 165 7:=⟨by kernel_rfl⟩
instance : ZrT Tryz.prog 165 [(.int .u8 0),(.bool false),(.int .i64 0),(.int .i64 0),(.slice none 0 0),(.int .i64 0),(.bool false)]:=⟨by kernel_rfl⟩
instance : zy Tryz.prog 80 0 0:=⟨by kernel_rfl⟩
instance : zy Tryz.prog 143 1 3:=⟨by kernel_rfl⟩
instance : zy Tryz.prog 48 4 4:=⟨by kernel_rfl⟩
instance : PStep Tryz.prog (Instr.build 165 #[]) (.agg #[(.int .u8 0),(.bool false),(.int .i64 0),(.int .i64 0),(.slice none 0 0),(.int .i64 0),(.bool false)]):=.of fun _ k=>zu (by kernel_rfl) k
instance : zy Tryz.prog 80 1 1:=⟨by kernel_rfl⟩
instance : Ld1 Tryz.prog 78:=⟨by kernel_rfl⟩
instance : SlT Tryz.prog 78 77 1:=⟨by kernel_rfl⟩
instance : Ld1 Tryz.prog 77:=⟨by kernel_rfl⟩
instance {x0_0 : Value} {x0_1 : Value} {x0_2 : Value} {x0_3 : Value} {x0_4 : Value} {x2_0 : Bool} : PStep Tryz.prog (Instr.build 165 #[(0,.agg #[x0_0,x0_1,x0_2,x0_3,x0_4]),(2,.bool x2_0)]) (.agg #[x0_0,x0_1,x0_2,x0_3,x0_4,(.int .i64 0),.bool x2_0]):=.of fun _ k=>zu (by kernel_rfl) k
instance : zy Tryz.prog 165 0 0:=⟨by kernel_rfl⟩
instance : zy Tryz.prog 165 1 5:=⟨by kernel_rfl⟩
instance : zy Tryz.prog 143 0 0:=⟨by kernel_rfl⟩
abbrev Tryz.vD : FuncId:=75
instance : zy Tryz.prog 48 1 1:=⟨by kernel_rfl⟩
instance : zy Tryz.prog 48 3 3:=⟨by kernel_rfl⟩
instance : zy Tryz.prog 48 5 5:=⟨by kernel_rfl⟩
instance : Ld1 Tryz.prog 45:=⟨by kernel_rfl⟩
instance : SlT Tryz.prog 45 9 1:=⟨by kernel_rfl⟩
instance : Ld1 Tryz.prog 9:=⟨by kernel_rfl⟩
instance : zy Tryz.prog 92 0 0:=⟨by kernel_rfl⟩
instance : Ld1 Tryz.prog 86:=⟨by kernel_rfl⟩
abbrev Tryz.x7 : FuncId:=76
instance : zy Tryz.prog 92 12 20:=⟨by kernel_rfl⟩
instance : zy Tryz.prog 92 10 18:=⟨by kernel_rfl⟩
instance : zy Tryz.prog 92 1 1:=⟨by kernel_rfl⟩
instance : LdN Tryz.prog 80 2:=⟨by kernel_rfl⟩
instance : SzT Tryz.prog 80 2:=⟨by kernel_rfl⟩
instance : zy Tryz.prog 92 6 13:=⟨by kernel_rfl⟩
instance : zy Tryz.prog 165 2 6:=⟨by kernel_rfl⟩
instance : zy Tryz.prog 92 2 3:=⟨by kernel_rfl⟩
instance : LdN Tryz.prog 89 4:=⟨by kernel_rfl⟩
instance : SzT Tryz.prog 89 4:=⟨by kernel_rfl⟩
instance : zy Tryz.prog 92 3 7:=⟨by kernel_rfl⟩
instance {x0_0 : Bool} {x1_0 : Bool} : PStep Tryz.prog (Instr.build 176 #[(0,.bool x0_0),(1,.bool x1_0)]) (.agg #[.bool x0_0,.bool x1_0,(.bool false),(.bool false),(.bool false),(.bool false),(.bool false),(.bool false),(.bool false),(.bool false)]):=.of fun _ k=>zu (by kernel_rfl) k
instance {x0_0 : Bool} {x1_0 : Bool} {x2_0 : Bool} {x4_0 : Bool} : PStep Tryz.prog (Instr.build 176 #[(0,.bool x0_0),(1,.bool x1_0),(2,.bool x2_0),(4,.bool x4_0)]) (.agg #[.bool x0_0,.bool x1_0,.bool x2_0,(.bool false),.bool x4_0,(.bool false),(.bool false),(.bool false),(.bool false),(.bool false)]):=.of fun _ k=>zu (by kernel_rfl) k
instance : zy Tryz.prog 92 5 12:=⟨by kernel_rfl⟩
instance {x0_0 : Bool} {x1_0 : Bool} {x4_0 : Bool} : PStep Tryz.prog (Instr.build 176 #[(0,.bool x0_0),(1,.bool x1_0),(4,.bool x4_0)]) (.agg #[.bool x0_0,.bool x1_0,(.bool false),(.bool false),.bool x4_0,(.bool false),(.bool false),(.bool false),(.bool false),(.bool false)]):=.of fun _ k=>zu (by kernel_rfl) k
instance {x0_0 : Bool} {x5_0 : Bool} {x6_0 : Bool} : PStep Tryz.prog (Instr.build 176 #[(0,.bool x0_0),(5,.bool x5_0),(6,.bool x6_0)]) (.agg #[.bool x0_0,(.bool false),(.bool false),(.bool false),(.bool false),.bool x5_0,.bool x6_0,(.bool false),(.bool false),(.bool false)]):=.of fun _ k=>zu (by kernel_rfl) k
instance : zy Tryz.prog 92 7 15:=⟨by kernel_rfl⟩
instance {x0_0 : Bool} {x3_0 : Bool} {x8_0 : Bool} : PStep Tryz.prog (Instr.build 176 #[(0,.bool x0_0),(3,.bool x3_0),(8,.bool x8_0)]) (.agg #[.bool x0_0,(.bool false),(.bool false),.bool x3_0,(.bool false),(.bool false),(.bool false),(.bool false),.bool x8_0,(.bool false)]):=.of fun _ k=>zu (by kernel_rfl) k
instance : zy Tryz.prog 92 9 17:=⟨by kernel_rfl⟩
instance {x0_0 : Bool} {x3_0 : Bool} {x7_0 : Bool} : PStep Tryz.prog (Instr.build 176 #[(0,.bool x0_0),(3,.bool x3_0),(7,.bool x7_0)]) (.agg #[.bool x0_0,(.bool false),(.bool false),.bool x3_0,(.bool false),(.bool false),(.bool false),.bool x7_0,(.bool false),(.bool false)]):=.of fun _ k=>zu (by kernel_rfl) k
instance : zy Tryz.prog 92 8 16:=⟨by kernel_rfl⟩
instance {x0_0 : Bool} : PStep Tryz.prog (Instr.build 176 #[(0,.bool x0_0)]) (.agg #[.bool x0_0,(.bool false),(.bool false),(.bool false),(.bool false),(.bool false),(.bool false),(.bool false),(.bool false),(.bool false)]):=.of fun _ k=>zu (by kernel_rfl) k
instance {x1_0 : Bool} : PStep Tryz.prog (Instr.build 176 #[(1,.bool x1_0)]) (.agg #[(.bool false),.bool x1_0,(.bool false),(.bool false),(.bool false),(.bool false),(.bool false),(.bool false),(.bool false),(.bool false)]):=.of fun _ k=>zu (by kernel_rfl) k
instance {x5_0 : Bool} : PStep Tryz.prog (Instr.build 176 #[(5,.bool x5_0)]) (.agg #[(.bool false),(.bool false),(.bool false),(.bool false),(.bool false),.bool x5_0,(.bool false),(.bool false),(.bool false),(.bool false)]):=.of fun _ k=>zu (by kernel_rfl) k
instance {x1_0 : Bool} {x9_0 : Bool} : PStep Tryz.prog (Instr.build 176 #[(1,.bool x1_0),(9,.bool x9_0)]) (.agg #[(.bool false),.bool x1_0,(.bool false),(.bool false),(.bool false),(.bool false),(.bool false),(.bool false),(.bool false),.bool x9_0]):=.of fun _ k=>zu (by kernel_rfl) k
instance : zy Tryz.prog 92 11 19:=⟨by kernel_rfl⟩
instance : PStep Tryz.prog (Instr.build 176 #[]) (.agg #[(.bool false),(.bool false),(.bool false),(.bool false),(.bool false),(.bool false),(.bool false),(.bool false),(.bool false),(.bool false)]):=.of fun _ k=>zu (by kernel_rfl) k
abbrev Tryz.JS : FuncId:=95
abbrev Tryz.qd : FuncId:=96
instance : ArT Tryz.prog 191 8 190 8:=⟨by kernel_rfl⟩
instance : ZrT Tryz.prog 191 [(.bool false),(.bool false),(.bool false),(.bool false),(.bool false),(.bool false),(.bool false),(.bool false),(.bool false),(.bool false),(.bool false),(.bool false),(.bool false),(.bool false),(.bool false),(.bool false),(.bool false),(.bool false),(.bool false),(.bool false),(.bool false),(.bool false),(.bool false),(.bool false),(.bool false),(.bool false),(.bool false),(.bool false),(.bool false),(.bool false),(.bool false),(.bool false),(.bool false),(.bool false),(.bool false),(.bool false),(.bool false),(.bool false),(.bool false),(.bool false),(.bool false),(.bool false),(.bool false),(.bool false),(.bool false),(.bool false),(.bool false),(.bool false),(.bool false),(.bool false),(.bool false),(.bool false),(.bool false),(.bool false),(.bool false),(.bool false),(.bool false),(.bool false),(.bool false),(.bool false),(.bool false),(.bool false),(.bool false),(.bool false)]:=⟨by kernel_rfl⟩
instance : zy Tryz.prog 48 2 2:=⟨by kernel_rfl⟩
instance : Ld1 Tryz.prog 43:=⟨by kernel_rfl⟩
instance : SlT Tryz.prog 43 195 2:=⟨by kernel_rfl⟩
instance : LdN Tryz.prog 195 2:=⟨by kernel_rfl⟩
instance : SzT Tryz.prog 195 2:=⟨by kernel_rfl⟩
instance : ZrT Tryz.prog 195 [(.int .i64 0),(.int .i64 0)]:=⟨by kernel_rfl⟩
instance : zy Tryz.prog 195 0 0:=⟨by kernel_rfl⟩
instance : zy Tryz.prog 195 1 1:=⟨by kernel_rfl⟩
instance : ArT Tryz.prog 190 8 4 1:=⟨by kernel_rfl⟩
abbrev Tryz.qi : FuncId:=97
abbrev Tryz.yg : FuncId:=99
instance : zy Tryz.prog 89 0 0:=⟨by kernel_rfl⟩
instance : Ld1 Tryz.prog 87:=⟨by kernel_rfl⟩
instance {x0_0 : Int} : PStep Tryz.prog (Instr.build 83 #[(0,.int .u8 x0_0)]) (.agg #[.int .u8 x0_0,(.bool false),(.int .i64 0),(.int .i64 0),(.slice none 0 0)]):=.of fun _ k=>zu (by kernel_rfl) k
instance : zy Tryz.prog 89 2 2:=⟨by kernel_rfl⟩
instance : zy Tryz.prog 89 1 1:=⟨by kernel_rfl⟩
instance : Ld1 Tryz.prog 2:=⟨by kernel_rfl⟩
instance : PStep Tryz.prog (Instr.build 83 #[]) (.agg #[(.int .u8 0),(.bool false),(.int .i64 0),(.int .i64 0),(.slice none 0 0)]):=.of fun _ k=>zu (by kernel_rfl) k
abbrev Tryz.qj : FuncId:=100
abbrev Tryz.qk : FuncId:=101
instance : zy Tryz.prog 92 4 11:=⟨by kernel_rfl⟩
instance : Ld1 Tryz.prog 90:=⟨by kernel_rfl⟩
instance : SlT Tryz.prog 90 89 4:=⟨by kernel_rfl⟩
abbrev Tryz.kL : FuncId:=103
abbrev Tryz.zI : FuncId:=105
instance : zy Tryz.prog 176 0 0:=⟨by kernel_rfl⟩
instance : zy Tryz.prog 176 1 1:=⟨by kernel_rfl⟩
instance : zy Tryz.prog 176 2 2:=⟨by kernel_rfl⟩
instance : zy Tryz.prog 176 3 3:=⟨by kernel_rfl⟩
instance : zy Tryz.prog 176 4 4:=⟨by kernel_rfl⟩
instance : zy Tryz.prog 176 5 5:=⟨by kernel_rfl⟩
instance : zy Tryz.prog 176 6 6:=⟨by kernel_rfl⟩
instance : zy Tryz.prog 176 7 7:=⟨by kernel_rfl⟩
instance : zy Tryz.prog 176 8 8:=⟨by kernel_rfl⟩
instance : zy Tryz.prog 176 9 9:=⟨by kernel_rfl⟩
abbrev Tryz.qG : FuncId:=113
instance : Ld1 Tryz.prog 95:=⟨by kernel_rfl⟩
instance : SzT Tryz.prog 95 1:=⟨by kernel_rfl⟩
instance : ZrT Tryz.prog 95 [.nilFunc]:=⟨by kernel_rfl⟩
abbrev Tryz.yU : FuncId:=114
abbrev Tryz.ZN : FuncId:=118
abbrev Tryz.jT : FuncId:=122
instance : Ld1 Tryz.prog 193:=⟨by kernel_rfl⟩
abbrev Tryz.zG : FuncId:=22
abbrev Tryz.ye : FuncId:=41
abbrev Tryz.zE : FuncId:=84
abbrev Tryz.zL : FuncId:=102
instance : ZrT Tryz.prog 89 [(.int .u8 0),(.int .i64 0),(.int .i64 0),(.slice none 0 0)]:=⟨by kernel_rfl⟩
abbrev Tryz.yu : FuncId:=109
abbrev Tryz.yC : FuncId:=119
abbrev Tryz.kt : FuncId:=123
instance : Ld1 Tryz.prog 62:=⟨by kernel_rfl⟩
instance : SzT Tryz.prog 62 1:=⟨by kernel_rfl⟩
instance : SlT Tryz.prog 62 4 1:=⟨by kernel_rfl⟩
abbrev Tryz.kO : FuncId:=52
abbrev Tryz.ki : FuncId:=73
abbrev Tryz.Z9 : FuncId:=34
instance : Ld1 Tryz.prog 114:=⟨by kernel_rfl⟩
instance : SlT Tryz.prog 114 50 1:=⟨by kernel_rfl⟩
abbrev Tryz.YV : FuncId:=48
instance : ApT Tryz.prog 114 50 1 24:=⟨by kernel_rfl⟩
abbrev Tryz.kC : FuncId:=49
abbrev Tryz.Qw : FuncId:=71
abbrev Tryz.yM : FuncId:=50
abbrev Tryz.xh : FuncId:=72
abbrev Tryz.xi : FuncId:=51
end Go.Proofs
end
section
namespace Go.Proofs.Tryz
open Go.Sh
set_option maxRecDepth 100000
def X4 (t0 : Value) (w : World) (K : VW) : Prop:=
 pw w (Instr.box 25 t0) fun t1 w1=>
 lo w1 25 t1 fun t7=>ca jH #[t7] w1 fun t8 w2=>
 pe t8 0 fun _t9=>pe t8 1 fun _t10=>pe t8 2 fun t11=>bt .eql 32 t11 (i6 0) fun t13=>K t13 w2
theorem aaO {t0 : Value} {w : World} {K : VW} (h : X4 t0 w K) : zd prog jo #[t0] w K:=
 okC false (.s (.r (rz 2 0 2)) (.s (.r (rz 9 0 9)) (.s (.r (rz 3 0 0)) (.n)))) func36 rfl (by kernel_rfl) (by kernel_rfl) h
def Yv (t0 : Value) (w : World) (K : VW) : Prop:=
 pw w (Instr.box 25 t0) fun t1 w1=>
 fl w1 t1 25 0 22 fun t15=>ca kh #[t15] w1 fun t16 w2=>
 pe t16 0 fun _t17=>pe t16 1 fun t18=>bt .neq 32 t18 (i6 0) fun t20=>za (fun K3=>gIf t20 false (fl w2 t1 25 1 23 fun t23=>pp (Builtin.len_ #[23] 3 #[t23]) fun t24=>bt .lss 3 t24 (i6 1) fun t25=>K3 [t25] w2) (K3 [undef] w2)) (fun s4 _d5 w6=>
 zb t20 tr_ (s4.getD 0 undef) fun t26=>za (fun K7=>gIf t26 false (fl w6 t1 25 1 23 fun t29=>pp (Builtin.len_ #[23] 3 #[t29]) fun t30=>bt .gtr 3 t30 (i6 32) fun t31=>K7 [t31] w6) (K7 [undef] w6)) (fun s8 _d9 w10=>
 zb t26 tr_ (s8.getD 0 undef) fun t32=>za (fun K11=>gIf t32 false (fl w10 t1 25 2 3 fun t35=>bt .lss 3 t35 (i6 0) fun t36=>K11 [t36] w10) (K11 [undef] w10)) (fun s12 _d13 w14=>
 zb t32 tr_ (s12.getD 0 undef) fun t37=>za (fun K15=>gIf t37 false (fl w14 t1 25 2 3 fun t40=>fl w14 t1 25 1 23 fun t42=>pp (Builtin.len_ #[23] 3 #[t42]) fun t43=>bf .geq 3 t40 t43 fun t44=>K15 [t44] w14) (K15 [undef] w14)) (fun s16 _d17 w18=>
 zb t37 tr_ (s16.getD 0 undef) fun t45=>zc t45 (K (.tuple #[(i6 (-1)),(i6 (-1)),(i6 100)]) w18) (fl w18 t1 25 1 23 fun t47=>pp (Builtin.len_ #[23] 3 #[t47]) fun t48=>zr [(i6 0),(i6 0),(i6 0)] w18 (fun s20 _d21 w22 K19=>
 bf .lss 3 (s20.getD 2 undef) t48 fun t50=>zc t50 (lo w22 25 t1 fun t52=>ca vD #[t52,(s20.getD 2 undef)] w22 fun t54 w23=>
 pp (Op.unary .not t54) fun t55=>zc t55 (K (.tuple #[(s20.getD 2 undef),(i6 (-1)),(i6 100)]) w23) (bt .add 3 (s20.getD 2 undef) (i6 1) fun t57=>K19 [(s20.getD 2 undef),(s20.getD 1 undef),t57] w23)) (za (fun K24=>
 fl w22 t1 25 1 23 fun t59=>pp (Builtin.len_ #[23] 3 #[t59]) fun t60=>zr [(s20.getD 0 undef),(s20.getD 1 undef),fa_,(i6 0)] w22 (fun s29 _d30 w31 K28=>
 bf .lss 3 (s29.getD 3 undef) t60 fun t62=>zc t62 (xl w31 23 t59 (s29.getD 3 undef) 48 fun t65=>pw w31 (Instr.alloc 48 true (.tuple #[])) fun t9 w32=>
 so w32 48 t9 t65 fun w33=>lo w33 25 t1 fun t66=>lo w33 48 t9 fun t67=>pp (Instr.build 143 #[(0,t66),(1,t67)]) fun t68=>pw w33 (Instr.alloc 143 true (.tuple #[])) fun t10 w34=>
 so w34 143 t10 t68 fun w35=>fl w35 t9 48 6 46 fun t70=>pp (Builtin.len_ #[46] 3 #[t70]) fun t71=>zr [(s29.getD 0 undef),(s29.getD 1 undef),(s29.getD 2 undef),(i6 0)] w35 (fun s37 _d38 w39 K36=>
 bf .lss 3 (s37.getD 3 undef) t71 fun t73=>zc t73 (xl w39 46 t70 (s37.getD 3 undef) 92 fun t76=>pw w39 (Instr.alloc 92 true (.tuple #[])) fun t12 w40=>
 so w40 92 t12 t76 fun w41=>lo w41 143 t10 fun t77=>lo w41 92 t12 fun t78=>ca x7 #[t77,t78] w41 fun t79 w42=>
 pp (Op.unary .not t79) fun t80=>zc t80 (K24 [(s29.getD 3 undef),(s37.getD 3 undef),tr_] w42) (bt .add 3 (s37.getD 3 undef) (i6 1) fun t83=>K36 [(s37.getD 0 undef),(s37.getD 1 undef),(s37.getD 2 undef),t83] w42)) (bt .add 3 (s29.getD 3 undef) (i6 1) fun t84=>K28 [(s37.getD 0 undef),(s37.getD 1 undef),(s37.getD 2 undef),t84] w39))) (K24 [(s29.getD 0 undef),(s29.getD 1 undef),(s29.getD 2 undef)] w31))) (fun s25 _d26 w27=>
 zc (s25.getD 2 undef) (K (.tuple #[(s25.getD 0 undef),(s25.getD 1 undef),(i6 100)]) w27) (K (.tuple #[(i6 0),(i6 0),(i6 0)]) w27)))))))))
theorem JT {t0 : Value} {w : World} {K : VW} (h : Yv t0 w K) : zd prog jH #[t0] w K:=
 okC false (.s (.r (rz 4 0 2)) (.b (.s (.s (.r (rz 8 0 36)) (.s (.r (ra 3 0 0 (.grp 21 false (ri 4 3 4) [25] (ra 2 7 0 (.grp 27 false (ri 4 9 4) [31] (ra 2 13 0 (.grp 33 false (ri 3 15 4) [36] (ra 2 18 0 (.grp 38 false (ri 6 20 68) [44] (rz 1 26 0)))))))))) (.c (.s (.r (rz 3 0 0)) (.n)) (.n)))) (.s (.s (.r (rz 4 0 4)) (.b (.lp [2,3,49] (.s (.r (rz 1 0 0)) (.s (.c (.n) (.n)) (.s (.b (.s (.r (rz 2 0 0)) (.s (.r (rz 4 0 33)) (.c (.s (.r (rz 4 0 0)) (.n)) (.n))))) (.r (rz 2 0 0)))))))) (.s (.r (rz 1 0 0)) (.s (.n) (.j [2,3,7] (.s (.r (rz 4 0 4)) (.b (.lp [2,3,7,61] (.s (.r (rz 1 0 0)) (.s (.c (.n) (.n)) (.s (.b (.s (.r (rz 6 0 2192)) (.s (.r (rz 5 0 645)) (.s (.r (rz 4 0 4)) (.b (.lp [2,3,7,72] (.s (.r (rz 1 0 0)) (.s (.c (.n) (.n)) (.s (.b (.s (.r (rz 6 0 2192)) (.s (.r (rz 4 0 37)) (.c (.s (.r (rz 5 0 0)) (.n)) (.n))))) (.r (rz 2 0 0))))))))))) (.r (rz 2 0 0)))))))) (.s (.s (.r (rz 1 0 0)) (.c (.s (.r (rz 5 0 0)) (.n)) (.n))) (.s (.r (rz 3 0 0)) (.n)))))))))) func53 rfl (by kernel_rfl) (by kernel_rfl) h
def jA (t0 t1 : Value) (w : World) (K : VW) : Prop:=
 pw w (Instr.box 143 t0) fun t2 w1=>
 pw w1 (Instr.box 80 t1) fun t3 w2=>
 pw w2 (Instr.alloc 165 true (.tuple #[])) fun t4 w3=>
 fl w3 t3 80 0 3 fun t11=>bt .lss 3 t11 (i6 0) fun t12=>za (fun K4=>gIf t12 false (fl w3 t3 80 0 3 fun t15=>pf 143 t2 1 fun t16=>fl w3 t16 48 4 44 fun t18=>pp (Builtin.len_ #[44] 3 #[t18]) fun t19=>bf .geq 3 t15 t19 fun t20=>K4 [t20] w3) (K4 [undef] w3)) (fun s5 _d6 w7=>
 zb t12 tr_ (s5.getD 0 undef) fun t21=>zc t21 (pp (Instr.build 165 #[]) fun t22=>so w7 165 t4 t22 fun w8=>pq w8 (zf 165 t4) fun r9=>K r9 w8) (pf 143 t2 1 fun t23=>fl w7.drew t23 48 4 44 fun t25=>fl w7.drew t3 80 0 3 fun t27=>xl w7.drew 44 t25 t27 83 fun t29=>fl w7.drew t3 80 1 78 fun t31=>pp (Builtin.len_ #[78] 3 #[t31]) fun t32=>bt .leq 3 t32 (i6 8) fun t33=>pp (Instr.build 165 #[(0,t29),(2,t33)]) fun t34=>pw w7.drew (Instr.alloc 165 true (.tuple #[])) fun t5 w10=>
 Ext w7.drew w10∧
 so w10 165 t5 t34 fun w11=>fl w11 t3 80 1 78 fun t36=>pp (Builtin.len_ #[78] 3 #[t36]) fun t37=>zr [(i6 0)] w11 (fun s13 _d14 w15 K12=>
 bf .lss 3 (s13.getD 0 undef) t37 fun t39=>zc t39 (za (fun K16=>
 xl w15 78 t36 (s13.getD 0 undef) 77 fun t41=>fl w15 t5 165 0 83 fun t43=>pw w15 (Instr.alloc 83 true (.tuple #[])) fun t8 w20=>
 so w20 83 t8 t43 fun w21=>bt .eql 77 t41 (i6 (-1)) fun t47=>za (fun K22=>gIf t47 true (fl w21 t8 83 0 81 fun t50=>bt .eql 81 t50 (Value.int .u8 3) fun t51=>K22 [t51] w21) (K22 [undef] w21)) (fun s23 _d24 w25=>
 zb t47 (s23.getD 0 undef) fa_ fun t52=>zc t52 (fl w25 t5 165 1 3 fun t54=>pp (Builtin.max_ #[3,3] 3 #[t54,(i6 1)]) fun t55=>pf 165 t5 1 fun t56=>so w25 3 t56 t55 fun w26=>fl w26 t8 83 4 44 fun t58=>xl w26 44 t58 (i6 0) 83 fun t60=>pf 165 t5 0 fun t61=>so w26 83 t61 t60 fun w27=>K16 [] w27) (bt .eql 77 t41 (i6 (-1)) fun t64=>za (fun K28=>gIf t64 true (fl w25 t8 83 0 81 fun t67=>bt .eql 81 t67 (Value.int .u8 4) fun t68=>K28 [t68] w25) (K28 [undef] w25)) (fun s29 _d30 w31=>
 zb t64 (s29.getD 0 undef) fa_ fun t69=>zc t69 (za (fun K32=>
 fl w31 t8 83 1 4 fun t71=>zc t71 (K32 [(i6 2)] w31) (K32 [(i6 3)] w31)) (fun s33 _d34 w35=>
 fl w35 t5 165 1 3 fun t73=>pp (Builtin.max_ #[3,3] 3 #[t73,(s33.getD 0 undef)]) fun t75=>pf 165 t5 1 fun t76=>so w35 3 t76 t75 fun w36=>fl w36 t8 83 4 44 fun t78=>xl w36 44 t78 (i6 0) 83 fun t80=>pf 165 t5 0 fun t81=>so w36 83 t81 t80 fun w37=>K16 [] w37)) (bt .geq 77 t41 (i6 0) fun t84=>za (fun K38=>gIf t84 true (fl w31 t8 83 0 81 fun t87=>bt .eql 81 t87 (Value.int .u8 5) fun t88=>K38 [t88] w31) (K38 [undef] w31)) (fun s39 _d40 w41=>
 zb t84 (s39.getD 0 undef) fa_ fun t89=>za (fun K42=>gIf t89 true (pf 143 t2 0 fun t92=>fl w41 t92 25 0 22 fun t94=>fl w41 t8 83 3 3 fun t96=>px 22 t94 t96 fun t97=>fl w41 t97 42 1 40 fun t99=>pp (Builtin.len_ #[40] 3 #[t99]) fun t100=>bf .lss 3 t41 t100 fun t101=>K42 [t101] w41) (K42 [undef] w41)) (fun s43 _d44 w45=>
 zb t89 (s43.getD 0 undef) fa_ fun t102=>zc t102 (pf 143 t2 0 fun t103=>fl w45 t103 25 0 22 fun t105=>fl w45 t8 83 3 3 fun t107=>px 22 t105 t107 fun t108=>fl w45 t108 42 1 40 fun t110=>px 40 t110 t41 fun t112=>fl w45 t112 154 1 83 fun t114=>pf 165 t5 0 fun t115=>so w45 83 t115 t114 fun w46=>K16 [] w46) (pp (Instr.build 165 #[]) fun t44=>so w45 165 t4 t44 fun w47=>pq w47 (zf 165 t4) fun r48=>K r48 w47)))))))) (fun _s17 _d18 w19=>
 bt .add 3 (s13.getD 0 undef) (i6 1) fun t116=>K12 [t116] w19)) (lo w15 165 t5 fun t117=>so w15 165 t4 t117 fun w49=>pq w49 (zf 165 t4) fun r50=>K r50 w49))))
theorem YJ {t0 t1 : Value} {w : World} {K : VW} (h : jA t0 t1 w K) : zd prog zn #[t0,t1] w K:=
 okC false (.s (.r (rz 3 0 42)) (.s (.s (.r (ra 4 0 4 (.grp 13 false (ri 7 4 260) [20] (rz 1 11 0)))) (.c (.s (.r (rz 2 0 8)) (.n)) (.n))) (.s (.r (rz 14 0 184619280)) (.s (.s (.r (rz 4 0 4)) (.b (.lp [38] (.s (.r (rz 1 0 0)) (.s (.c (.n) (.n)) (.j [] (.b (.s (.r (rz 3 0 4)) (.s (.r (rz 4 0 164)) (.b (.s (.r (ra 3 0 0 (.grp 48 true (ri 3 3 4) [51] (rz 2 6 0)))) (.c (.s (.r (rz 5 0 516)) (.r (rz 6 0 2116))) (.s (.r (ra 3 0 0 (.grp 65 true (ri 3 3 4) [68] (rz 2 6 0)))) (.c (.s (.r (rz 1 0 0)) (.j [9] (.s (.r (rz 2 0 4)) (.c (.r (rz 1 0 0)) (.n))) (.s (.r (rz 6 0 2052)) (.r (rz 6 0 2116))))) (.s (.r (ra 3 0 0 (.grp 85 true (ri 3 3 4) [88] (ra 2 6 0 (.grp 90 true (ri 11 8 66624) [101] (rz 2 19 0)))))) (.c (.r (rz 14 0 138428688)) (.s (.r (rz 2 0 8)) (.n)))))))))))) (.r (rz 2 0 0)))))))) (.s (.r (rz 2 0 9)) (.n)))))) func98 rfl (by kernel_rfl) (by kernel_rfl) h
def YW (t0 t1 : Value) (w : World) (K : VW) : Prop:=
 pw w (Instr.box 25 t0) fun t2 w1=>
 fl w1 t2 25 1 23 fun t13=>xl w1 23 t13 t1 48 fun t16=>pw w1 (Instr.alloc 48 true (.tuple #[])) fun t5 w2=>
 so w2 48 t5 t16 fun w3=>fl w3 t5 48 1 3 fun t18=>bt .lss 3 t18 (i6 0) fun t19=>za (fun K4=>gIf t19 false (fl w3 t5 48 1 3 fun t22=>bt .gtr 3 t22 (i6 8) fun t23=>K4 [t23] w3) (K4 [undef] w3)) (fun s5 _d6 w7=>
 zb t19 tr_ (s5.getD 0 undef) fun t24=>za (fun K8=>gIf t24 false (fl w7 t5 48 3 3 fun t27=>bt .lss 3 t27 (i6 0) fun t28=>K8 [t28] w7) (K8 [undef] w7)) (fun s9 _d10 w11=>
 zb t24 tr_ (s9.getD 0 undef) fun t29=>za (fun K12=>gIf t29 false (fl w11 t5 48 3 3 fun t32=>bt .gtr 3 t32 (i6 8) fun t33=>K12 [t33] w11) (K12 [undef] w11)) (fun s13 _d14 w15=>
 zb t29 tr_ (s13.getD 0 undef) fun t34=>za (fun K16=>gIf t34 false (fl w15 t5 48 4 44 fun t37=>pp (Builtin.len_ #[44] 3 #[t37]) fun t38=>fl w15 t5 48 3 3 fun t40=>bf .leq 3 t38 t40 fun t41=>K16 [t41] w15) (K16 [undef] w15)) (fun s17 _d18 w19=>
 zb t34 tr_ (s17.getD 0 undef) fun t42=>za (fun K20=>gIf t42 false (fl w19 t5 48 4 44 fun t45=>pp (Builtin.len_ #[44] 3 #[t45]) fun t46=>bt .gtr 3 t46 (i6 512) fun t47=>K20 [t47] w19) (K20 [undef] w19)) (fun s21 _d22 w23=>
 zb t42 tr_ (s21.getD 0 undef) fun t48=>za (fun K24=>gIf t48 false (fl w23 t5 48 5 45 fun t51=>pp (Builtin.len_ #[45] 3 #[t51]) fun t52=>fl w23 t5 48 4 44 fun t54=>pp (Builtin.len_ #[44] 3 #[t54]) fun t55=>bf .neq 3 t52 t55 fun t56=>K24 [t56] w23) (K24 [undef] w23)) (fun s25 _d26 w27=>
 zb t48 tr_ (s25.getD 0 undef) fun t57=>zc t57 (K fa_ w27) (fl w27 t5 48 4 44 fun t59=>pp (Builtin.len_ #[44] 3 #[t59]) fun t60=>zr [(i6 0)] w27 (fun s29 _d30 w31 K28=>
 bf .lss 3 (s29.getD 0 undef) t60 fun t62=>zc t62 (xl w31 44 t59 (s29.getD 0 undef) 83 fun t65=>pw w31 (Instr.alloc 83 true (.tuple #[])) fun t7 w32=>
 so w32 83 t7 t65 fun w33=>fl w33 t2 25 0 22 fun t67=>lo w33 83 t7 fun t68=>ca kU #[t67,t68] w33 fun t69 w34=>
 pp (Op.unary .not t69) fun t70=>zc t70 (K fa_ w34) (pw w34 (Instr.alloc 3 true (.tuple #[])) fun t8 w35=>
 so w35 3 t8 (i6 (-1)) fun w36=>za (fun K37=>
 fl w36 t5 48 3 3 fun t73=>bf .leq 3 (s29.getD 0 undef) t73 fun t74=>zc t74 (so w36 3 t8 (i6 0) fun w41=>K37 [] w41) (K37 [] w36)) (fun _s38 _d39 w40=>
 lo w40 83 t7 fun t75=>ca ke #[t75] w40 fun t76 w42=>
 pp (Instr.makeFunc (.func 95) #[] #[t8,t5]) fun t77=>ca zG #[t76,t77] w42 fun t78 w43=>
 zc t78 (K fa_ w43) (bt .add 3 (s29.getD 0 undef) (i6 1) fun t79=>K28 [t79] w43)))) (fl w31 t5 48 6 46 fun t81=>pp (Builtin.len_ #[46] 3 #[t81]) fun t82=>bt .lss 3 t82 (i6 1) fun t83=>za (fun K44=>gIf t83 false (fl w31 t5 48 6 46 fun t86=>pp (Builtin.len_ #[46] 3 #[t86]) fun t87=>bt .gtr 3 t87 (i6 1024) fun t88=>K44 [t88] w31) (K44 [undef] w31)) (fun s45 _d46 w47=>
 zb t83 tr_ (s45.getD 0 undef) fun t89=>za (fun K48=>gIf t89 false (lo w47 48 t5 fun t91=>ca qd #[t91] w47 fun t92 w52=>
 pp (Op.unary .not t92) fun t93=>K48 [t93] w52) (K48 [undef] w47)) (fun s49 _d50 w51=>
 zb t89 tr_ (s49.getD 0 undef) fun t94=>zc t94 (K fa_ w51) (fl w51 t5 48 6 46 fun t96=>pp (Builtin.len_ #[46] 3 #[t96]) fun t97=>zr [(i6 0),(i6 0)] w51 (fun s54 _d55 w56 K53=>
 bf .lss 3 (s54.getD 1 undef) t97 fun t99=>zc t99 (za (fun K57=>
 xl w56 46 t96 (s54.getD 1 undef) 92 fun t101=>pw w56 (Instr.alloc 92 true (.tuple #[])) fun t11 w61=>
 so w61 92 t11 t101 fun w62=>fl w62 t11 92 0 86 fun t103=>bt .eql 86 t103 (Value.int .u8 4) fun t104=>zc t104 (bt .add 3 (s54.getD 0 undef) (i6 1) fun t106=>K57 [t106] w62) (K57 [(s54.getD 0 undef)] w62)) (fun s58 _d59 w60=>
 bt .add 3 (s54.getD 1 undef) (i6 1) fun t107=>K53 [(s58.getD 0 undef),t107] w60)) (bt .leq 3 (s54.getD 0 undef) (i6 256) fun t109=>za (fun K63=>gIf t109 true (fl w56 t2 25 2 3 fun t113=>bf .neq 3 t1 t113 fun t114=>K63 [t114] w56) (K63 [undef] w56)) (fun s64 _d65 w66=>
 za (fun K67=>gIf (s64.getD 0 undef) false (fl w66 t5 48 1 3 fun t117=>bt .eql 3 t117 (i6 0) fun t118=>K67 [t118] w66) (K67 [undef] w66)) (fun s68 _d69 w70=>
 za (fun K71=>gIf (s68.getD 0 undef) true (fl w70 t5 48 3 3 fun t121=>bt .eql 3 t121 (i6 0) fun t122=>K71 [t122] w70) (K71 [undef] w70)) (fun s72 _d73 w74=>
 za (fun K75=>gIf (s64.getD 0 undef) false (zb (s68.getD 0 undef) (s72.getD 0 undef) fa_ fun t123=>K75 [t123] w74) (K75 [undef] w74)) (fun s76 _d77 w78=>
 za (fun K79=>gIf (s76.getD 0 undef) true (fl w78 t5 48 4 44 fun t126=>px 44 t126 (i6 0) fun t127=>fl w78 t127 83 0 81 fun t129=>bt .eql 81 t129 (Value.int .u8 1) fun t130=>K79 [t130] w78) (K79 [undef] w78)) (fun s80 _d81 w82=>
 za (fun K83=>gIf (s64.getD 0 undef) false (zb (s76.getD 0 undef) (s80.getD 0 undef) fa_ fun t131=>K83 [t131] w82) (K83 [undef] w82)) (fun s84 _d85 w86=>
 za (fun K87=>gIf t109 true (zb (s64.getD 0 undef) tr_ (s84.getD 0 undef) fun t132=>K87 [t132] w86) (K87 [undef] w86)) (fun s88 _d89 w90=>
 zb t109 (s88.getD 0 undef) fa_ fun t133=>K t133 w90)))))))))))))))))))))
theorem VZ {t0 t1 : Value} {w : World} {K : VW} (h : YW t0 t1 w K) : zd prog vD #[t0,t1] w K:=
 okC false (.s (.r (rz 2 0 2)) (.s (.r (rz 7 0 10500)) (.s (.s (.r (ra 4 0 4 (.grp 20 false (ri 3 4 4) [23] (ra 2 7 0 (.grp 25 false (ri 3 9 4) [28] (ra 2 12 0 (.grp 30 false (ri 3 14 4) [33] (ra 2 17 0 (.grp 35 false (ri 6 19 260) [41] (ra 2 25 0 (.grp 43 false (ri 4 27 4) [47] (ra 2 31 0 (.grp 49 false (ri 7 33 260) [56] (rz 1 40 0)))))))))))))) (.c (.s (.r (rz 1 0 0)) (.n)) (.n))) (.s (.s (.r (rz 4 0 4)) (.b (.lp [61] (.s (.r (rz 1 0 0)) (.s (.c (.n) (.n)) (.s (.b (.s (.r (rz 6 0 2192)) (.s (.s (.r (rz 5 0 148)) (.c (.s (.r (rz 1 0 0)) (.n)) (.n))) (.s (.r (rz 2 0 10)) (.j [] (.s (.r (rz 4 0 16)) (.c (.r (rz 1 0 2)) (.n))) (.s (.r (rz 4 0 137)) (.c (.s (.r (rz 1 0 0)) (.n)) (.n)))))))) (.r (rz 2 0 0)))))))) (.s (.s (.r (ra 5 0 4 (.grp 84 false (ri 4 5 4) [88] (ra 2 9 0 (.grp 90 false (ri 3 11 9) [93] (rz 1 14 0)))))) (.c (.s (.r (rz 1 0 0)) (.n)) (.n))) (.s (.r (rz 1 0 0)) (.s (.s (.r (rz 4 0 4)) (.b (.lp [9,98] (.s (.r (rz 1 0 0)) (.s (.c (.n) (.n)) (.j [9] (.b (.s (.r (rz 4 0 164)) (.s (.r (rz 3 0 4)) (.c (.r (rz 3 0 0)) (.n))))) (.r (rz 2 0 0)))))))) (.s (.r (ra 3 0 0 (.grp 110 true (ri 5 3 16) [115] (.grp 115 false (ri 4 8 4) [119] (.grp 119 true (ri 3 12 4) [122] (.grp 115 false (ri 2 15 0) [124] (.grp 124 true (ri 6 17 260) [130] (.grp 115 false (ri 1 23 0) [131] (.grp 110 true (ri 1 24 0) [132] (rz 2 25 0)))))))))) (.n))))))))) func75 rfl (by kernel_rfl) (by kernel_rfl) h
def qQ (t0 t1 : Value) (w : World) (K : VW) : Prop:=
 pw w (Instr.box 143 t0) fun t2 w1=>
 pw w1 (Instr.box 92 t1) fun t3 w2=>
 pf 143 t2 1 fun t23=>fl w2 t23 48 6 46 fun t25=>pp (Builtin.len_ #[46] 3 #[t25]) fun t26=>pw w2 (Instr.alloc 3 true (.tuple #[])) fun t5 w3=>
 so w3 3 t5 t26 fun w4=>pp (Instr.makeFunc (.func 97) #[] #[t5]) fun t27=>fl w4 t3 92 12 3 fun t29=>bt .lss 3 t29 (i6 0) fun t30=>za (fun K5=>gIf t30 false (fl w4 t3 92 0 86 fun t33=>bt .neq 86 t33 (Value.int .u8 14) fun t34=>K5 [t34] w4) (K5 [undef] w4)) (fun s6 _d7 w8=>
 za (fun K9=>gIf (s6.getD 0 undef) true (fl w8 t3 92 10 3 fun t38=>cv t27 #[t38] w8 fun t39 w13=>
 pp (Op.unary .not t39) fun t40=>K9 [t40] w13) (K9 [undef] w8)) (fun s10 _d11 w12=>
 za (fun K14=>gIf t30 false (zb (s6.getD 0 undef) (s10.getD 0 undef) fa_ fun t41=>K14 [t41] w12) (K14 [undef] w12)) (fun s15 _d16 w17=>
 zb t30 tr_ (s15.getD 0 undef) fun t42=>za (fun K18=>gIf t42 false (fl w17 t3 92 0 86 fun t45=>bt .eql 86 t45 (Value.int .u8 14) fun t46=>K18 [t46] w17) (K18 [undef] w17)) (fun s19 _d20 w21=>
 za (fun K22=>gIf (s19.getD 0 undef) true (fl w21 t3 92 10 3 fun t49=>bt .neq 3 t49 (i6 0) fun t50=>K22 [t50] w21) (K22 [undef] w21)) (fun s23 _d24 w25=>
 za (fun K26=>gIf t42 false (zb (s19.getD 0 undef) (s23.getD 0 undef) fa_ fun t51=>K26 [t51] w25) (K26 [undef] w25)) (fun s27 _d28 w29=>
 zb t42 tr_ (s27.getD 0 undef) fun t52=>zc t52 (K fa_ w29) (za (fun K30=>
 lo w29.drew 143 t2 fun t53=>fl w29.drew t3 92 1 80 fun t55=>lo w29.drew 143 t2 fun t57=>fl w29.drew t3 92 6 80 fun t59=>((ca zn #[t53,t55] w29.drew fun t56 w34=>
 Ext w29.drew w34∧
 ((ca zn #[t57,t59] w34 fun t60 w35=>
 ((pw w35 (Instr.alloc 165 true (.tuple #[])) fun t7 w36=>
 Ext w35 w36∧
 pw w36 (Instr.alloc 165 true (.tuple #[])) fun t8 w37=>
 Ext w36 w37∧
 so w37 165 t7 t56 fun w38=>so w38 165 t8 t60 fun w39=>K30 [t7,t8] w39)∧
 (pw w35 (Instr.alloc 165 true (.tuple #[])) fun t8_41 w40=>
 Ext w35 w40∧
 pw w40 (Instr.alloc 165 true (.tuple #[])) fun t7_43 w42=>
 Ext w40 w42∧
 so w42 165 t7_43 t56 fun w44=>so w44 165 t8_41 t60 fun w45=>K30 [t7_43,t8_41] w45)))∧
 (((pw w34 (Instr.alloc 165 true (.tuple #[])) fun t7_47 w46=>
 Ext w34 w46∧
 ((ca zn #[t57,t59] w46 fun t60_49 w48=>
 pw w48 (Instr.alloc 165 true (.tuple #[])) fun t8_51 w50=>
 Ext w48 w50∧
 so w50 165 t7_47 t56 fun w52=>so w52 165 t8_51 t60_49 fun w53=>K30 [t7_47,t8_51] w53)∧
 (pw w46 (Instr.alloc 165 true (.tuple #[])) fun t8_55 w54=>
 Ext w46 w54∧
 ca zn #[t57,t59] w54 fun t60_57 w56=>
 so w56 165 t7_47 t56 fun w58=>so w58 165 t8_55 t60_57 fun w59=>K30 [t7_47,t8_55] w59)))∧
 (pw w34 (Instr.alloc 165 true (.tuple #[])) fun t8_61 w60=>
 Ext w34 w60∧
 ((ca zn #[t57,t59] w60 fun t60_63 w62=>
 pw w62 (Instr.alloc 165 true (.tuple #[])) fun t7_65 w64=>
 Ext w62 w64∧
 so w64 165 t7_65 t56 fun w66=>so w66 165 t8_61 t60_63 fun w67=>K30 [t7_65,t8_61] w67)∧
 (pw w60 (Instr.alloc 165 true (.tuple #[])) fun t7_69 w68=>
 Ext w60 w68∧
 ca zn #[t57,t59] w68 fun t60_71 w70=>
 so w70 165 t7_69 t56 fun w72=>so w72 165 t8_61 t60_71 fun w73=>K30 [t7_69,t8_61] w73)))))))∧
 (((pw w29.drew (Instr.alloc 165 true (.tuple #[])) fun t7_75 w74=>
 Ext w29.drew w74∧
 ((ca zn #[t53,t55] w74 fun t56_77 w76=>
 Ext w74 w76∧
 ((ca zn #[t57,t59] w76 fun t60_79 w78=>
 pw w78 (Instr.alloc 165 true (.tuple #[])) fun t8_81 w80=>
 Ext w78 w80∧
 so w80 165 t7_75 t56_77 fun w82=>so w82 165 t8_81 t60_79 fun w83=>K30 [t7_75,t8_81] w83)∧
 (pw w76 (Instr.alloc 165 true (.tuple #[])) fun t8_85 w84=>
 Ext w76 w84∧
 ca zn #[t57,t59] w84 fun t60_87 w86=>
 so w86 165 t7_75 t56_77 fun w88=>so w88 165 t8_85 t60_87 fun w89=>K30 [t7_75,t8_85] w89)))∧
 (pw w74 (Instr.alloc 165 true (.tuple #[])) fun t8_91 w90=>
 Ext w74 w90∧
 ca zn #[t53,t55] w90 fun t56_93 w92=>
 Ext w90 w92∧
 ca zn #[t57,t59] w92 fun t60_95 w94=>
 so w94 165 t7_75 t56_93 fun w96=>so w96 165 t8_91 t60_95 fun w97=>K30 [t7_75,t8_91] w97)))∧
 (pw w29.drew (Instr.alloc 165 true (.tuple #[])) fun t8_99 w98=>
 Ext w29.drew w98∧
 ((ca zn #[t53,t55] w98 fun t56_101 w100=>
 Ext w98 w100∧
 ((ca zn #[t57,t59] w100 fun t60_103 w102=>
 pw w102 (Instr.alloc 165 true (.tuple #[])) fun t7_105 w104=>
 Ext w102 w104∧
 so w104 165 t7_105 t56_101 fun w106=>so w106 165 t8_99 t60_103 fun w107=>K30 [t7_105,t8_99] w107)∧
 (pw w100 (Instr.alloc 165 true (.tuple #[])) fun t7_109 w108=>
 Ext w100 w108∧
 ca zn #[t57,t59] w108 fun t60_111 w110=>
 so w110 165 t7_109 t56_101 fun w112=>so w112 165 t8_99 t60_111 fun w113=>K30 [t7_109,t8_99] w113)))∧
 (pw w98 (Instr.alloc 165 true (.tuple #[])) fun t7_115 w114=>
 Ext w98 w114∧
 ca zn #[t53,t55] w114 fun t56_117 w116=>
 Ext w114 w116∧
 ca zn #[t57,t59] w116 fun t60_119 w118=>
 so w118 165 t7_115 t56_117 fun w120=>so w120 165 t8_99 t60_119 fun w121=>K30 [t7_115,t8_99] w121))))))) (fun s31 _d32 w33=>
 fl w33 (s31.getD 0 undef) 165 2 4 fun t62=>za (fun K122=>gIf t62 true (fl w33 (s31.getD 0 undef) 165 1 3 fun t65=>bt .lss 3 t65 (i6 3) fun t66=>K122 [t66] w33) (K122 [undef] w33)) (fun s123 _d124 w125=>
 zb t62 (s123.getD 0 undef) fa_ fun t67=>lo w125 143 t2 fun t69=>fl w125 t3 92 2 89 fun t71=>ca yg #[t69,t71] w125 fun t72 w126=>
 pe t72 0 fun t73=>pe t72 1 fun t74=>pw w126 (Instr.alloc 83 true (.tuple #[])) fun t10 w127=>
 so w127 83 t10 t73 fun w128=>lo w128 143 t2 fun t76=>fl w128 t3 92 3 89 fun t78=>ca yg #[t76,t78] w128 fun t79 w129=>
 pe t79 0 fun t80=>pe t79 1 fun t81=>pw w129 (Instr.alloc 83 true (.tuple #[])) fun t12 w130=>
 so w130 83 t12 t80 fun w131=>pp (Instr.makeFunc (.func 101) #[] #[t3,t2]) fun t82=>fl w131 t3 92 0 86 fun t84=>bt .eql 86 t84 (Value.int .u8 1) fun t86=>zc t86 (lo w131 92 t3 fun t87=>pp (Instr.build 176 #[(0,tr_),(1,tr_)]) fun t88=>ca zI #[t87,t88] w131 fun t89 w132=>
 za (fun K133=>gIf t89 true (K133 [t67] w132) (K133 [undef] w132)) (fun s134 _d135 w136=>
 zb t89 (s134.getD 0 undef) fa_ fun t92=>za (fun K137=>gIf t92 true (K137 [t74] w136) (K137 [undef] w136)) (fun s138 _d139 w140=>
 zb t92 (s138.getD 0 undef) fa_ fun t95=>za (fun K141=>gIf t95 true (lo w140 83 t10 fun t97=>fl w140 (s31.getD 0 undef) 165 0 83 fun t99=>ca yH #[t97,t99] w140 fun t100 w145=>
 K141 [t100] w145) (K141 [undef] w140)) (fun s142 _d143 w144=>
 zb t95 (s142.getD 0 undef) fa_ fun t101=>K t101 w144)))) (bt .eql 86 t84 (Value.int .u8 2) fun t103=>zc t103 (lo w131 92 t3 fun t104=>pp (Instr.build 176 #[(0,tr_),(1,tr_),(2,tr_),(4,tr_)]) fun t105=>ca zI #[t104,t105] w131 fun t106 w146=>
 pp (Op.unary .not t106) fun t107=>za (fun K147=>gIf t107 false (pp (Op.unary .not t67) fun t110=>K147 [t110] w146) (K147 [undef] w146)) (fun s148 _d149 w150=>
 zb t107 tr_ (s148.getD 0 undef) fun t111=>za (fun K151=>gIf t111 false (pp (Op.unary .not t74) fun t114=>K151 [t114] w150) (K151 [undef] w150)) (fun s152 _d153 w154=>
 zb t111 tr_ (s152.getD 0 undef) fun t115=>za (fun K155=>gIf t115 false (pp (Op.unary .not t81) fun t118=>K155 [t118] w154) (K155 [undef] w154)) (fun s156 _d157 w158=>
 zb t115 tr_ (s156.getD 0 undef) fun t119=>zc t119 (K fa_ w158) (lo w158 83 t10 fun t121=>cv (Value.func (.func 100) #[] #[]) #[t121,(Value.int .u8 1)] w158 fun t122 w159=>
 za (fun K160=>gIf t122 true (lo w159 83 t12 fun t125=>cv (Value.func (.func 100) #[] #[]) #[t125,(Value.int .u8 1)] w159 fun t126 w164=>
 K160 [t126] w164) (K160 [undef] w159)) (fun s161 _d162 w163=>
 zb t122 (s161.getD 0 undef) fa_ fun t127=>fl w163 t3 92 5 9 fun t129=>za (fun K165=>
 bt .eql 9 t129 (Value.string { data:=#[43] }) fun t131=>zc t131 (K165 [t131] w163) (bt .eql 9 t129 (Value.string { data:=#[45] }) fun t132=>zc t132 (K165 [t132] w163) (bt .eql 9 t129 (Value.string { data:=#[42] }) fun t133=>zc t133 (K165 [t133] w163) (bt .eql 9 t129 (Value.string { data:=#[47] }) fun t134=>zc t134 (K165 [t134] w163) (bt .eql 9 t129 (Value.string { data:=#[37] }) fun t135=>K165 [t135] w163))))) (fun s166 _d167 w168=>
 zc (s166.getD 0 undef) (fl w168 (s31.getD 0 undef) 165 0 83 fun t138=>cv (Value.func (.func 100) #[] #[]) #[t138,(Value.int .u8 1)] w168 fun t139 w169=>
 za (fun K170=>gIf t139 true (K170 [t127] w169) (K170 [undef] w169)) (fun s171 _d172 w173=>
 zb t139 (s171.getD 0 undef) fa_ fun t142=>K t142 w173)) (za (fun K174=>
 bt .eql 9 t129 (Value.string { data:=#[60] }) fun t144=>zc t144 (K174 [t144] w168) (bt .eql 9 t129 (Value.string { data:=#[60,61] }) fun t145=>zc t145 (K174 [t145] w168) (bt .eql 9 t129 (Value.string { data:=#[62] }) fun t146=>zc t146 (K174 [t146] w168) (bt .eql 9 t129 (Value.string { data:=#[62,61] }) fun t147=>K174 [t147] w168)))) (fun s175 _d176 w177=>
 zc (s175.getD 0 undef) (fl w177 (s31.getD 0 undef) 165 0 83 fun t150=>cv (Value.func (.func 100) #[] #[]) #[t150,(Value.int .u8 2)] w177 fun t151 w178=>
 za (fun K179=>gIf t151 true (K179 [t127] w178) (K179 [undef] w178)) (fun s180 _d181 w182=>
 zb t151 (s180.getD 0 undef) fa_ fun t154=>K t154 w182)) (za (fun K183=>
 bt .eql 9 t129 (Value.string { data:=#[61,61] }) fun t156=>zc t156 (K183 [t156] w177) (bt .eql 9 t129 (Value.string { data:=#[33,61] }) fun t157=>K183 [t157] w177)) (fun s184 _d185 w186=>
 zc (s184.getD 0 undef) (fl w186 (s31.getD 0 undef) 165 0 83 fun t160=>cv (Value.func (.func 100) #[] #[]) #[t160,(Value.int .u8 2)] w186 fun t161 w187=>
 za (fun K188=>gIf t161 true (K188 [t127] w187) (K188 [undef] w187)) (fun s189 _d190 w191=>
 za (fun K192=>gIf (s189.getD 0 undef) false (lo w191 83 t10 fun t166=>cv (Value.func (.func 100) #[] #[]) #[t166,(Value.int .u8 2)] w191 fun t167 w196=>
 K192 [t167] w196) (K192 [undef] w191)) (fun s193 _d194 w195=>
 za (fun K197=>gIf (s193.getD 0 undef) true (lo w195 83 t12 fun t170=>cv (Value.func (.func 100) #[] #[]) #[t170,(Value.int .u8 2)] w195 fun t171 w201=>
 K197 [t171] w201) (K197 [undef] w195)) (fun s198 _d199 w200=>
 za (fun K202=>gIf (s189.getD 0 undef) false (zb (s193.getD 0 undef) (s198.getD 0 undef) fa_ fun t172=>K202 [t172] w200) (K202 [undef] w200)) (fun s203 _d204 w205=>
 za (fun K206=>gIf t161 true (zb (s189.getD 0 undef) tr_ (s203.getD 0 undef) fun t173=>K206 [t173] w205) (K206 [undef] w205)) (fun s207 _d208 w209=>
 zb t161 (s207.getD 0 undef) fa_ fun t174=>K t174 w209)))))) (K fa_ w186)))))))))))) (bt .eql 86 t84 (Value.int .u8 3) fun t176=>zc t176 (pw w131 (Instr.makeMap 177 none) fun t177 w210=>
 pu w210 (Instr.mapUpdate 177 t177 (Value.string { data:=#[45] }) (Value.int .u8 1)) fun w211=>pu w211 (Instr.mapUpdate 177 t177 (Value.string { data:=#[33] }) (Value.int .u8 2)) fun w212=>fl w212 t3 92 5 9 fun t180=>pq w212 (Instr.lookup 177 t177 t180 false) fun t181=>lo w212 92 t3 fun t182=>pp (Instr.build 176 #[(0,tr_),(1,tr_),(4,tr_)]) fun t183=>ca zI #[t182,t183] w212 fun t184 w213=>
 za (fun K214=>gIf t184 true (K214 [t67] w213) (K214 [undef] w213)) (fun s215 _d216 w217=>
 zb t184 (s215.getD 0 undef) fa_ fun t187=>za (fun K218=>gIf t187 true (K218 [t74] w217) (K218 [undef] w217)) (fun s219 _d220 w221=>
 zb t187 (s219.getD 0 undef) fa_ fun t190=>za (fun K222=>gIf t190 true (bt .neq 81 t181 (Value.int .u8 0) fun t193=>K222 [t193] w221) (K222 [undef] w221)) (fun s223 _d224 w225=>
 zb t190 (s223.getD 0 undef) fa_ fun t194=>za (fun K226=>gIf t194 true (fl w225 (s31.getD 0 undef) 165 0 83 fun t198=>cv (Value.func (.func 100) #[] #[]) #[t198,t181] w225 fun t200 w230=>
 K226 [t200] w230) (K226 [undef] w225)) (fun s227 _d228 w229=>
 zb t194 (s227.getD 0 undef) fa_ fun t201=>za (fun K231=>gIf t201 true (lo w229 83 t10 fun t204=>cv (Value.func (.func 100) #[] #[]) #[t204,t181] w229 fun t206 w235=>
 K231 [t206] w235) (K231 [undef] w229)) (fun s232 _d233 w234=>
 zb t201 (s232.getD 0 undef) fa_ fun t207=>K t207 w234)))))) (bt .eql 86 t84 (Value.int .u8 4) fun t209=>zc t209 (lo w131.drew 92 t3 fun t210=>pp (Instr.build 176 #[(0,tr_),(5,tr_),(6,tr_)]) fun t211=>ca zI #[t210,t211] w131.drew fun t212 w236=>
 za (fun K237=>gIf t212 true (K237 [t67] w236) (K237 [undef] w236)) (fun s238 _d239 w240=>
 zb t212 (s238.getD 0 undef) fa_ fun t215=>za (fun K241=>gIf t215 true (fl w240 (s31.getD 1 undef) 165 2 4 fun t218=>K241 [t218] w240) (K241 [undef] w240)) (fun s242 _d243 w244=>
 zb t215 (s242.getD 0 undef) fa_ fun t219=>za (fun K245=>gIf t219 true (fl w244 (s31.getD 0 undef) 165 0 83 fun t223=>cv (Value.func (.func 100) #[] #[]) #[t223,(Value.int .u8 4)] w244 fun t224 w249=>
 K245 [t224] w249) (K245 [undef] w244)) (fun s246 _d247 w248=>
 zb t219 (s246.getD 0 undef) fa_ fun t225=>za (fun K250=>gIf t225 true (pf 165 (s31.getD 0 undef) 0 fun t227=>fl w248 t227 83 1 4 fun t229=>fl w248 t3 92 7 4 fun t231=>bf .eql 4 t229 t231 fun t232=>K250 [t232] w248) (K250 [undef] w248)) (fun s251 _d252 w253=>
 zb t225 (s251.getD 0 undef) fa_ fun t233=>za (fun K254=>gIf t233 true (pf 165 (s31.getD 0 undef) 0 fun t235=>fl w253 t235 83 4 44 fun t237=>xl w253 44 t237 (i6 0) 83 fun t239=>fl w253 (s31.getD 1 undef) 165 0 83 fun t241=>ca yH #[t239,t241] w253 fun t242 w258=>
 K254 [t242] w258) (K254 [undef] w253)) (fun s255 _d256 w257=>
 zb t233 (s255.getD 0 undef) fa_ fun t243=>za (fun K259=>gIf t243 true (fl w257 t3 92 7 4 fun t246=>K259 [t246] w257) (K259 [undef] w257)) (fun s260 _d261 w262=>
 za (fun K263=>gIf (s260.getD 0 undef) true (fl w262 (s31.getD 1 undef) 165 1 3 fun t249=>bt .eql 3 t249 (i6 3) fun t250=>K263 [t250] w262) (K263 [undef] w262)) (fun s264 _d265 w266=>
 za (fun K267=>gIf t243 true (zb (s260.getD 0 undef) (s264.getD 0 undef) fa_ fun t251=>pp (Op.unary .not t251) fun t252=>K267 [t252] w266) (K267 [undef] w266)) (fun s268 _d269 w270=>
 zb t243 (s268.getD 0 undef) fa_ fun t253=>K t253 w270))))))))) (bt .eql 86 t84 (Value.int .u8 5) fun t255=>zc t255 (lo w131.drew 92 t3 fun t256=>pp (Instr.build 176 #[(0,tr_),(1,tr_)]) fun t257=>ca zI #[t256,t257] w131.drew fun t258 w271=>
 za (fun K272=>gIf t258 true (K272 [t67] w271) (K272 [undef] w271)) (fun s273 _d274 w275=>
 zb t258 (s273.getD 0 undef) fa_ fun t261=>za (fun K276=>gIf t261 true (K276 [t74] w275) (K276 [undef] w275)) (fun s277 _d278 w279=>
 zb t261 (s277.getD 0 undef) fa_ fun t264=>za (fun K280=>gIf t264 true (fl w279 (s31.getD 0 undef) 165 0 83 fun t268=>cv (Value.func (.func 100) #[] #[]) #[t268,(Value.int .u8 3)] w279 fun t269 w284=>
 K280 [t269] w284) (K280 [undef] w279)) (fun s281 _d282 w283=>
 zb t264 (s281.getD 0 undef) fa_ fun t270=>za (fun K285=>gIf t270 true (pf 165 (s31.getD 0 undef) 0 fun t272=>fl w283 t272 83 4 44 fun t274=>xl w283 44 t274 (i6 0) 83 fun t276=>lo w283 83 t10 fun t277=>ca yH #[t276,t277] w283 fun t278 w289=>
 K285 [t278] w289) (K285 [undef] w283)) (fun s286 _d287 w288=>
 zb t270 (s286.getD 0 undef) fa_ fun t279=>K t279 w288))))) (bt .eql 86 t84 (Value.int .u8 6) fun t281=>zc t281 (lo w131 92 t3 fun t282=>pp (Instr.build 176 #[(0,tr_),(3,tr_),(8,tr_)]) fun t283=>ca zI #[t282,t283] w131 fun t284 w290=>
 pp (Op.unary .not t284) fun t285=>za (fun K291=>gIf t285 false (pp (Op.unary .not t67) fun t288=>K291 [t288] w290) (K291 [undef] w290)) (fun s292 _d293 w294=>
 zb t285 tr_ (s292.getD 0 undef) fun t289=>za (fun K295=>gIf t289 false (fl w294 (s31.getD 0 undef) 165 0 83 fun t293=>cv (Value.func (.func 100) #[] #[]) #[t293,(Value.int .u8 5)] w294 fun t294 w299=>
 pp (Op.unary .not t294) fun t295=>K295 [t295] w299) (K295 [undef] w294)) (fun s296 _d297 w298=>
 zb t289 tr_ (s296.getD 0 undef) fun t296=>za (fun K300=>gIf t296 false (pf 165 (s31.getD 0 undef) 0 fun t298=>fl w298 t298 83 3 3 fun t300=>fl w298 t3 92 9 3 fun t302=>bf .neq 3 t300 t302 fun t303=>K300 [t303] w298) (K300 [undef] w298)) (fun s301 _d302 w303=>
 zb t296 tr_ (s301.getD 0 undef) fun t304=>zc t304 (K fa_ w303) (pf 143 t2 0 fun t306=>fl w303 t306 25 0 22 fun t308=>fl w303 (s31.getD 0 undef) 165 0 83 fun t310=>ca qX #[t308,t310] w303 fun t311 w304=>
 pe t311 0 fun t312=>pe t311 1 fun _t313=>cv t82 #[t312] w304 fun t316 w305=>
 K t316 w305))))) (bt .eql 86 t84 (Value.int .u8 7) fun t318=>zc t318 (lo w131 92 t3 fun t319=>pp (Instr.build 176 #[(0,tr_),(3,tr_),(7,tr_)]) fun t320=>ca zI #[t319,t320] w131 fun t321 w306=>
 pp (Op.unary .not t321) fun t322=>za (fun K307=>gIf t322 false (pp (Op.unary .not t67) fun t325=>K307 [t325] w306) (K307 [undef] w306)) (fun s308 _d309 w310=>
 zb t322 tr_ (s308.getD 0 undef) fun t326=>za (fun K311=>gIf t326 false (fl w310 t3 92 8 3 fun t329=>bt .lss 3 t329 (i6 0) fun t330=>K311 [t330] w310) (K311 [undef] w310)) (fun s312 _d313 w314=>
 zb t326 tr_ (s312.getD 0 undef) fun t331=>za (fun K315=>gIf t331 false (fl w314 t3 92 8 3 fun t334=>pf 143 t2 0 fun t335=>fl w314 t335 25 1 23 fun t337=>pp (Builtin.len_ #[23] 3 #[t337]) fun t338=>bf .geq 3 t334 t338 fun t339=>K315 [t339] w314) (K315 [undef] w314)) (fun s316 _d317 w318=>
 zb t331 tr_ (s316.getD 0 undef) fun t340=>zc t340 (K fa_ w318) (pf 143 t2 0 fun t341=>fl w318 t341 25 1 23 fun t343=>fl w318 t3 92 8 3 fun t345=>xl w318 23 t343 t345 48 fun t347=>pw w318 (Instr.alloc 48 true (.tuple #[])) fun t20 w319=>
 so w319 48 t20 t347 fun w320=>fl w320.drew (s31.getD 0 undef) 165 0 83 fun t349=>fl w320.drew t20 48 4 44 fun t351=>xl w320.drew 44 t351 (i6 0) 83 fun t353=>ca yH #[t349,t353] w320.drew fun t354 w321=>
 za (fun K322=>gIf t354 true (fl w321 t20 48 4 44 fun t358=>fl w321 t20 48 3 3 fun t360=>bt .add 3 t360 (i6 1) fun t361=>pp (Instr.sliceAt 44 t358 (some (i6 1)) (some t361) none) fun t362=>cv t82 #[t362] w321 fun t363 w326=>
 K322 [t363] w326) (K322 [undef] w321)) (fun s323 _d324 w325=>
 zb t354 (s323.getD 0 undef) fa_ fun t364=>K t364 w325)))))) (bt .eql 86 t84 (Value.int .u8 8) fun t366=>zc t366 (lo w131 92 t3 fun t367=>pp (Instr.build 176 #[(0,tr_)]) fun t368=>ca zI #[t367,t368] w131 fun t369 w327=>
 za (fun K328=>gIf t369 true (K328 [t67] w327) (K328 [undef] w327)) (fun s329 _d330 w331=>
 zb t369 (s329.getD 0 undef) fa_ fun t372=>za (fun K332=>gIf t372 true (fl w331 (s31.getD 0 undef) 165 0 83 fun t376=>cv (Value.func (.func 100) #[] #[]) #[t376,(Value.int .u8 1)] w331 fun t377 w336=>
 K332 [t377] w336) (K332 [undef] w331)) (fun s333 _d334 w335=>
 zb t372 (s333.getD 0 undef) fa_ fun t378=>K t378 w335))) (bt .eql 86 t84 (Value.int .u8 9) fun t380=>zc t380 (lo w131 92 t3 fun t381=>pp (Instr.build 176 #[(1,tr_)]) fun t382=>ca zI #[t381,t382] w131 fun t383 w337=>
 za (fun K338=>gIf t383 true (K338 [t74] w337) (K338 [undef] w337)) (fun s339 _d340 w341=>
 zb t383 (s339.getD 0 undef) fa_ fun t386=>za (fun K342=>gIf t386 true (lo w341 83 t10 fun t389=>cv (Value.func (.func 100) #[] #[]) #[t389,(Value.int .u8 1)] w341 fun t390 w346=>
 K342 [t390] w346) (K342 [undef] w341)) (fun s343 _d344 w345=>
 zb t386 (s343.getD 0 undef) fa_ fun t391=>K t391 w345))) (bt .eql 86 t84 (Value.int .u8 10) fun t393=>zc t393 (pf 143 t2 0 fun t395=>fl w131 t395 25 0 22 fun t397=>fl w131 (s31.getD 1 undef) 165 0 83 fun t399=>ca jG #[t397,t399] w131 fun t400 w347=>
 pe t400 0 fun t401=>pe t400 1 fun _t402=>lo w347 92 t3 fun t403=>pp (Instr.build 176 #[(5,tr_)]) fun t404=>ca zI #[t403,t404] w347 fun t405 w348=>
 za (fun K349=>gIf t405 true (fl w348 (s31.getD 1 undef) 165 2 4 fun t408=>K349 [t408] w348) (K349 [undef] w348)) (fun s350 _d351 w352=>
 zb t405 (s350.getD 0 undef) fa_ fun t409=>za (fun K353=>gIf t409 true (K353 [t401] w352) (K353 [undef] w352)) (fun s354 _d355 w356=>
 zb t409 (s354.getD 0 undef) fa_ fun t412=>za (fun K357=>gIf t412 true (fl w356 (s31.getD 1 undef) 165 1 3 fun t415=>bt .lss 3 t415 (i6 2) fun t416=>K357 [t416] w356) (K357 [undef] w356)) (fun s358 _d359 w360=>
 zb t412 (s358.getD 0 undef) fa_ fun t417=>K t417 w360)))) (bt .eql 86 t84 (Value.int .u8 11) fun t419=>zc t419 (lo w131 92 t3 fun t420=>pp (Instr.build 176 #[(5,tr_)]) fun t421=>ca zI #[t420,t421] w131 fun t422 w361=>
 za (fun K362=>gIf t422 true (fl w361 (s31.getD 1 undef) 165 2 4 fun t425=>K362 [t425] w361) (K362 [undef] w361)) (fun s363 _d364 w365=>
 zb t422 (s363.getD 0 undef) fa_ fun t426=>za (fun K366=>gIf t426 true (pf 92 t3 6 fun t428=>fl w365 t428 80 0 3 fun t430=>bt .gtr 3 t430 (i6 0) fun t431=>K366 [t431] w365) (K366 [undef] w365)) (fun s367 _d368 w369=>
 zb t426 (s367.getD 0 undef) fa_ fun t432=>za (fun K370=>gIf t432 true (pf 92 t3 6 fun t434=>fl w369 t434 80 1 78 fun t436=>pp (Builtin.len_ #[78] 3 #[t436]) fun t437=>bt .eql 3 t437 (i6 0) fun t438=>K370 [t438] w369) (K370 [undef] w369)) (fun s371 _d372 w373=>
 zb t432 (s371.getD 0 undef) fa_ fun t439=>K t439 w373)))) (bt .eql 86 t84 (Value.int .u8 12) fun t441=>zc t441 (lo w131 92 t3 fun t442=>pp (Instr.build 176 #[(1,tr_),(9,tr_)]) fun t443=>ca zI #[t442,t443] w131 fun t444 w374=>
 za (fun K375=>gIf t444 true (K375 [t74] w374) (K375 [undef] w374)) (fun s376 _d377 w378=>
 zb t444 (s376.getD 0 undef) fa_ fun t447=>za (fun K379=>gIf t447 true (lo w378 83 t10 fun t450=>cv (Value.func (.func 100) #[] #[]) #[t450,(Value.int .u8 2)] w378 fun t451 w383=>
 K379 [t451] w383) (K379 [undef] w378)) (fun s380 _d381 w382=>
 zb t447 (s380.getD 0 undef) fa_ fun t452=>za (fun K384=>gIf t452 true (fl w382 t3 92 11 3 fun t456=>cv t27 #[t456] w382 fun t457 w388=>
 K384 [t457] w388) (K384 [undef] w382)) (fun s385 _d386 w387=>
 zb t452 (s385.getD 0 undef) fa_ fun t458=>K t458 w387)))) (za (fun K389=>
 bt .eql 86 t84 (Value.int .u8 13) fun t460=>zc t460 (K389 [t460] w131) (bt .eql 86 t84 (Value.int .u8 14) fun t461=>K389 [t461] w131)) (fun s390 _d391 w392=>
 zc (s390.getD 0 undef) (lo w392 92 t3 fun t462=>pp (Instr.build 176 #[]) fun t463=>ca zI #[t462,t463] w392 fun t464 w393=>
 K t464 w393) (K fa_ w392)))))))))))))))))))))))
theorem Ya {t0 t1 : Value} {w : World} {K : VW} (h : qQ t0 t1 w K) : zd prog x7 #[t0,t1] w K:=
 okC false (.s (.r (rz 3 0 10)) (.s (.r (rz 6 0 2576)) (.s (.r (rz 2 0 0)) (.s (.s (.r (ra 4 0 4 (.grp 31 false (ri 4 4 4) [35] (.grp 35 true (ri 5 8 144) [40] (.grp 31 false (ri 1 13 0) [41] (ra 2 14 0 (.grp 43 false (ri 4 16 4) [47] (.grp 47 true (ri 3 20 4) [50] (.grp 43 false (ri 1 23 0) [51] (rz 1 24 0)))))))))) (.c (.s (.r (rz 1 0 0)) (.n)) (.n))) (.j [7,8] (.r (ra 3 0 17 (ra 3 4 17 (.alt 3 .u (.alt 7 .l (.alt 8 .u (rz 3 9 43) (ra 1 9 3 (ra 1 8 3 (rz 2 10 10)))) (.alt 8 .u (.alt 7 .l (rz 3 9 43) (ra 1 9 3 (ra 1 7 2 (rz 2 10 10)))) (ra 1 9 3 (.alt 7 .l (ra 1 8 3 (rz 2 10 10)) (ra 1 8 3 (ra 1 7 2 (rz 2 10 10))))))) (.alt 8 .u (.alt 3 .u (.alt 7 .l (rz 3 9 43) (ra 1 9 3 (ra 1 7 2 (rz 2 10 10)))) (ra 1 9 3 (ra 1 3 3 (ra 1 7 2 (rz 2 10 10))))) (ra 1 9 3 (.alt 3 .u (.alt 7 .l (ra 1 8 3 (rz 2 10 10)) (ra 1 8 3 (ra 1 7 2 (rz 2 10 10)))) (ra 1 8 3 (ra 1 3 3 (ra 1 7 2 (rz 2 10 10))))))))))) (.s (.r (ra 3 0 4 (.grp 63 true (ri 3 3 4) [66] (rz 2 6 0)))) (.s (.r (rz 10 0 163985)) (.s (.r (rz 10 0 163985)) (.s (.r (rz 1 0 0)) (.s (.r (rz 2 0 0)) (.s (.s (.r (rz 2 0 4)) (.b (.s (.r (rz 2 0 0)) (.c (.s (.r (ra 4 0 33 (.grp 90 true (ri 1 4 0) [91] (ra 2 5 0 (.grp 93 true (ri 1 7 0) [94] (ra 2 8 0 (.grp 96 true (ri 4 10 145) [100] (rz 2 14 0)))))))) (.n)) (.s (.r (rz 2 0 0)) (.c (.s (.s (.r (ra 5 0 33 (.grp 108 false (ri 2 5 0) [110] (ra 2 7 0 (.grp 112 false (ri 2 9 0) [114] (ra 2 11 0 (.grp 116 false (ri 2 13 0) [118] (rz 1 15 0)))))))) (.c (.s (.r (rz 1 0 0)) (.n)) (.n))) (.s (.r (ra 4 0 36 (.grp 123 true (ri 3 4 36) [126] (rz 2 7 0)))) (.s (.s (.r (rz 2 0 4)) (.b (.j [130] (.s (.r (rz 2 0 0)) (.c (.n) (.s (.r (rz 2 0 0)) (.c (.n) (.s (.r (rz 2 0 0)) (.c (.n) (.s (.r (rz 2 0 0)) (.c (.n) (.r (rz 2 0 0)))))))))) (.c (.s (.r (ra 5 0 144 (.grp 140 true (ri 1 5 0) [141] (rz 2 6 0)))) (.n)) (.j [143] (.s (.r (rz 2 0 0)) (.c (.n) (.s (.r (rz 2 0 0)) (.c (.n) (.s (.r (rz 2 0 0)) (.c (.n) (.r (rz 2 0 0)))))))) (.c (.s (.r (ra 5 0 144 (.grp 152 true (ri 1 5 0) [153] (rz 2 6 0)))) (.n)) (.j [155] (.s (.r (rz 2 0 0)) (.c (.n) (.r (rz 2 0 0)))) (.c (.s (.r (ra 5 0 144 (.grp 162 true (ri 2 5 0) [164] (.grp 164 false (ri 4 7 36) [168] (.grp 168 true (ri 3 11 36) [171] (.grp 164 false (ri 1 14 0) [172] (.grp 162 true (ri 1 15 0) [173] (rz 2 16 0)))))))) (.n)) (.n))))))))) (.s (.r (rz 1 0 0)) (.n))))) (.s (.r (rz 2 0 0)) (.c (.s (.r (rz 8 0 5162)) (.s (.r (ra 4 0 33 (.grp 185 true (ri 1 4 0) [186] (ra 2 5 0 (.grp 188 true (ri 1 7 0) [189] (ra 2 8 0 (.grp 191 true (ri 2 10 0) [193] (ra 2 12 0 (.grp 195 true (ri 5 14 528) [200] (ra 2 19 0 (.grp 202 true (ri 4 21 132) [206] (rz 2 25 0)))))))))))) (.n))) (.s (.r (rz 2 0 0)) (.c (.s (.r (ra 4 0 33 (.grp 213 true (ri 1 4 0) [214] (ra 2 5 0 (.grp 216 true (ri 2 7 4) [218] (ra 2 9 0 (.grp 220 true (ri 4 11 144) [224] (ra 2 15 0 (.grp 226 true (ri 6 17 272) [232] (ra 2 23 0 (.grp 234 true (ri 8 25 37136) [242] (ra 2 33 0 (.grp 244 true (ri 3 35 4) [247] (.grp 247 true (ri 3 38 4) [250] (.grp 244 true (ri 2 41 0) [252] (rz 2 43 0)))))))))))))))) (.n)) (.s (.r (rz 2 0 0)) (.c (.s (.r (ra 4 0 33 (.grp 259 true (ri 1 4 0) [260] (ra 2 5 0 (.grp 262 true (ri 1 7 0) [263] (ra 2 8 0 (.grp 265 true (ri 4 10 144) [269] (ra 2 14 0 (.grp 271 true (ri 7 16 9488) [278] (rz 2 23 0)))))))))) (.n)) (.s (.r (rz 2 0 0)) (.c (.s (.s (.r (ra 5 0 33 (.grp 286 false (ri 2 5 0) [288] (ra 2 7 0 (.grp 290 false (ri 5 9 144) [295] (ra 2 14 0 (.grp 297 false (ri 6 16 272) [303] (rz 1 22 0)))))))) (.c (.s (.r (rz 1 0 0)) (.n)) (.n))) (.s (.r (rz 11 0 2320)) (.s (.r (rz 4 0 32)) (.n)))) (.s (.r (rz 2 0 0)) (.c (.s (.s (.r (ra 5 0 33 (.grp 323 false (ri 2 5 0) [325] (ra 2 7 0 (.grp 327 false (ri 3 9 4) [330] (ra 2 12 0 (.grp 332 false (ri 7 14 260) [339] (rz 1 21 0)))))))) (.c (.s (.r (rz 1 0 0)) (.n)) (.n))) (.s (.r (rz 9 0 168208)) (.s (.r (ra 8 0 9284 (.grp 355 true (ri 8 8 33040) [363] (rz 2 16 0)))) (.n)))) (.s (.r (rz 2 0 0)) (.c (.s (.r (ra 4 0 33 (.grp 370 true (ri 1 4 0) [371] (ra 2 5 0 (.grp 373 true (ri 4 7 144) [377] (rz 2 11 0)))))) (.n)) (.s (.r (rz 2 0 0)) (.c (.s (.r (ra 4 0 33 (.grp 384 true (ri 1 4 0) [385] (ra 2 5 0 (.grp 387 true (ri 3 7 36) [390] (rz 2 10 0)))))) (.n)) (.s (.r (rz 2 0 0)) (.c (.s (.r (rz 11 0 2320)) (.s (.r (ra 4 0 33 (.grp 406 true (ri 2 4 4) [408] (ra 2 6 0 (.grp 410 true (ri 1 8 0) [411] (ra 2 9 0 (.grp 413 true (ri 3 11 4) [416] (rz 2 14 0)))))))) (.n))) (.s (.r (rz 2 0 0)) (.c (.s (.r (ra 4 0 33 (.grp 423 true (ri 2 4 4) [425] (ra 2 6 0 (.grp 427 true (ri 4 8 16) [431] (ra 2 12 0 (.grp 433 true (ri 5 14 16) [438] (rz 2 19 0)))))))) (.n)) (.s (.r (rz 2 0 0)) (.c (.s (.r (ra 4 0 33 (.grp 445 true (ri 1 4 0) [446] (ra 2 5 0 (.grp 448 true (ri 3 7 36) [451] (ra 2 10 0 (.grp 453 true (ri 4 12 144) [457] (rz 2 16 0)))))))) (.n)) (.j [459] (.s (.r (rz 2 0 0)) (.c (.n) (.r (rz 2 0 0)))) (.c (.s (.r (rz 4 0 33)) (.n)) (.n))))))))))))))))))))))))))))) (.s (.r (rz 1 0 0)) (.n))))))))))))) func76 rfl (by kernel_rfl) (by kernel_rfl) h
def ZO (t0 t1 t2 : Value) (w : World) (K : VW) : Prop:=
 lo w 3 t1 fun t6=>bf .lss 3 t0 t6 fun t7=>za (fun K1=>gIf t7 false (fl w t2 48 1 3 fun t11=>bf .geq 3 t0 t11 fun t12=>K1 [t12] w) (K1 [undef] w)) (fun s2 _d3 w4=>
 zb t7 tr_ (s2.getD 0 undef) fun t13=>K t13 w4)
theorem Jd {t0 t1 t2 : Value} {w : World} {K : VW} (h : ZO t0 t1 t2 w K) : zd prog JS #[t0,t1,t2] w K:=
 okC false (.s (.r (rz 1 0 0)) (.s (.r (ra 4 0 4 (.grp 8 false (ri 4 4 16) [12] (rz 2 8 0)))) (.n))) func95 rfl (by kernel_rfl) (by kernel_rfl) h
def vE (t0 : Value) (w : World) (K : VW) : Prop:=
 pw w (Instr.box 48 t0) fun t1 w1=>
 pw w1 (Instr.alloc 191 true (.tuple #[])) fun t3 w2=>
 pw w2 (Instr.alloc 191 true (.tuple #[])) fun t4 w3=>
 fl w3 t1 48 4 44 fun t12=>fl w3 t1 48 3 3 fun t14=>bt .add 3 t14 (i6 1) fun t15=>pp (Instr.sliceAt 44 t12 none (some t15) none) fun t16=>ca qG #[t16,t3] w3 fun _t17 w4=>
 fl w4 t1 48 2 43 fun t19=>pp (Builtin.len_ #[43] 3 #[t19]) fun t20=>zr [(i6 0)] w4 (fun s6 _d7 w8 K5=>
 bf .lss 3 (s6.getD 0 undef) t20 fun t22=>zc t22 (xl w8 43 t19 (s6.getD 0 undef) 195 fun t25=>pw w8 (Instr.alloc 195 true (.tuple #[])) fun t6 w9=>
 so w9 195 t6 t25 fun w10=>fl w10 t6 195 0 3 fun t27=>fl w10 t6 195 1 3 fun t29=>pp (Builtin.min_ #[3,3] 3 #[t27,t29]) fun t30=>bt .lss 3 t30 (i6 0) fun t31=>za (fun K11=>gIf t31 false (fl w10 t6 195 0 3 fun t34=>fl w10 t6 195 1 3 fun t36=>pp (Builtin.max_ #[3,3] 3 #[t34,t36]) fun t37=>fl w10 t1 48 1 3 fun t39=>bf .geq 3 t37 t39 fun t40=>K11 [t40] w10) (K11 [undef] w10)) (fun s12 _d13 w14=>
 zb t31 tr_ (s12.getD 0 undef) fun t41=>za (fun K15=>gIf t41 false (fl w14 t6 195 0 3 fun t44=>fl w14 t6 195 1 3 fun t46=>bf .eql 3 t44 t46 fun t47=>K15 [t47] w14) (K15 [undef] w14)) (fun s16 _d17 w18=>
 zb t41 tr_ (s16.getD 0 undef) fun t48=>zc t48 (K fa_ w18) (za (fun K19=>
 bt .gtr 3 (s6.getD 0 undef) (i6 0) fun t50=>zc t50 (fl w18 t1 48 2 43 fun t52=>bt .sub 3 (s6.getD 0 undef) (i6 1) fun t54=>xl w18 43 t52 t54 195 fun t56=>pw w18 (Instr.alloc 195 true (.tuple #[])) fun t7 w23=>
 so w23 195 t7 t56 fun w24=>fl w24 t7 195 0 3 fun t58=>fl w24 t6 195 0 3 fun t60=>bf .gtr 3 t58 t60 fun t61=>za (fun K25=>gIf t61 false (fl w24 t7 195 0 3 fun t64=>fl w24 t6 195 0 3 fun t66=>bf .eql 3 t64 t66 fun t67=>K25 [t67] w24) (K25 [undef] w24)) (fun s26 _d27 w28=>
 za (fun K29=>gIf (s26.getD 0 undef) true (fl w28 t7 195 1 3 fun t70=>fl w28 t6 195 1 3 fun t72=>bf .geq 3 t70 t72 fun t73=>K29 [t73] w28) (K29 [undef] w28)) (fun s30 _d31 w32=>
 za (fun K33=>gIf t61 false (zb (s26.getD 0 undef) (s30.getD 0 undef) fa_ fun t74=>K33 [t74] w32) (K33 [undef] w32)) (fun s34 _d35 w36=>
 zb t61 tr_ (s34.getD 0 undef) fun t75=>zc t75 (K fa_ w36) (K19 [] w36))))) (K19 [] w18)) (fun _s20 _d21 w22=>
 fl w22.drew t6 195 0 3 fun t77=>fl w22.drew t6 195 1 3 fun t79=>px 191 t4 t77 fun t80=>px 190 t80 t79 fun t81=>so w22.drew 4 t81 tr_ fun w37=>bt .add 3 (s6.getD 0 undef) (i6 1) fun t82=>K5 [t82] w37))))) (fl w8 t1 48 1 3 fun t84=>zr [(i6 0)] w8 (fun s39 _d40 w41 K38=>
 bf .lss 3 (s39.getD 0 undef) t84 fun t86=>zc t86 (fl w41 t1 48 1 3 fun t89=>zr [(i6 0)] w41 (fun s43 _d44 w45 K42=>
 bf .lss 3 (s43.getD 0 undef) t89 fun t91=>zc t91 (fl w45 t1 48 1 3 fun t94=>zr [(i6 0)] w45 (fun s47 _d48 w49 K46=>
 bf .lss 3 (s47.getD 0 undef) t94 fun t96=>zc t96 (px 191 t4 (s39.getD 0 undef) fun t100=>xl w49 190 t100 (s43.getD 0 undef) 4 fun t102=>za (fun K50=>gIf t102 true (px 191 t4 (s43.getD 0 undef) fun t106=>xl w49 190 t106 (s47.getD 0 undef) 4 fun t108=>K50 [t108] w49) (K50 [undef] w49)) (fun s51 _d52 w53=>
 zb t102 (s51.getD 0 undef) fa_ fun t109=>za (fun K54=>gIf t109 true (bf .neq 3 (s39.getD 0 undef) (s47.getD 0 undef) fun t113=>K54 [t113] w53) (K54 [undef] w53)) (fun s55 _d56 w57=>
 zb t109 (s55.getD 0 undef) fa_ fun t114=>za (fun K58=>gIf t114 true (px 191 t4 (s39.getD 0 undef) fun t118=>xl w57 190 t118 (s47.getD 0 undef) 4 fun t120=>pp (Op.unary .not t120) fun t121=>K58 [t121] w57) (K58 [undef] w57)) (fun s59 _d60 w61=>
 zb t114 (s59.getD 0 undef) fa_ fun t122=>zc t122 (K fa_ w61) (bt .add 3 (s47.getD 0 undef) (i6 1) fun t123=>K46 [t123] w61))))) (bf .neq 3 (s39.getD 0 undef) (s43.getD 0 undef) fun t126=>za (fun K62=>gIf t126 true (px 191 t3 (s39.getD 0 undef) fun t130=>xl w49 190 t130 (s43.getD 0 undef) 4 fun t132=>K62 [t132] w49) (K62 [undef] w49)) (fun s63 _d64 w65=>
 zb t126 (s63.getD 0 undef) fa_ fun t133=>za (fun K66=>gIf t133 true (px 191 t4 (s39.getD 0 undef) fun t137=>xl w65 190 t137 (s43.getD 0 undef) 4 fun t139=>pp (Op.unary .not t139) fun t140=>K66 [t140] w65) (K66 [undef] w65)) (fun s67 _d68 w69=>
 zb t133 (s67.getD 0 undef) fa_ fun t141=>zc t141 (K fa_ w69) (bt .add 3 (s43.getD 0 undef) (i6 1) fun t142=>K42 [t142] w69)))))) (bt .add 3 (s39.getD 0 undef) (i6 1) fun t143=>K38 [t143] w45))) (K tr_ w41))))
theorem XM {t0 : Value} {w : World} {K : VW} (h : vE t0 w K) : zd prog qd #[t0] w K:=
 okC false (.s (.r (rz 2 0 2)) (.s (.r (rz 2 0 10)) (.s (.r (rz 7 0 8260)) (.s (.s (.r (rz 4 0 4)) (.b (.lp [21] (.s (.r (rz 1 0 0)) (.s (.c (.n) (.n)) (.s (.b (.s (.r (rz 6 0 2192)) (.s (.s (.r (ra 7 0 68 (.grp 32 false (ri 8 7 4164) [40] (ra 2 15 0 (.grp 42 false (ri 5 17 68) [47] (rz 1 22 0)))))) (.c (.s (.r (rz 1 0 0)) (.n)) (.n))) (.j [] (.s (.r (rz 2 0 0)) (.c (.s (.r (rz 8 0 41988)) (.s (.r (ra 6 0 68 (.grp 62 false (ri 6 6 68) [68] (.grp 68 true (ri 5 12 68) [73] (.grp 62 false (ri 1 17 0) [74] (rz 1 18 0)))))) (.c (.s (.r (rz 1 0 0)) (.n)) (.n)))) (.n))) (.r (rz 7 0 8260)))))) (.r (rz 2 0 0)))))))) (.s (.s (.r (rz 3 0 4)) (.b (.lp [85] (.s (.r (rz 1 0 0)) (.s (.c (.n) (.n)) (.s (.b (.s (.r (rz 2 0 0)) (.s (.r (rz 3 0 4)) (.b (.lp [90] (.s (.r (rz 1 0 0)) (.s (.c (.n) (.n)) (.s (.b (.s (.r (rz 2 0 0)) (.s (.s (.r (rz 3 0 4)) (.b (.lp [95] (.s (.r (rz 1 0 0)) (.s (.c (.n) (.n)) (.s (.b (.s (.r (rz 2 0 0)) (.s (.r (ra 6 0 256 (.grp 103 true (ri 5 6 256) [108] (ra 2 11 0 (.grp 110 true (ri 3 13 0) [113] (ra 2 16 0 (.grp 115 true (ri 6 18 256) [121] (rz 1 24 0)))))))) (.c (.s (.r (rz 1 0 0)) (.n)) (.n))))) (.r (rz 2 0 0)))))))) (.s (.r (ra 4 0 0 (.grp 127 true (ri 5 4 256) [132] (ra 2 9 0 (.grp 134 true (ri 6 11 256) [140] (rz 1 17 0)))))) (.c (.s (.r (rz 1 0 0)) (.n)) (.n)))))) (.r (rz 2 0 0)))))))))) (.r (rz 2 0 0)))))))) (.s (.r (rz 1 0 0)) (.n))))))) func96 rfl (by kernel_rfl) (by kernel_rfl) h
def qm (t0 t1 : Value) (w : World) (K : VW) : Prop:=
 bt .geq 3 t0 (i6 0) fun t5=>za (fun K1=>gIf t5 true (lo w 3 t1 fun t8=>bf .lss 3 t0 t8 fun t9=>K1 [t9] w) (K1 [undef] w)) (fun s2 _d3 w4=>
 zb t5 (s2.getD 0 undef) fa_ fun t10=>K t10 w4)
theorem Zx {t0 t1 : Value} {w : World} {K : VW} (h : qm t0 t1 w K) : zd prog qi #[t0,t1] w K:=
 okC false (.s (.r (rz 1 0 0)) (.s (.r (ra 3 0 0 (.grp 6 true (ri 3 3 4) [9] (rz 2 6 0)))) (.n))) func97 rfl (by kernel_rfl) (by kernel_rfl) h
def qr (t0 t1 : Value) (w : World) (K : VW) : Prop:=
 pw w (Instr.box 143 t0) fun t2 w1=>
 pw w1 (Instr.box 89 t1) fun t3 w2=>
 pw w2 (Instr.alloc 83 true (.tuple #[])) fun t4 w3=>
 fl w3 t3 89 0 87 fun t9=>bt .eql 87 t9 (Value.int .u8 1) fun t11=>zc t11 (pp (Instr.build 83 #[(0,(Value.int .u8 1))]) fun t12=>fl w3 t3 89 2 80 fun t14=>ca yU #[t14] w3 fun t15 w4=>
 so w4 83 t4 t12 fun w5=>pq w5 (zf 83 t4) fun r6=>K (.tuple #[r6,t15]) w5) (bt .eql 87 t9 (Value.int .u8 2) fun t17=>zc t17 (pp (Instr.build 83 #[(0,(Value.int .u8 2))]) fun t18=>fl w3.drew t3 89 2 80 fun t20=>ca yU #[t20] w3.drew fun t21 w7=>
 za (fun K8=>gIf t21 true (fl w7 t3 89 1 2 fun t24=>bt .eql 2 t24 (i6 0) fun t25=>K8 [t25] w7) (K8 [undef] w7)) (fun s9 _d10 w11=>
 za (fun K12=>gIf (s9.getD 0 undef) false (pf 89 t3 1 fun t27=>K12 [t27] w11) (K12 [undef] w11)) (fun s13 _d14 w15=>
 ((za (fun K16=>gIf (s9.getD 0 undef) false (pw w15 (Instr.loadAt 2 (s13.getD 0 undef)) fun t28 w20=>
 bt .eql 2 t28 (i6 1) fun t29=>K16 [t29] w20) (K16 [undef] w15)) (fun s17 _d18 w19=>
 za (fun K21=>gIf t21 true (zb (s9.getD 0 undef) tr_ (s17.getD 0 undef) fun t30=>K21 [t30] w19) (K21 [undef] w19)) (fun s22 _d23 w24=>
 zb t21 (s22.getD 0 undef) fa_ fun t31=>so w24 83 t4 t18 fun w25=>pq w25 (zf 83 t4) fun r26=>K (.tuple #[r26,t31]) w25)))∧
 (so w15 83 t4 t18 fun w27=>za (fun K28=>gIf (s9.getD 0 undef) false (pw w27 (Instr.loadAt 2 (s13.getD 0 undef)) fun t28_33 w32=>
 bt .eql 2 t28_33 (i6 1) fun t29_34=>K28 [t29_34] w32) (K28 [undef] w27)) (fun s29 _d30 w31=>
 za (fun K35=>gIf t21 true (zb (s9.getD 0 undef) tr_ (s29.getD 0 undef) fun t30_39=>K35 [t30_39] w31) (K35 [undef] w31)) (fun s36 _d37 w38=>
 zb t21 (s36.getD 0 undef) fa_ fun t31_40=>pq w38 (zf 83 t4) fun r41=>K (.tuple #[r41,t31_40]) w38))))))) (lo w3 143 t2 fun t32=>fl w3 t3 89 2 80 fun t34=>ca zn #[t32,t34] w3 fun t35 w42=>
 pw w42 (Instr.alloc 165 true (.tuple #[])) fun t6 w43=>
 so w43 165 t6 t35 fun w44=>fl w44 t6 165 2 4 fun t37=>za (fun K45=>gIf t37 true (fl w44 t3 89 1 2 fun t40=>bt .eql 2 t40 (i6 0) fun t41=>K45 [t41] w44) (K45 [undef] w44)) (fun s46 _d47 w48=>
 zb t37 (s46.getD 0 undef) fa_ fun t42=>fl w48 t3 89 0 87 fun t44=>bt .eql 87 t44 (Value.int .u8 3) fun t46=>zc t46 (fl w48.drew t6 165 0 83 fun t48=>za (fun K49=>gIf t42 true (fl w48.drew t6 165 0 83 fun t52=>ca kB #[t52] w48.drew fun t53 w53=>
 Ext w48.drew w53∧
 K49 [t53] w53) (K49 [undef] w48.drew)) (fun s50 _d51 w52=>
 zb t42 (s50.getD 0 undef) fa_ fun t54=>so w52 83 t4 t48 fun w54=>pq w54 (zf 83 t4) fun r55=>K (.tuple #[r55,t54]) w54)) (bt .eql 87 t44 (Value.int .u8 4) fun t56=>zc t56 (fl w48.drew t6 165 0 83 fun t58=>za (fun K56=>gIf t42 true (fl w48.drew t6 165 0 83 fun t62=>ca kB #[t62] w48.drew fun t63 w60=>
 Ext w48.drew w60∧
 pp (Op.unary .not t63) fun t64=>K56 [t64] w60) (K56 [undef] w48.drew)) (fun s57 _d58 w59=>
 zb t42 (s57.getD 0 undef) fa_ fun t65=>za (fun K61=>gIf t65 true (pf 165 t6 1 fun t67=>K61 [t67] w59) (K61 [undef] w59)) (fun s62 _d63 w64=>
 ((za (fun K65=>gIf t65 true (pw w64 (Instr.loadAt 3 (s62.getD 0 undef)) fun t68 w69=>
 Ext w64 w69∧
 bt .lss 3 t68 (i6 2) fun t69=>K65 [t69] w69) (K65 [undef] w64)) (fun s66 _d67 w68=>
 zb t65 (s66.getD 0 undef) fa_ fun t70=>so w68 83 t4 t58 fun w70=>pq w70 (zf 83 t4) fun r71=>K (.tuple #[r71,t70]) w70))∧
 (so w64 83 t4 t58 fun w72=>za (fun K73=>gIf t65 true (pw w72 (Instr.loadAt 3 (s62.getD 0 undef)) fun t68_78 w77=>
 Ext w72 w77∧
 bt .lss 3 t68_78 (i6 2) fun t69_79=>K73 [t69_79] w77) (K73 [undef] w72)) (fun s74 _d75 w76=>
 zb t65 (s74.getD 0 undef) fa_ fun t70_80=>pq w76 (zf 83 t4) fun r81=>K (.tuple #[r81,t70_80]) w76)))))) (pp (Instr.build 83 #[]) fun t71=>so w48 83 t4 t71 fun w82=>pq w82 (zf 83 t4) fun r83=>K (.tuple #[r83,fa_]) w82)))))
theorem Zy {t0 t1 : Value} {w : World} {K : VW} (h : qr t0 t1 w K) : zd prog yg #[t0,t1] w K:=
 okC false (.s (.r (rz 4 0 42)) (.s (.s (.r (rz 2 0 4)) (.b (.s (.r (rz 2 0 0)) (.c (.s (.r (rz 6 0 656)) (.n)) (.s (.r (rz 2 0 0)) (.c (.s (.r (ra 5 0 144 (.grp 22 true (ri 4 5 4) [26] (.grp 26 false (ri 1 9 0) [27] (.bth (.grp 26 false (ri 2 10 2) [29] (.grp 22 true (ri 1 12 0) [30] (rz 3 13 8))) (ra 1 14 2 (.grp 26 false (ri 2 10 2) [29] (.grp 22 true (ri 1 12 0) [30] (ra 1 13 0 (rz 1 15 0)))))))))) (.n)) (.n))))))) (.s (.r (rz 6 0 2705)) (.s (.r (ra 3 0 4 (.grp 38 true (ri 3 3 4) [41] (rz 2 6 0)))) (.s (.s (.r (rz 2 0 4)) (.b (.s (.r (rz 2 0 0)) (.c (.s (.r (ra 4 0 4 (.grp 50 true (ri 3 4 52) [53] (rz 3 7 8)))) (.n)) (.s (.r (rz 2 0 0)) (.c (.s (.r (ra 4 0 4 (.grp 60 true (ri 4 4 52) [64] (ra 2 8 0 (.grp 66 true (ri 1 10 0) [67] (.bth (.grp 66 true (ri 2 11 3) [69] (rz 3 13 8)) (ra 1 14 2 (.grp 66 true (ri 2 11 3) [69] (ra 1 13 0 (rz 1 15 0)))))))))) (.n)) (.n))))))) (.s (.r (rz 3 0 8)) (.n))))))) func99 rfl (by kernel_rfl) (by kernel_rfl) h
def qu (t0 t1 : Value) (w : World) (K : VW) : Prop:=
 pw w (Instr.box 83 t0) fun t2 w1=>
 fl w1 t2 83 0 81 fun t6=>bf .eql 81 t6 t1 fun t8=>K t8 w1
theorem Zz {t0 t1 : Value} {w : World} {K : VW} (h : qu t0 t1 w K) : zd prog qj #[t0,t1] w K:=
 okC false (.s (.r (rz 2 0 2)) (.s (.r (rz 5 0 4)) (.n))) func100 rfl (by kernel_rfl) (by kernel_rfl) h
def qv (t0 t1 t2 : Value) (w : World) (K : VW) : Prop:=
 fl w t1 92 4 90 fun t6=>pp (Instr.makeFunc (.func 103) #[] #[t2]) fun t8=>ca zL #[t6,t0,t8] w fun t9 w1=>
 K t9 w1
theorem ZA {t0 t1 t2 : Value} {w : World} {K : VW} (h : qv t0 t1 t2 w K) : zd prog qk #[t0,t1,t2] w K:=
 okC false (.s (.r (rz 1 0 0)) (.s (.r (rz 6 0 516)) (.n))) func101 rfl (by kernel_rfl) (by kernel_rfl) h
def kM (t0 t1 t2 : Value) (w : World) (K : VW) : Prop:=
 pw w (Instr.box 89 t0) fun t3 w1=>
 pw w1 (Instr.box 83 t1) fun t4 w2=>
 lo w2 143 t2 fun t9=>lo w2 89 t3 fun t10=>ca yg #[t9,t10] w2 fun t11 w3=>
 pe t11 0 fun t12=>pe t11 1 fun t13=>pw w3 (Instr.alloc 83 true (.tuple #[])) fun t6 w4=>
 so w4 83 t6 t12 fun w5=>za (fun K6=>gIf t13 true (lo w5 83 t6 fun t16=>lo w5 83 t4 fun t17=>ca yH #[t16,t17] w5 fun t18 w10=>
 K6 [t18] w10) (K6 [undef] w5)) (fun s7 _d8 w9=>
 zb t13 (s7.getD 0 undef) fa_ fun t19=>K t19 w9)
theorem vF {t0 t1 t2 : Value} {w : World} {K : VW} (h : kM t0 t1 t2 w K) : zd prog kL #[t0,t1,t2] w K:=
 okC false (.s (.r (rz 3 0 10)) (.s (.r (rz 9 0 40997)) (.s (.r (ra 2 0 0 (.grp 15 true (ri 3 2 37) [18] (rz 2 5 0)))) (.n)))) func103 rfl (by kernel_rfl) (by kernel_rfl) h
def YX (t0 t1 : Value) (w : World) (K : VW) : Prop:=
 pw w (Instr.box 92 t0) fun t2 w1=>
 pw w1 (Instr.box 176 t1) fun t3 w2=>
 fl w2.drew t3 176 0 4 fun t8=>fl w2.drew t3 176 1 4 fun t15=>fl w2.drew t3 176 2 4 fun t23=>fl w2.drew t3 176 3 4 fun t31=>fl w2.drew t3 176 4 4 fun t39=>fl w2.drew t3 176 5 4 fun t46=>fl w2.drew t3 176 6 4 fun t53=>fl w2.drew t3 176 7 4 fun t60=>fl w2.drew t3 176 8 4 fun t67=>fl w2.drew t3 176 9 4 fun t74=>za (fun K3=>gIf t8 false (fl w2.drew t2 92 1 80 fun t11=>ca yU #[t11] w2.drew fun t12 w7=>
 Ext w2.drew w7∧
 K3 [t12] w7) (K3 [undef] w2.drew)) (fun s4 _d5 w6=>
 zb t8 tr_ (s4.getD 0 undef) fun t13=>za (fun K8=>gIf t15 false (fl w6 t2 92 2 89 fun t19=>cv (Value.func (.func 118) #[] #[]) #[t19] w6 fun t20 w12=>
 Ext w6 w12∧
 K8 [t20] w12) (K8 [undef] w6)) (fun s9 _d10 w11=>
 zb t15 tr_ (s9.getD 0 undef) fun t21=>za (fun K13=>gIf t23 false (fl w11 t2 92 3 89 fun t27=>cv (Value.func (.func 118) #[] #[]) #[t27] w11 fun t28 w17=>
 Ext w11 w17∧
 K13 [t28] w17) (K13 [undef] w11)) (fun s14 _d15 w16=>
 zb t23 tr_ (s14.getD 0 undef) fun t29=>za (fun K18=>gIf t31 false (fl w16 t2 92 4 90 fun t34=>pp (Builtin.len_ #[90] 3 #[t34]) fun t35=>bt .eql 3 t35 (i6 0) fun t36=>K18 [t36] w16) (K18 [undef] w16)) (fun s19 _d20 w21=>
 zb t31 tr_ (s19.getD 0 undef) fun t37=>za (fun K22=>gIf t39 false (fl w21 t2 92 5 9 fun t42=>bt .eql 9 t42 (Value.string { data:=#[] }) fun t43=>K22 [t43] w21) (K22 [undef] w21)) (fun s23 _d24 w25=>
 zb t39 tr_ (s23.getD 0 undef) fun t44=>za (fun K26=>gIf t46 false (fl w25 t2 92 6 80 fun t49=>ca yU #[t49] w25 fun t50 w30=>
 Ext w25 w30∧
 K26 [t50] w30) (K26 [undef] w25)) (fun s27 _d28 w29=>
 zb t46 tr_ (s27.getD 0 undef) fun t51=>za (fun K31=>gIf t53 false (fl w29 t2 92 7 4 fun t56=>pp (Op.unary .not t56) fun t57=>K31 [t57] w29) (K31 [undef] w29)) (fun s32 _d33 w34=>
 zb t53 tr_ (s32.getD 0 undef) fun t58=>za (fun K35=>gIf t60 false (fl w34 t2 92 8 3 fun t63=>bt .eql 3 t63 (i6 0) fun t64=>K35 [t64] w34) (K35 [undef] w34)) (fun s36 _d37 w38=>
 zb t60 tr_ (s36.getD 0 undef) fun t65=>za (fun K39=>gIf t67 false (fl w38 t2 92 9 3 fun t70=>bt .eql 3 t70 (i6 0) fun t71=>K39 [t71] w38) (K39 [undef] w38)) (fun s40 _d41 w42=>
 zb t67 tr_ (s40.getD 0 undef) fun t72=>za (fun K43=>gIf t74 false (fl w42 t2 92 11 3 fun t77=>bt .eql 3 t77 (i6 0) fun t78=>K43 [t78] w42) (K43 [undef] w42)) (fun s44 _d45 w46=>
 zb t74 tr_ (s44.getD 0 undef) fun t79=>pw w46 (Instr.buildSlice 62 10 #[(0,t13),(1,t21),(2,t29),(3,t37),(4,t44),(5,t51),(6,t58),(7,t65),(8,t72),(9,t79)]) fun t80 w47=>
 ca yC #[t80,fa_] w47 fun t82 w48=>
 pp (Op.unary .not t82) fun t83=>K t83 w48))))))))))
theorem V0 {t0 t1 : Value} {w : World} {K : VW} (h : YX t0 t1 w K) : zd prog zI #[t0,t1] w K:=
 okC false (.s (.r (rz 3 0 10)) (.s (.r (rz 1 0 0)) (.s (.r (ra 3 0 4 (ra 2 7 4 (ra 2 15 4 (ra 2 23 4 (ra 2 31 4 (ra 2 38 4 (ra 2 45 4 (ra 2 52 4 (ra 2 59 4 (ra 2 66 4 (.grp 9 false (ri 3 3 52) [12] (ra 1 6 0 (ra 1 9 0 (.grp 16 false (ri 4 10 208) [20] (ra 1 14 0 (ra 1 17 0 (.grp 24 false (ri 4 18 208) [28] (ra 1 22 0 (ra 1 25 0 (ra 1 33 0 (ra 1 40 0 (.grp 32 false (ri 4 26 4) [36] (ra 1 30 0 (.grp 40 false (ri 3 34 4) [43] (ra 1 37 0 (.grp 47 false (ri 3 41 52) [50] (ra 1 44 0 (ra 1 47 0 (ra 1 54 0 (ra 1 61 0 (ra 1 68 0 (.grp 54 false (ri 3 48 4) [57] (ra 1 51 0 (.grp 61 false (ri 3 55 4) [64] (ra 1 58 0 (.grp 68 false (ri 3 62 4) [71] (ra 1 65 0 (.grp 75 false (ri 3 69 4) [78] (rz 3 72 8)))))))))))))))))))))))))))))))))))))))) (.s (.r (rz 4 0 8)) (.n))))) func105 rfl (by kernel_rfl) (by kernel_rfl) h
def Zg (t0 t1 : Value) (w : World) (K : VW) : Prop:=
 pw w (Instr.box 193 t1) fun t3 w1=>
 pw w1 (Instr.alloc 95 true (.tuple #[])) fun t4 w2=>
 pp (Instr.makeFunc (.func 122) #[] #[t3,t4]) fun t7=>so w2 95 t4 t7 fun w3=>pp (Builtin.len_ #[44] 3 #[t0]) fun t9=>zr [(i6 0)] w3 (fun s5 _d6 w7 K4=>
 bf .lss 3 (s5.getD 0 undef) t9 fun t11=>zc t11 (xl w7 44 t0 (s5.getD 0 undef) 83 fun t13=>pw w7 (Instr.alloc 83 true (.tuple #[])) fun t6 w8=>
 so w8 83 t6 t13 fun w9=>lo w9.drew 95 t4 fun t14=>lo w9.drew 83 t6 fun t15=>ca ke #[t15] w9.drew fun t16 w10=>
 Ext w9.drew w10∧
 cv t14 #[t16] w10 fun _t17 w11=>
 bt .add 3 (s5.getD 0 undef) (i6 1) fun t18=>K4 [t18] w11) (K (.tuple #[]) w7))
theorem Qx {t0 t1 : Value} {w : World} {K : VW} (h : Zg t0 t1 w K) : zd prog qG #[t0,t1] w K:=
 okC false (.s (.r (rz 1 0 2)) (.s (.r (rz 1 0 2)) (.s (.r (rz 2 0 8)) (.s (.r (rz 3 0 0)) (.b (.lp [10] (.s (.r (rz 1 0 0)) (.s (.c (.n) (.n)) (.s (.b (.s (.r (rz 4 0 164)) (.r (rz 4 0 181)))) (.r (rz 2 0 0))))))))))) func113 rfl (by kernel_rfl) (by kernel_rfl) h
def YY (t0 : Value) (w : World) (K : VW) : Prop:=
 pw w (Instr.box 80 t0) fun t1 w1=>
 fl w1 t1 80 0 3 fun t4=>bt .eql 3 t4 (i6 0) fun t5=>za (fun K2=>gIf t5 true (fl w1 t1 80 1 78 fun t8=>pp (Builtin.len_ #[78] 3 #[t8]) fun t9=>bt .eql 3 t9 (i6 0) fun t10=>K2 [t10] w1) (K2 [undef] w1)) (fun s3 _d4 w5=>
 zb t5 (s3.getD 0 undef) fa_ fun t11=>K t11 w5)
theorem V1 {t0 : Value} {w : World} {K : VW} (h : YY t0 w K) : zd prog yU #[t0] w K:=
 okC false (.s (.r (rz 2 0 2)) (.s (.r (ra 4 0 4 (.grp 6 true (ri 4 4 4) [10] (rz 2 8 0)))) (.n))) func114 rfl (by kernel_rfl) (by kernel_rfl) h
def ZP (t0 : Value) (w : World) (K : VW) : Prop:=
 pw w (Instr.box 89 t0) fun t1 w1=>
 fl w1 t1 89 0 87 fun t4=>bt .eql 87 t4 (Value.int .u8 0) fun t5=>za (fun K2=>gIf t5 true (fl w1 t1 89 1 2 fun t8=>bt .eql 2 t8 (i6 0) fun t9=>K2 [t9] w1) (K2 [undef] w1)) (fun s3 _d4 w5=>
 zb t5 (s3.getD 0 undef) fa_ fun t10=>za (fun K6=>gIf t10 true (fl w5 t1 89 2 80 fun t13=>ca yU #[t13] w5 fun t14 w10=>
 K6 [t14] w10) (K6 [undef] w5)) (fun s7 _d8 w9=>
 zb t10 (s7.getD 0 undef) fa_ fun t15=>K t15 w9))
theorem Je {t0 : Value} {w : World} {K : VW} (h : ZP t0 w K) : zd prog ZN #[t0] w K:=
 okC false (.s (.r (rz 2 0 2)) (.s (.r (ra 4 0 4 (.grp 6 true (ri 3 4 4) [9] (ra 2 7 0 (.grp 11 true (ri 3 9 36) [14] (rz 2 12 0)))))) (.n))) func118 rfl (by kernel_rfl) (by kernel_rfl) h
def kP (t0 t1 t2 : Value) (w : World) (K : VW) : Prop:=
 pp (Builtin.len_ #[50] 3 #[t0]) fun t7=>bt .eql 3 t7 (i6 0) fun t8=>zc t8 (K (.tuple #[]) w) (pp (Instr.sliceAt 50 t0 (some (i6 1)) none none) fun t10=>pp (Builtin.len_ #[50] 3 #[t10]) fun t11=>zr [(i6 0)] w (fun s2 _d3 w4 K1=>
 bf .lss 3 (s2.getD 0 undef) t11 fun t13=>zc t13 (xl w4 50 t10 (s2.getD 0 undef) 3 fun t15=>lo w4.drew 193 t1 fun t16=>xl w4.drew 50 t0 (i6 0) 3 fun t20=>YP t16 fun t21=>px 191 t21 t15 fun t22=>px 190 t22 t20 fun t23=>so w4.drew 4 t23 tr_ fun w5=>bt .add 3 (s2.getD 0 undef) (i6 1) fun t24=>K1 [t24] w5) (lo w4.drew 95 t2 fun t25=>pp (Instr.sliceAt 50 t0 (some (i6 1)) none none) fun t27=>cv t25 #[t27] w4.drew fun _t28 w6=>
 K (.tuple #[]) w6)))
theorem jB {t0 t1 t2 : Value} {w : World} {K : VW} (h : kP t0 t1 t2 w K) : zd prog jT #[t0,t1,t2] w K:=
 okC false (.s (.s (.r (rz 3 0 0)) (.c (.n) (.n))) (.s (.s (.r (rz 4 0 0)) (.b (.lp [12] (.s (.r (rz 1 0 0)) (.s (.c (.n) (.n)) (.s (.b (.s (.r (rz 3 0 4)) (.r (rz 9 0 131329)))) (.r (rz 2 0 0)))))))) (.r (rz 4 0 129)))) func122 rfl (by kernel_rfl) (by kernel_rfl) h
end Go.Proofs.Tryz
end
section
namespace Go.Proofs.Tryz
open Go.Sh
set_option maxRecDepth 100000
def yq (t0 t1 : Value) (w : World) (K : VW) : Prop:=
 ca ye #[t0,t1] w fun t7 w1=>
 bt .geq 3 t7 (i6 0) fun t8=>K t8 w1
theorem xg {t0 t1 : Value} {w : World} {K : VW} (h : yq t0 t1 w K) : zd prog zG #[t0,t1] w K:=
 okC false (.s (.r (rz 1 0 0)) (.s (.r (rz 5 0 32)) (.n))) func22 rfl (by kernel_rfl) (by kernel_rfl) h
def yI (t0 t1 : Value) (w : World) (K : VW) : Prop:=
 pp (Builtin.len_ #[50] 3 #[t0]) fun t7=>zr [(i6 0)] w (fun s2 _d3 w4 K1=>
 bf .lss 3 (s2.getD 0 undef) t7 fun t9=>zc t9 (xl w4 50 t0 (s2.getD 0 undef) 3 fun t15=>cv t1 #[t15] w4 fun t16 w5=>
 zc t16 (K (s2.getD 0 undef) w5) (bt .add 3 (s2.getD 0 undef) (i6 1) fun t18=>K1 [t18] w5)) (K (i6 (-1)) w4))
theorem xD {t0 t1 : Value} {w : World} {K : VW} (h : yI t0 t1 w K) : zd prog ye #[t0,t1] w K:=
 okC false (.s (.r (rz 1 0 0)) (.s (.s (.r (rz 3 0 0)) (.b (.lp [8] (.s (.r (rz 1 0 0)) (.s (.c (.n) (.n)) (.s (.b (.s (.r (rz 2 0 0)) (.s (.r (rz 6 0 2304)) (.c (.s (.r (rz 2 0 0)) (.n)) (.n))))) (.r (rz 2 0 0)))))))) (.s (.r (rz 1 0 0)) (.n)))) func41 rfl (by kernel_rfl) (by kernel_rfl) h
def yl (t0 t1 : Value) (w : World) (K : VW) : Prop:=
 ca yu #[t0,t1] w fun t7 w1=>
 bt .geq 3 t7 (i6 0) fun t8=>K t8 w1
theorem xt {t0 t1 : Value} {w : World} {K : VW} (h : yl t0 t1 w K) : zd prog zE #[t0,t1] w K:=
 okC false (.s (.r (rz 1 0 0)) (.s (.r (rz 5 0 32)) (.n))) func84 rfl (by kernel_rfl) (by kernel_rfl) h
def zM (t0 t1 t2 : Value) (w : World) (K : VW) : Prop:=
 pp (Builtin.len_ #[90] 3 #[t0]) fun t11=>pp (Builtin.len_ #[44] 3 #[t1]) fun t13=>bf .neq 3 t11 t13 fun t14=>zc t14 (K fa_ w) (pp (Builtin.len_ #[90] 3 #[t0]) fun t16=>zr [(i6 0)] w (fun s2 _d3 w4 K1=>
 bf .lss 3 (s2.getD 0 undef) t16 fun t18=>zc t18 (xl w4 90 t0 (s2.getD 0 undef) 89 fun t21=>pw w4 (Instr.alloc 89 true (.tuple #[])) fun t8 w5=>
 so w5 89 t8 t21 fun w6=>xl w6 44 t1 (s2.getD 0 undef) 83 fun t25=>pw w6 (Instr.alloc 83 true (.tuple #[])) fun t9 w7=>
 so w7 83 t9 t25 fun w8=>lo w8 89 t8 fun t27=>lo w8 83 t9 fun t28=>cv t2 #[t27,t28] w8 fun t29 w9=>
 pp (Op.unary .not t29) fun t30=>zc t30 (K fa_ w9) (bt .add 3 (s2.getD 0 undef) (i6 1) fun t31=>K1 [t31] w9)) (K tr_ w4)))
theorem ym {t0 t1 t2 : Value} {w : World} {K : VW} (h : zM t0 t1 t2 w K) : zd prog zL #[t0,t1,t2] w K:=
 okC false (.s (.r (rz 1 0 0)) (.s (.s (.r (rz 5 0 0)) (.c (.s (.r (rz 1 0 0)) (.n)) (.n))) (.s (.s (.r (rz 3 0 0)) (.b (.lp [17] (.s (.r (rz 1 0 0)) (.s (.c (.n) (.n)) (.s (.b (.s (.r (rz 6 0 2192)) (.s (.r (rz 6 0 2624)) (.s (.r (rz 5 0 148)) (.c (.s (.r (rz 1 0 0)) (.n)) (.n)))))) (.r (rz 2 0 0)))))))) (.s (.r (rz 1 0 0)) (.n))))) func102 rfl (by kernel_rfl) (by kernel_rfl) h
def yv (t0 t1 : Value) (w : World) (K : VW) : Prop:=
 pp (Builtin.len_ #[40] 3 #[t0]) fun t7=>zr [(i6 0)] w (fun s2 _d3 w4 K1=>
 bf .lss 3 (s2.getD 0 undef) t7 fun t9=>zc t9 (xl w4 40 t0 (s2.getD 0 undef) 154 fun t15=>cv t1 #[t15] w4 fun t16 w5=>
 zc t16 (K (s2.getD 0 undef) w5) (bt .add 3 (s2.getD 0 undef) (i6 1) fun t18=>K1 [t18] w5)) (K (i6 (-1)) w4))
theorem xQ {t0 t1 : Value} {w : World} {K : VW} (h : yv t0 t1 w K) : zd prog yu #[t0,t1] w K:=
 okC false (.s (.r (rz 1 0 0)) (.s (.s (.r (rz 3 0 0)) (.b (.lp [8] (.s (.r (rz 1 0 0)) (.s (.c (.n) (.n)) (.s (.b (.s (.r (rz 2 0 0)) (.s (.r (rz 6 0 2304)) (.c (.s (.r (rz 2 0 0)) (.n)) (.n))))) (.r (rz 2 0 0)))))))) (.s (.r (rz 1 0 0)) (.n)))) func109 rfl (by kernel_rfl) (by kernel_rfl) h
def xE (t0 t1 : Value) (w : World) (K : VW) : Prop:=
 ca kt #[t0,t1] w fun t7 w1=>
 bt .geq 3 t7 (i6 0) fun t8=>K t8 w1
theorem qY {t0 t1 : Value} {w : World} {K : VW} (h : xE t0 t1 w K) : zd prog yC #[t0,t1] w K:=
 okC false (.s (.r (rz 1 0 0)) (.s (.r (rz 5 0 32)) (.n))) func119 rfl (by kernel_rfl) (by kernel_rfl) h
def ku (t0 t1 : Value) (w : World) (K : VW) : Prop:=
 pp (Builtin.len_ #[62] 3 #[t0]) fun t7=>zr [(i6 0)] w (fun s2 _d3 w4 K1=>
 bf .lss 3 (s2.getD 0 undef) t7 fun t9=>zc t9 (xl w4 62 t0 (s2.getD 0 undef) 4 fun t15=>bf .eql 4 t1 t15 fun t16=>zc t16 (K (s2.getD 0 undef) w4) (bt .add 3 (s2.getD 0 undef) (i6 1) fun t18=>K1 [t18] w4)) (K (i6 (-1)) w4))
theorem j5 {t0 t1 : Value} {w : World} {K : VW} (h : ku t0 t1 w K) : zd prog kt #[t0,t1] w K:=
 okC false (.s (.r (rz 1 0 0)) (.s (.s (.r (rz 3 0 0)) (.b (.lp [8] (.s (.r (rz 1 0 0)) (.s (.c (.n) (.n)) (.s (.b (.s (.r (rz 2 0 0)) (.s (.r (rz 6 0 256)) (.c (.s (.r (rz 2 0 0)) (.n)) (.n))))) (.r (rz 2 0 0)))))))) (.s (.r (rz 1 0 0)) (.n)))) func123 rfl (by kernel_rfl) (by kernel_rfl) h
end Go.Proofs.Tryz
end
section
namespace Go.Proofs.Tryz
open Go.Sh
set_option maxRecDepth 100000
def Zh (t0 : Value) (w : World) (K : VW) : Prop:=
 pw w (Instr.box 83 t0) fun t1 w1=>
 lo w1 83 t1 fun t3=>ca xX #[t3] w1 fun t4 w2=>
 pp (Op.unary .not t4) fun t5=>zc t5 (K (Value.slice Option.none 0 0) w2) (lo w2 83 t1 fun t6=>ca kg #[t6] w2 fun t7 w3=>
 K t7 w3)
theorem Qy {t0 : Value} {w : World} {K : VW} (h : Zh t0 w K) : zd prog ke #[t0] w K:=
 okC false (.s (.r (rz 2 0 2)) (.s (.s (.r (rz 3 0 9)) (.c (.s (.r (rz 1 0 0)) (.n)) (.n))) (.s (.r (rz 3 0 9)) (.n)))) func94 rfl (by kernel_rfl) (by kernel_rfl) h
def X5 (t0 : Value) (w : World) (K : VW) : Prop:=
 pw w (Instr.box 83 t0) fun t1 w1=>
 lo w1 83 t1 fun t3=>ca xr #[t3,(i6 32),(i6 48)] w1 fun t4 w2=>
 K t4 w2
theorem aaP {t0 : Value} {w : World} {K : VW} (h : X5 t0 w K) : zd prog xX #[t0] w K:=
 okC false (.s (.r (rz 2 0 2)) (.s (.r (rz 3 0 9)) (.n))) func112 rfl (by kernel_rfl) (by kernel_rfl) h
def X6 (t0 : Value) (w : World) (K : VW) : Prop:=
 pw w (Instr.box 83 t0) fun t1 w1=>
 pw w1 (Instr.alloc 83 true (.tuple #[])) fun t2 w2=>
 za (fun K3=>
 fl w2 t1 83 4 44 fun t4=>pp (Builtin.len_ #[44] 3 #[t4]) fun t5=>bt .gtr 3 t5 (i6 0) fun t6=>zc t6 (fl w2 t1 83 4 44 fun t8=>xl w2 44 t8 (i6 0) 83 fun t10=>ca jn #[t10] w2 fun t11 w7=>
 pw w7 (Instr.buildSlice 44 1 #[(0,t11)]) fun t12 w8=>
 pf 83 t1 4 fun t13=>so w8 44 t13 t12 fun w9=>K3 [] w9) (pf 83 t1 4 fun t14=>so w2 44 t14 (Value.slice Option.none 0 0) fun w10=>K3 [] w10)) (fun _s4 _d5 w6=>
 lo w6 83 t1 fun t15=>so w6 83 t2 t15 fun w11=>pq w11 (zf 83 t2) fun r12=>K r12 w11)
theorem aaQ {t0 : Value} {w : World} {K : VW} (h : X6 t0 w K) : zd prog jn #[t0] w K:=
 okC false (.s (.r (rz 2 0 10)) (.j [] (.s (.r (rz 4 0 4)) (.c (.r (rz 8 0 35396)) (.r (rz 2 0 8)))) (.s (.r (rz 2 0 9)) (.n)))) func120 rfl (by kernel_rfl) (by kernel_rfl) h
def Zi (t0 : Value) (w : World) (K : VW) : Prop:=
 pw w (Instr.box 83 t0) fun t1 w1=>
 pw w1 (Instr.alloc 50 true (.tuple #[])) fun t3 w2=>
 pp (Instr.makeFunc (.func 111) #[] #[t3]) fun t4=>ca qE #[t1,t4] w2 fun _t5 w3=>
 lo w3 50 t3 fun t6=>K t6 w3
theorem Qz {t0 : Value} {w : World} {K : VW} (h : Zi t0 w K) : zd prog kg #[t0] w K:=
 okC false (.s (.r (rz 2 0 2)) (.s (.r (rz 1 0 2)) (.s (.r (rz 2 0 8)) (.s (.r (rz 2 0 1)) (.n))))) func87 rfl (by kernel_rfl) (by kernel_rfl) h
def Zj (t0 : Value) (w : World) (K : VW) : Prop:=
 pw w (Instr.box 22 t0) fun t1 w1=>
 lo w1 22 t1 fun t9=>pp (Builtin.len_ #[22] 3 #[t9]) fun t10=>pw w1 (Instr.alloc 3 true (.tuple #[])) fun t4 w2=>
 so w2 3 t4 t10 fun w3=>lo w3 3 t4 fun t11=>bt .gtr 3 t11 (i6 32) fun t12=>zc t12 (K (.tuple #[(i6 32),(i6 2)]) w3) (pp (Instr.makeFunc (.func 83) #[] #[t1,t4]) fun t13=>pp (Instr.makeFunc (.func 88) #[] #[t1]) fun t14=>pp (Instr.makeFunc (.func 90) #[] #[t1]) fun t15=>pw w3 (Instr.buildSlice 160 3 #[(0,t13),(1,t14),(2,t15)]) fun t16 w4=>
 pp (Builtin.len_ #[160] 3 #[t16]) fun t18=>zr [(i6 0)] w4 (fun s6 _d7 w8 K5=>
 bf .lss 3 (s6.getD 0 undef) t18 fun t20=>zc t20 (xl w8 160 t16 (s6.getD 0 undef) 71 fun t22=>lo w8 3 t4 fun t23=>ca jF #[t23,t22] w8 fun t25 w9=>
 lo w9 3 t4 fun t27=>bf .lss 3 t25 t27 fun t28=>zc t28 (K (.tuple #[t25,(i6 2)]) w9) (bt .add 3 (s6.getD 0 undef) (i6 1) fun t30=>K5 [t30] w9)) (K (.tuple #[(i6 0),(i6 0)]) w8)))
theorem QA {t0 : Value} {w : World} {K : VW} (h : Zj t0 w K) : zd prog kh #[t0] w K:=
 okC false (.s (.r (rz 3 0 2)) (.s (.r (rz 4 0 161)) (.s (.s (.r (rz 2 0 1)) (.c (.s (.r (rz 2 0 0)) (.n)) (.n))) (.s (.r (rz 5 0 128)) (.s (.s (.r (rz 3 0 0)) (.b (.lp [19] (.s (.r (rz 1 0 0)) (.s (.c (.n) (.n)) (.s (.b (.s (.r (rz 3 0 4)) (.s (.r (rz 4 0 33)) (.s (.r (rz 3 0 4)) (.c (.s (.r (rz 3 0 0)) (.n)) (.n)))))) (.r (rz 2 0 0)))))))) (.s (.r (rz 2 0 0)) (.n))))))) func74 rfl (by kernel_rfl) (by kernel_rfl) h
def X7 (t0 t1 : Value) (w : World) (K : VW) : Prop:=
 pw w (Instr.box 83 t1) fun t3 w1=>
 ca kh #[t0] w1 fun t9 w2=>
 pe t9 0 fun _t10=>pe t9 1 fun t11=>bt .eql 32 t11 (i6 0) fun t13=>za (fun K3=>gIf t13 true (lo w2 83 t3 fun t15=>pp (Builtin.len_ #[22] 3 #[t0]) fun t17=>ca xr #[t15,t17,(i6 48)] w2 fun t18 w7=>
 K3 [t18] w7) (K3 [undef] w2)) (fun s4 _d5 w6=>
 zb t13 (s4.getD 0 undef) fa_ fun t19=>K t19 w6)
theorem aaR {t0 t1 : Value} {w : World} {K : VW} (h : X7 t0 t1 w K) : zd prog kU #[t0,t1] w K:=
 okC false (.s (.r (rz 2 0 2)) (.s (.r (rz 7 0 8)) (.s (.r (ra 3 0 0 (.grp 14 true (ri 4 3 129) [18] (rz 2 7 0)))) (.n)))) func93 rfl (by kernel_rfl) (by kernel_rfl) h
def YZ (t0 t1 : Value) (w : World) (K : VW) : Prop:=
 za (fun K1=>
 ff w t0 83 0 81 fun t7=>bt .eql 81 t7 (Value.int .u8 4) fun t8=>zc t8 (cv t1 #[t0] w fun _t11 w5=>
 K1 [] w5) (K1 [] w)) (fun _s2 _d3 w4=>
 ff w4 t0 83 4 44 fun t15=>pp (Builtin.len_ #[44] 3 #[t15]) fun t16=>bt .gtr 3 t16 (i6 0) fun t17=>zc t17 (ff w4 t0 83 4 44 fun t21=>px 44 t21 (i6 0) fun t22=>ca qE #[t22,t1] w4 fun _t24 w6=>
 K (.tuple #[]) w6) (K (.tuple #[]) w4))
theorem V2 {t0 t1 : Value} {w : World} {K : VW} (h : YZ t0 t1 w K) : zd prog qE #[t0,t1] w K:=
 okC false (.j [] (.s (.r (rz 5 0 64)) (.c (.r (rz 3 0 32)) (.n))) (.s (.r (rz 6 0 64)) (.c (.r (rz 7 0 8256)) (.n)))) func110 rfl (by kernel_rfl) (by kernel_rfl) h
def vG (t0 t1 t2 : Value) (w : World) (K : VW) : Prop:=
 pw w (Instr.box 83 t0) fun t3 w1=>
 bt .eql 3 t2 (i6 0) fun t10=>zc t10 (K fa_ w1) (fl w1 t3 83 4 44 fun t12=>pp (Builtin.len_ #[44] 3 #[t12]) fun t13=>bt .eql 3 t13 (i6 1) fun t14=>za (fun K2=>gIf t14 true (fl w1 t3 83 4 44 fun t17=>xl w1 44 t17 (i6 0) 83 fun t19=>bt .sub 3 t2 (i6 1) fun t22=>ca xr #[t19,t1,t22] w1 fun t23 w6=>
 K2 [t23] w6) (K2 [undef] w1)) (fun s3 _d4 w5=>
 zb t14 (s3.getD 0 undef) fa_ fun t24=>fl w5 t3 83 1 4 fun t26=>pp (Op.unary .not t26) fun t27=>za (fun K7=>gIf t27 true (fl w5 t3 83 2 3 fun t30=>bt .eql 3 t30 (i6 0) fun t31=>K7 [t31] w5) (K7 [undef] w5)) (fun s8 _d9 w10=>
 zb t27 (s8.getD 0 undef) fa_ fun t32=>fl w10 t3 83 0 81 fun t34=>za (fun K11=>
 bt .eql 81 t34 (Value.int .u8 1) fun t36=>zc t36 (K11 [t36] w10) (bt .eql 81 t34 (Value.int .u8 2) fun t37=>K11 [t37] w10)) (fun s12 _d13 w14=>
 zc (s12.getD 0 undef) (za (fun K15=>gIf t32 true (fl w14 t3 83 3 3 fun t41=>bt .eql 3 t41 (i6 0) fun t42=>K15 [t42] w14) (K15 [undef] w14)) (fun s16 _d17 w18=>
 zb t32 (s16.getD 0 undef) fa_ fun t43=>za (fun K19=>gIf t43 true (fl w18 t3 83 4 44 fun t46=>pp (Builtin.len_ #[44] 3 #[t46]) fun t47=>bt .eql 3 t47 (i6 0) fun t48=>K19 [t48] w18) (K19 [undef] w18)) (fun s20 _d21 w22=>
 zb t43 (s20.getD 0 undef) fa_ fun t49=>K t49 w22))) (bt .eql 81 t34 (Value.int .u8 5) fun t51=>zc t51 (za (fun K23=>gIf t32 true (fl w14 t3 83 4 44 fun t55=>pp (Builtin.len_ #[44] 3 #[t55]) fun t56=>bt .eql 3 t56 (i6 0) fun t57=>K23 [t57] w14) (K23 [undef] w14)) (fun s24 _d25 w26=>
 zb t32 (s24.getD 0 undef) fa_ fun t58=>za (fun K27=>gIf t58 true (fl w26 t3 83 3 3 fun t61=>bt .geq 3 t61 (i6 0) fun t62=>K27 [t62] w26) (K27 [undef] w26)) (fun s28 _d29 w30=>
 zb t58 (s28.getD 0 undef) fa_ fun t63=>za (fun K31=>gIf t63 true (fl w30 t3 83 3 3 fun t66=>bf .lss 3 t66 t1 fun t68=>K31 [t68] w30) (K31 [undef] w30)) (fun s32 _d33 w34=>
 zb t63 (s32.getD 0 undef) fa_ fun t69=>K t69 w34)))) (bt .eql 81 t34 (Value.int .u8 3) fun t71=>zc t71 (za (fun K35=>gIf t32 true (fl w14 t3 83 3 3 fun t75=>bt .eql 3 t75 (i6 0) fun t76=>K35 [t76] w14) (K35 [undef] w14)) (fun s36 _d37 w38=>
 zb t32 (s36.getD 0 undef) fa_ fun t77=>za (fun K39=>gIf t77 true (K39 [t24] w38) (K39 [undef] w38)) (fun s40 _d41 w42=>
 zb t77 (s40.getD 0 undef) fa_ fun t80=>K t80 w42))) (bt .eql 81 t34 (Value.int .u8 4) fun t82=>zc t82 (fl w14 t3 83 2 3 fun t84=>bt .geq 3 t84 (i6 (-1)) fun t85=>za (fun K43=>gIf t85 true (fl w14 t3 83 3 3 fun t88=>bt .eql 3 t88 (i6 0) fun t89=>K43 [t89] w14) (K43 [undef] w14)) (fun s44 _d45 w46=>
 zb t85 (s44.getD 0 undef) fa_ fun t90=>za (fun K47=>gIf t90 true (K47 [t24] w46) (K47 [undef] w46)) (fun s48 _d49 w50=>
 zb t90 (s48.getD 0 undef) fa_ fun t93=>K t93 w50))) (K fa_ w14))))))))
theorem Yw {t0 t1 t2 : Value} {w : World} {K : VW} (h : vG t0 t1 t2 w K) : zd prog xr #[t0,t1,t2] w K:=
 okC false (.s (.r (rz 2 0 2)) (.s (.s (.r (rz 2 0 0)) (.c (.s (.r (rz 1 0 0)) (.n)) (.n))) (.s (.r (ra 5 0 4 (.grp 15 true (ri 8 5 32836) [23] (rz 2 13 0)))) (.s (.r (ra 4 0 4 (.grp 28 true (ri 3 4 4) [31] (rz 2 7 0)))) (.s (.s (.r (rz 2 0 4)) (.b (.j [35] (.s (.r (rz 2 0 0)) (.c (.n) (.r (rz 2 0 0)))) (.c (.s (.r (ra 2 0 0 (.grp 39 true (ri 3 2 4) [42] (ra 2 5 0 (.grp 44 true (ri 4 7 4) [48] (rz 2 11 0)))))) (.n)) (.s (.r (rz 2 0 0)) (.c (.s (.r (ra 2 0 0 (.grp 53 true (ri 4 2 4) [57] (ra 2 6 0 (.grp 59 true (ri 3 8 4) [62] (ra 2 11 0 (.grp 64 true (ri 4 13 4) [68] (rz 2 17 0)))))))) (.n)) (.s (.r (rz 2 0 0)) (.c (.s (.r (ra 2 0 0 (.grp 73 true (ri 3 2 4) [76] (ra 2 5 0 (.grp 78 true (ri 1 7 0) [79] (rz 2 8 0)))))) (.n)) (.s (.r (rz 2 0 0)) (.c (.s (.r (ra 4 0 4 (.grp 86 true (ri 3 4 4) [89] (ra 2 7 0 (.grp 91 true (ri 1 9 0) [92] (rz 2 10 0)))))) (.n)) (.n))))))))))) (.s (.r (rz 1 0 0)) (.n))))))) func86 rfl (by kernel_rfl) (by kernel_rfl) h
def jU (t0 t1 : Value) (w : World) (K : VW) : Prop:=
 lo w.drew 50 t1 fun t3=>ff w.drew t0 83 2 3 fun t7=>pw w.drew (Instr.buildSlice 50 1 #[(0,t7)]) fun t8 w1=>
 Ext w.drew w1∧
 pw w1 (Builtin.append_ #[50,50] 50 #[t3,t8]) fun t9 w2=>
 so w2 50 t1 t9 fun w3=>K (.tuple #[]) w3
theorem Y0 {t0 t1 : Value} {w : World} {K : VW} (h : jU t0 t1 w K) : zd prog kN #[t0,t1] w K:=
 okC false (.r (rz 8 0 44289)) func111 rfl (by kernel_rfl) (by kernel_rfl) h
def jV (t0 t1 t2 : Value) (w : World) (K : VW) : Prop:=
 lo w 22 t1 fun t6=>px 22 t6 t0 fun t8=>fl w t8 42 1 40 fun t10=>pp (Builtin.len_ #[40] 3 #[t10]) fun t12=>bt .lss 3 t12 (i6 1) fun t13=>za (fun K1=>gIf t13 false (pp (Builtin.len_ #[40] 3 #[t10]) fun t16=>bt .gtr 3 t16 (i6 8) fun t17=>K1 [t17] w) (K1 [undef] w)) (fun s2 _d3 w4=>
 zb t13 tr_ (s2.getD 0 undef) fun t18=>za (fun K5=>gIf t18 false (pp (Instr.makeFunc (.func 85) #[] #[t2]) fun t21=>ca zE #[t10,t21] w4 fun t22 w9=>
 K5 [t22] w9) (K5 [undef] w4)) (fun s6 _d7 w8=>
 zb t18 tr_ (s6.getD 0 undef) fun t23=>K t23 w8))
theorem Y1 {t0 t1 t2 : Value} {w : World} {K : VW} (h : jV t0 t1 t2 w K) : zd prog xk #[t0,t1,t2] w K:=
 okC false (.s (.r (rz 1 0 0)) (.s (.r (rz 6 0 257)) (.s (.r (ra 4 0 0 (.grp 14 false (ri 3 4 0) [17] (ra 2 7 0 (.grp 19 false (ri 3 9 32) [22] (rz 2 12 0)))))) (.n)))) func83 rfl (by kernel_rfl) (by kernel_rfl) h
def qR (t0 t1 : Value) (w : World) (K : VW) : Prop:=
 pw w (Instr.box 154 t0) fun t2 w1=>
 fl w1 t2 154 1 83 fun t5=>lo w1 3 t1 fun t6=>ca xr #[t5,t6,(i6 48)] w1 fun t7 w2=>
 pp (Op.unary .not t7) fun t8=>za (fun K3=>gIf t8 false (fl w2 t2 154 1 83 fun t11=>ca kg #[t11] w2 fun t12 w7=>
 pp (Builtin.len_ #[50] 3 #[t12]) fun t13=>bt .gtr 3 t13 (i6 0) fun t14=>K3 [t14] w7) (K3 [undef] w2)) (fun s4 _d5 w6=>
 zb t8 tr_ (s4.getD 0 undef) fun t15=>K t15 w6)
theorem Yb {t0 t1 : Value} {w : World} {K : VW} (h : qR t0 t1 w K) : zd prog YI #[t0,t1] w K:=
 okC false (.s (.r (rz 2 0 2)) (.s (.r (ra 6 0 148 (.grp 9 false (ri 5 6 36) [14] (rz 2 11 0)))) (.n))) func85 rfl (by kernel_rfl) (by kernel_rfl) h
def jW (t0 t1 : Value) (w : World) (K : VW) : Prop:=
 lo w 22 t1 fun t4=>ca qF #[t4,t0] w fun t6 w1=>
 K t6 w1
theorem Y2 {t0 t1 : Value} {w : World} {K : VW} (h : jW t0 t1 w K) : zd prog xm #[t0,t1] w K:=
 okC false (.s (.r (rz 1 0 0)) (.s (.r (rz 4 0 33)) (.n))) func88 rfl (by kernel_rfl) (by kernel_rfl) h
def Zk (t0 t1 : Value) (w : World) (K : VW) : Prop:=
 pw w (Instr.alloc 188 true (.tuple #[])) fun t5 w1=>
 pw w1 (Instr.buildSlice 50 1 #[(0,t1)]) fun t11 w2=>
 zr [t11] w2 (fun s4 _d5 w6 K3=>
 pp (Builtin.len_ #[50] 3 #[(s4.getD 0 undef)]) fun t13=>bt .gtr 3 t13 (i6 0) fun t14=>zc t14 (xl w6 50 (s4.getD 0 undef) (i6 0) 3 fun t17=>pp (Instr.sliceAt 50 (s4.getD 0 undef) (some (i6 1)) none none) fun t19=>px 22 t0 t17 fun t22=>fl w6 t22 42 1 40 fun t24=>pp (Builtin.len_ #[40] 3 #[t24]) fun t25=>zr [t19,(i6 0)] w6 (fun s8 _d9 w10 K7=>
 bf .lss 3 (s8.getD 1 undef) t25 fun t27=>zc t27 (za (fun K11=>
 xl w10 40 t24 (s8.getD 1 undef) 154 fun t29=>pw w10 (Instr.alloc 154 true (.tuple #[])) fun t9 w15=>
 so w15 154 t9 t29 fun w16=>pf 154 t9 1 fun t30=>fl w16 t30 83 0 81 fun t32=>bt .neq 81 t32 (Value.int .u8 5) fun t33=>za (fun K17=>gIf t33 false (pf 154 t9 1 fun t35=>fl w16 t35 83 3 3 fun t37=>xl w16 188 t5 t37 4 fun t39=>K17 [t39] w16) (K17 [undef] w16)) (fun s18 _d19 w20=>
 zb t33 tr_ (s18.getD 0 undef) fun t40=>zc t40 (K11 [(s8.getD 0 undef)] w20) (pf 154 t9 1 fun t41=>fl w20 t41 83 3 3 fun t43=>px 188 t5 t43 fun t44=>so w20 4 t44 tr_ fun w21=>pf 154 t9 1 fun t46=>fl w21 t46 83 3 3 fun t48=>pw w21 (Instr.buildSlice 50 1 #[(0,t48)]) fun t49 w22=>
 pw w22 (Builtin.append_ #[50,50] 50 #[(s8.getD 0 undef),t49]) fun t50 w23=>
 K11 [t50] w23))) (fun s12 _d13 w14=>
 bt .add 3 (s8.getD 1 undef) (i6 1) fun t51=>K7 [(s12.getD 0 undef),t51] w14)) (K3 [(s8.getD 0 undef)] w10))) (xl w6 188 t5 t1 4 fun t54=>K t54 w6))
theorem QB {t0 t1 : Value} {w : World} {K : VW} (h : Zk t0 t1 w K) : zd prog qF #[t0,t1] w K:=
 okC false (.s (.r (rz 1 0 0)) (.s (.r (rz 1 0 2)) (.s (.r (rz 3 0 8)) (.s (.b (.lp [6] (.s (.s (.r (rz 3 0 0)) (.c (.n) (.n))) (.b (.s (.r (rz 4 0 16)) (.s (.r (rz 3 0 0)) (.s (.r (rz 7 0 256)) (.b (.lp [6,26] (.s (.r (rz 1 0 0)) (.s (.c (.n) (.n)) (.j [6] (.b (.s (.r (rz 4 0 164)) (.s (.s (.r (ra 5 0 16 (.grp 34 false (ri 5 5 272) [39] (rz 1 10 0)))) (.c (.n) (.n))) (.s (.r (rz 5 0 528)) (.r (rz 7 0 2624)))))) (.r (rz 2 0 0)))))))))))))) (.s (.r (rz 4 0 16)) (.n)))))) func89 rfl (by kernel_rfl) (by kernel_rfl) h
def jX (t0 t1 : Value) (w : World) (K : VW) : Prop:=
 lo w 22 t1 fun t4=>pp (Instr.build 83 #[(0,(Value.int .u8 5)),(3,t0)]) fun t6=>ca k6 #[t4,t6] w fun t7 w1=>
 bt .gtr 3 t7 (i6 16) fun t8=>K t8 w1
theorem Y3 {t0 t1 : Value} {w : World} {K : VW} (h : jX t0 t1 w K) : zd prog xn #[t0,t1] w K:=
 okC false (.s (.r (rz 1 0 0)) (.s (.r (rz 6 0 129)) (.n))) func90 rfl (by kernel_rfl) (by kernel_rfl) h
def jI (t0 t1 : Value) (w : World) (K : VW) : Prop:=
 pw w (Instr.box 83 t1) fun t3 w1=>
 fl w1 t3 83 0 81 fun t9=>bt .neq 81 t9 (Value.int .u8 5) fun t10=>zc t10 (K (i6 1) w1) (fl w1 t3 83 3 3 fun t13=>px 22 t0 t13 fun t14=>fl w1 t14 42 1 40 fun t16=>pp (Builtin.len_ #[40] 3 #[t16]) fun t17=>zr [(i6 0),(i6 0)] w1 (fun s3 _d4 w5 K2=>
 bf .lss 3 (s3.getD 1 undef) t17 fun t19=>zc t19 (xl w5 40 t16 (s3.getD 1 undef) 154 fun t21=>pw w5 (Instr.alloc 154 true (.tuple #[])) fun t7 w6=>
 so w6 154 t7 t21 fun w7=>fl w7 t7 154 1 83 fun t25=>ca k6 #[t0,t25] w7 fun t26 w8=>
 bf .add 3 (s3.getD 0 undef) t26 fun t27=>bt .gtr 3 t27 (i6 16) fun t29=>zc t29 (K (i6 17) w8) (bt .add 3 (s3.getD 1 undef) (i6 1) fun t30=>K2 [t27,t30] w8)) (K (s3.getD 0 undef) w5)))
theorem ZQ {t0 t1 : Value} {w : World} {K : VW} (h : jI t0 t1 w K) : zd prog k6 #[t0,t1] w K:=
 okC false (.s (.r (rz 2 0 2)) (.s (.s (.r (rz 3 0 4)) (.c (.s (.r (rz 1 0 0)) (.n)) (.n))) (.s (.r (rz 1 0 0)) (.s (.s (.r (rz 8 0 1040)) (.b (.lp [5,18] (.s (.r (rz 1 0 0)) (.s (.c (.n) (.n)) (.s (.b (.s (.r (rz 4 0 164)) (.s (.r (rz 7 0 576)) (.s (.r (rz 2 0 0)) (.c (.s (.r (rz 1 0 0)) (.n)) (.n)))))) (.r (rz 2 0 0)))))))) (.s (.r (rz 2 0 0)) (.n)))))) func91 rfl (by kernel_rfl) (by kernel_rfl) h
def Yx (t0 t1 : Value) (w : World) (K : VW) : Prop:=
 zr [(i6 0)] w (fun s2 _d3 w4 K1=>
 bf .lss 3 (s2.getD 0 undef) t0 fun t8=>zc t8 (cv t1 #[(s2.getD 0 undef)] w4 fun t12 w5=>
 zc t12 (K (s2.getD 0 undef) w5) (bt .add 3 (s2.getD 0 undef) (i6 1) fun t14=>K1 [t14] w5)) (K t0 w4))
theorem JU {t0 t1 : Value} {w : World} {K : VW} (h : Yx t0 t1 w K) : zd prog jF #[t0,t1] w K:=
 okC false (.s (.r (rz 1 0 0)) (.s (.s (.r (rz 2 0 0)) (.b (.lp [7] (.s (.r (rz 1 0 0)) (.s (.c (.n) (.n)) (.s (.b (.s (.r (rz 2 0 0)) (.s (.r (rz 3 0 32)) (.c (.s (.r (rz 2 0 0)) (.n)) (.n))))) (.r (rz 2 0 0)))))))) (.s (.r (rz 2 0 0)) (.n)))) func92 rfl (by kernel_rfl) (by kernel_rfl) h
def Yy (t0 t1 : Value) (w : World) (K : VW) : Prop:=
 pw w (Instr.box 83 t0) fun t2 w1=>
 pw w1 (Instr.box 83 t1) fun t3 w2=>
 lo w2 83 t2 fun t5=>ca xX #[t5] w2 fun t6 w3=>
 za (fun K4=>gIf t6 true (lo w3 83 t3 fun t8=>ca xX #[t8] w3 fun t9 w8=>
 K4 [t9] w8) (K4 [undef] w3)) (fun s5 _d6 w7=>
 zb t6 (s5.getD 0 undef) fa_ fun t10=>za (fun K9=>gIf t10 true (lo w7 83 t2 fun t12=>lo w7 83 t3 fun t13=>ca k7 #[t12,t13,(Value.func (.func 117) #[] #[])] w7 fun t14 w13=>
 K9 [t14] w13) (K9 [undef] w7)) (fun s10 _d11 w12=>
 zb t10 (s10.getD 0 undef) fa_ fun t15=>K t15 w12))
theorem JV {t0 t1 : Value} {w : World} {K : VW} (h : Yy t0 t1 w K) : zd prog yH #[t0,t1] w K:=
 okC false (.s (.r (rz 3 0 10)) (.s (.r (ra 3 0 9 (.grp 7 true (ri 2 3 9) [9] (ra 2 5 0 (.grp 11 true (ri 3 7 37) [14] (rz 2 10 0)))))) (.n))) func104 rfl (by kernel_rfl) (by kernel_rfl) h
def ZR (t0 t1 : Value) (w : World) (K : VW) : Prop:=
 pw w (Instr.box 83 t1) fun t3 w1=>
 lo w1 83 t3 fun t10=>ca kU #[t0,t10] w1 fun t11 w2=>
 pp (Op.unary .not t11) fun t12=>za (fun K3=>gIf t12 false (fl w2 t3 83 0 81 fun t15=>bt .neq 81 t15 (Value.int .u8 5) fun t16=>K3 [t16] w2) (K3 [undef] w2)) (fun s4 _d5 w6=>
 zb t12 tr_ (s4.getD 0 undef) fun t17=>zc t17 (K (.tuple #[(Value.slice Option.none 0 0),(i6 2)]) w6) (fl w6 t3 83 3 3 fun t20=>px 22 t0 t20 fun t21=>fl w6 t21 42 1 40 fun t23=>pp (Builtin.len_ #[40] 3 #[t23]) fun t24=>zr [(Value.slice Option.none 0 0),(i6 0)] w6 (fun s8 _d9 w10 K7=>
 bf .lss 3 (s8.getD 1 undef) t24 fun t26=>zc t26 (xl w10 40 t23 (s8.getD 1 undef) 154 fun t28=>pw w10 (Instr.alloc 154 true (.tuple #[])) fun t8 w11=>
 so w11 154 t8 t28 fun w12=>fl w12 t8 154 1 83 fun t31=>ca jn #[t31] w12 fun t32 w13=>
 pw w13 (Instr.buildSlice 44 1 #[(0,t32)]) fun t33 w14=>
 pw w14 (Builtin.append_ #[44,44] 44 #[(s8.getD 0 undef),t33]) fun t34 w15=>
 bt .add 3 (s8.getD 1 undef) (i6 1) fun t35=>K7 [t34,t35] w15) (K (.tuple #[(s8.getD 0 undef),(i6 0)]) w10))))
theorem Jf {t0 t1 : Value} {w : World} {K : VW} (h : ZR t0 t1 w K) : zd prog qX #[t0,t1] w K:=
 okC false (.s (.r (rz 3 0 2)) (.s (.s (.r (ra 5 0 36 (.grp 13 false (ri 3 5 4) [16] (rz 1 8 0)))) (.c (.s (.r (rz 2 0 0)) (.n)) (.n))) (.s (.r (rz 1 0 0)) (.s (.s (.r (rz 8 0 1040)) (.b (.lp [6,25] (.s (.r (rz 1 0 0)) (.s (.c (.n) (.n)) (.s (.b (.s (.r (rz 4 0 164)) (.r (rz 7 0 2704)))) (.r (rz 2 0 0)))))))) (.s (.r (rz 3 0 0)) (.n)))))) func106 rfl (by kernel_rfl) (by kernel_rfl) h
def Yz (t0 t1 : Value) (w : World) (K : VW) : Prop:=
 pw w (Instr.box 83 t1) fun t3 w1=>
 lo w1 83 t3 fun t7=>ca kU #[t0,t7] w1 fun t8 w2=>
 pp (Op.unary .not t8) fun t9=>zc t9 (K (.tuple #[fa_,(i6 2)]) w2) (lo w2 83 t3 fun t11=>ca k8 #[t0,t11] w2 fun t12 w3=>
 K (.tuple #[t12,(i6 0)]) w3)
theorem JW {t0 t1 : Value} {w : World} {K : VW} (h : Yz t0 t1 w K) : zd prog jG #[t0,t1] w K:=
 okC false (.s (.r (rz 3 0 2)) (.s (.s (.r (rz 4 0 36)) (.c (.s (.r (rz 2 0 0)) (.n)) (.n))) (.s (.r (rz 5 0 36)) (.n)))) func107 rfl (by kernel_rfl) (by kernel_rfl) h
def ZS (t0 : Value) (w : World) (K : VW) : Prop:=
 pw w (Instr.box 83 t0) fun t1 w1=>
 lo w1 83 t1 fun t3=>ca xX #[t3] w1 fun t4 w2=>
 pp (Op.unary .not t4) fun t5=>zc t5 (K fa_ w2) (fl w2 t1 83 0 81 fun t7=>za (fun K3=>
 bt .eql 81 t7 (Value.int .u8 1) fun t9=>zc t9 (K3 [t9] w2) (bt .eql 81 t7 (Value.int .u8 2) fun t10=>K3 [t10] w2)) (fun s4 _d5 w6=>
 zc (s4.getD 0 undef) (K tr_ w6) (bt .eql 81 t7 (Value.int .u8 4) fun t12=>zc t12 (fl w6 t1 83 1 4 fun t14=>pp (Op.unary .not t14) fun t15=>K t15 w6) (K fa_ w6))))
theorem Jg {t0 : Value} {w : World} {K : VW} (h : ZS t0 w K) : zd prog kB #[t0] w K:=
 okC false (.s (.r (rz 2 0 2)) (.s (.s (.r (rz 3 0 9)) (.c (.s (.r (rz 1 0 0)) (.n)) (.n))) (.s (.s (.r (rz 2 0 4)) (.b (.j [8] (.s (.r (rz 2 0 0)) (.c (.n) (.r (rz 2 0 0)))) (.c (.s (.r (rz 1 0 0)) (.n)) (.s (.r (rz 2 0 0)) (.c (.s (.r (rz 4 0 4)) (.n)) (.n))))))) (.s (.r (rz 1 0 0)) (.n))))) func115 rfl (by kernel_rfl) (by kernel_rfl) h
def YA (t0 t1 t2 : Value) (w : World) (K : VW) : Prop:=
 pw w (Instr.box 83 t0) fun t3 w1=>
 pw w1 (Instr.box 83 t1) fun t4 w2=>
 fl w2 t3 83 0 81 fun t8=>fl w2 t4 83 0 81 fun t10=>bf .neq 81 t8 t10 fun t11=>za (fun K3=>gIf t11 false (fl w2 t3 83 1 4 fun t14=>fl w2 t4 83 1 4 fun t16=>bf .neq 4 t14 t16 fun t17=>K3 [t17] w2) (K3 [undef] w2)) (fun s4 _d5 w6=>
 zb t11 tr_ (s4.getD 0 undef) fun t18=>za (fun K7=>gIf t18 false (fl w6 t3 83 3 3 fun t21=>fl w6 t4 83 3 3 fun t23=>bf .neq 3 t21 t23 fun t24=>K7 [t24] w6) (K7 [undef] w6)) (fun s8 _d9 w10=>
 zb t18 tr_ (s8.getD 0 undef) fun t25=>za (fun K11=>gIf t25 false (fl w10 t3 83 2 3 fun t29=>fl w10 t4 83 2 3 fun t31=>cv t2 #[t29,t31] w10 fun t32 w15=>
 pp (Op.unary .not t32) fun t33=>K11 [t33] w15) (K11 [undef] w10)) (fun s12 _d13 w14=>
 zb t25 tr_ (s12.getD 0 undef) fun t34=>zc t34 (K fa_ w14) (fl w14.drew t3 83 4 44 fun t36=>pp (Builtin.len_ #[44] 3 #[t36]) fun t37=>bt .eql 3 t37 (i6 0) fun t38=>za (fun K16=>gIf t38 false (fl w14.drew t3 83 4 44 fun t41=>xl w14.drew 44 t41 (i6 0) 83 fun t43=>fl w14.drew t4 83 4 44 fun t45=>xl w14.drew 44 t45 (i6 0) 83 fun t47=>ca k7 #[t43,t47,t2] w14.drew fun t49 w20=>
 K16 [t49] w20) (K16 [undef] w14.drew)) (fun s17 _d18 w19=>
 zb t38 tr_ (s17.getD 0 undef) fun t50=>K t50 w19)))))
theorem JX {t0 t1 t2 : Value} {w : World} {K : VW} (h : YA t0 t1 t2 w K) : zd prog k7 #[t0,t1,t2] w K:=
 okC false (.s (.r (rz 3 0 10)) (.s (.s (.r (ra 6 0 68 (.grp 12 false (ri 5 6 68) [17] (ra 2 11 0 (.grp 19 false (ri 5 13 68) [24] (ra 2 18 0 (.grp 26 false (ri 7 20 2320) [33] (rz 1 27 0)))))))) (.c (.s (.r (rz 1 0 0)) (.n)) (.n))) (.s (.r (ra 5 0 4 (.grp 39 false (ri 10 5 541764) [49] (rz 2 15 0)))) (.n)))) func116 rfl (by kernel_rfl) (by kernel_rfl) h
def Zl (_t0 _t1 : Value) (w : World) (K : VW) : Prop:=
 K tr_ w
theorem QC {t0 t1 : Value} {w : World} {K : VW} (h : Zl t0 t1 w K) : zd prog Zf #[t0,t1] w K:=
 okC false (.s (.r (rz 1 0 0)) (.s (.r (rz 1 0 0)) (.n))) func117 rfl (by kernel_rfl) (by kernel_rfl) h
def jJ (t0 t1 : Value) (w : World) (K : VW) : Prop:=
 pw w (Instr.box 22 t0) fun t2 w1=>
 pw w1 (Instr.box 83 t1) fun t3 w2=>
 fl w2 t3 83 0 81 fun t6=>bt .eql 81 t6 (Value.int .u8 3) fun t8=>zc t8 (K tr_ w2) (bt .eql 81 t6 (Value.int .u8 5) fun t10=>zc t10 (lo w2 22 t2 fun t11=>fl w2 t3 83 3 3 fun t13=>px 22 t11 t13 fun t14=>fl w2 t14 42 1 40 fun t16=>pp (Instr.makeFunc (.func 124) #[] #[t2]) fun t17=>ca zE #[t16,t17] w2 fun t18 w3=>
 K t18 w3) (K fa_ w2))
theorem ZT {t0 t1 : Value} {w : World} {K : VW} (h : jJ t0 t1 w K) : zd prog k8 #[t0,t1] w K:=
 okC false (.s (.r (rz 3 0 10)) (.s (.s (.r (rz 2 0 4)) (.b (.s (.r (rz 2 0 0)) (.c (.s (.r (rz 1 0 0)) (.n)) (.s (.r (rz 2 0 0)) (.c (.s (.r (rz 9 0 33809)) (.n)) (.n))))))) (.s (.r (rz 1 0 0)) (.n)))) func121 rfl (by kernel_rfl) (by kernel_rfl) h
def Zm (t0 t1 : Value) (w : World) (K : VW) : Prop:=
 pw w (Instr.box 154 t0) fun t2 w1=>
 lo w1 22 t1 fun t4=>fl w1 t2 154 1 83 fun t6=>ca k8 #[t4,t6] w1 fun t7 w2=>
 K t7 w2
theorem QD {t0 t1 : Value} {w : World} {K : VW} (h : Zm t0 t1 w K) : zd prog Jc #[t0,t1] w K:=
 okC false (.s (.r (rz 2 0 2)) (.s (.r (rz 5 0 145)) (.n))) func124 rfl (by kernel_rfl) (by kernel_rfl) h
end Go.Proofs.Tryz
end
section
namespace Go.Proofs.Tryz
open Go.Sh
set_option maxRecDepth 100000
end Go.Proofs.Tryz
end
section
namespace Go.Proofs.Tryz
open Go.Sh
set_option maxRecDepth 100000
end Go.Proofs.Tryz
end
section
namespace Go.Proofs
open Go.Sh
set_option maxRecDepth 100000
inductive TyD where
 |mk (k : Int) (m : Bool) (re st : Int) (of : List TyD)
namespace TyD
def k : TyD→Int|mk k _ _ _ _=>k
def m : TyD→Bool|mk _ m _ _ _=>m
def re : TyD→Int|mk _ _ re _ _=>re
def st : TyD→Int|mk _ _ _ st _=>st
def of : TyD→List TyD|mk _ _ _ _ of=>of
mutual
def dat : TyD→Dat
 |mk k m re st of=>.agg [.int .u8 k,.bool m,.int .i64 re,.int .i64 st,.sl 5 (dats of)]
def dats : List TyD→List Dat
 |[]=>[]
 |t::l=>dat t::dats l
end
theorem dats_map : ∀ l : List TyD,dats l=l.map dat
 |[]=>rfl
 |t::l=>by rw [dats,dats_map l];rfl
mutual
def ht : TyD→Nat
 |mk _ _ _ _ of=>hts of+1
def hts : List TyD→Nat
 |[]=>0
 |t::l=>max (ht t) (hts l)
end
theorem af7 : ∀ {l : List TyD} {t : TyD},t ∈ l→ht t≤hts l
 |x::l,t,h=>by
  rcases List.mem_cons.1 h with rfl|h
  ·exact Nat.le_max_left _ _
  ·exact Nat.le_trans (af7 h) (Nat.le_max_right _ _)
theorem ht_of {t u : TyD} (h : u ∈ t.of) : ht u<ht t:=by
 cases t with|mk k m re st of=>exact Nat.lt_succ_of_le (af7 h)
end TyD
def TyG (r : Gh) (v : Value) (t : TyD) : Prop:=
 ∃ p cap,v = .agg #[.int .u8 t.k,.bool t.m,.int .i64 t.re,.int .i64 t.st,.slice p t.of.length cap]∧(p=none→cap=0)∧t.of.length≤cap∧RepS r 5 p 0 (TyD.dats t.of)
theorem TyG.up {r s : Gh} {v : Value} {t : TyD} (h : TyG r v t) [l : Le r s] : TyG s v t:=by
 obtain ⟨p,cap,h1,h2,h3,h4⟩:=h;exact ⟨p,cap,h1,h2,h3,h4.up⟩
theorem TyG.of_rep {r : Gh} {c : List Value} {t : TyD} (h : Rep r t.dat c) : TyG r (.agg c.toArray) t:=by
 cases t with
 |mk k m re st of=>
  obtain ⟨a1,b1,rfl,h1,a2,b2,rfl,h2,a3,b3,rfl,h3,a4,b4,rfl,h4,a5,b5,rfl,h5,h6⟩:=h
  obtain rfl : a1=_:=h1
  obtain rfl : a2=_:=h2
  obtain rfl : a3=_:=h3
  obtain rfl : a4=_:=h4
  obtain rfl : b5 = []:=h6
  obtain ⟨p,cap,rfl,q1,q2,q3⟩:=h5
  rw [TyD.dats_map,List.length_map] at q2
  refine ⟨p,cap,?_,q1,q2,q3⟩
  rw [TyD.dats_map,List.length_map];rfl
theorem TyG.rep {r : Gh} {v : Value} {t : TyD} (h : TyG r v t) : ∃ c,v = .agg c.toArray∧c.length=5∧Rep r t.dat c:=by
 obtain ⟨p,cap,rfl,h2,h3,h4⟩:=h
 refine ⟨_,rfl,rfl,?_⟩
 cases t with
 |mk k m re st of=>
  refine ⟨[_],_,rfl,rfl,[_],_,rfl,rfl,[_],_,rfl,rfl,[_],_,rfl,rfl,[_],[],rfl,⟨p,cap,?_,h2,?_,h4⟩,rfl⟩
  ·rw [TyD.dats_map,List.length_map];rfl
  ·rw [TyD.dats_map,List.length_map];exact h3
theorem JY {X : Nat→Prop} {w0 w : World} {r q : Gh} {L : List Asr} (S : StX X w0 r w L) {p : Option Addr} {of : List TyD} (h : RepS q 5 p 0 (TyD.dats of)) [l : Le q r] {i : Nat} (hi : i<of.length) :
  ∃ (b off : Nat) (c : List Value),p=some ⟨b,off,none⟩∧c.length=5∧(∀ j v,c[j]? = some v→w.cell? ⟨b,off+i*5+j,none⟩=some v)∧TyG q (.agg c.toArray) of[i]:=by
 rw [TyD.dats_map] at h
 obtain ⟨b,off,c,h1,h2,h3,h4⟩:=RepS.at S h (i:=i) (by simpa using hi) (by decide)
 rw [List.getElem_map] at h4
 exact ⟨b,off,c,h1,h2,h3,TyG.of_rep h4⟩
end Go.Proofs
end
section
namespace Go.Proofs
open Go.Sh
set_option maxRecDepth 100000
def zU (structs : Int) : Nat→TyD→Bool
 |0,_=>false
 |n+1,t=>
  let inn:=decide (t.of.length=1)&&(match t.of with|u::_=>zU structs n u|[]=>false)
  let bare:=!t.m&&decide (t.re=0)
  if t.k=1∨t.k=2 then bare&&decide (t.st=0)&&decide (t.of.length=0)
  else if t.k=5 then bare&&decide (t.of.length=0)&&decide (0≤t.st)&&decide (t.st<structs)
  else if t.k=3 then bare&&decide (t.st=0)&&inn
  else if t.k=4 then decide (-1≤t.re)&&decide (t.st=0)&&inn
  else false
def inB (structs : Int) (n : Nat) (t : TyD) : Bool:=match t.of with|u::_=>zU structs n u|[]=>false
theorem ahu {structs : Int} {n : Nat} : ∀ {t : TyD} {h : 0<t.of.length},inB structs n t=zU structs n t.of[0]
 |.mk _ _ _ _ (_::_),_=>rfl
 |.mk _ _ _ _ [],h=>absurd h (Nat.not_lt_zero _)
theorem aaS (n : Nat) : ((n : Int)=0)↔n=0:=by omega
theorem JZ (n : Nat) : ((n : Int)=1)↔n=1:=by omega
theorem vH : ∀ (n : Nat) {t : TyD} {w : World} {r : Gh} {v : Value} {structs : Int} {K : Value→World→Prop},n≤1000→Holds r w→TyG r v t→
  (∀ w',Ext w w'→K (.bool (zU structs n t)) w')→zd Tryz.prog Tryz.xr #[v,.int .i64 structs,.int .i64 (n : Int)] w K:=by
 intro n
 induction n with
 |zero=>
  intro t w r v structs K _ hr hv h
  refine Tryz.Yw ?_
  unfold Tryz.vG
  have S:=St.start hr
  refine S.box fun b2 w1 S=>?_
  refine gG_ ?_
  exact h _ S.ext
 |succ n ih=>
  intro t w r v structs K hn hr hv h
  refine Tryz.Yw ?_
  unfold Tryz.vG
  obtain ⟨p,cap,rfl,_,_,hof⟩:=hv
  have S:=St.start hr
  refine S.box fun b2 w1 S=>?_
  refine gG_ ?_
  refine zT (c:=inB structs n t) (fun hb K2 hK2=>?_) fun w5 e5=>?_
  ·have hlen : t.of.length=1:=by simpa [JZ] using hb
   refine gG_ ?_
   obtain ⟨b,off,c,rfl,hc,hcell,ht⟩:=JY S hof (i:=0) (by omega)
   refine gG_ ?_
   refine zH (n:=5) hc (by simpa using hcell) ?_
   refine gG_ ?_
   rw [show ((n+1 : Nat) : Int) - 1=(n : Int) by omega]
   refine ih (by omega) S.holds ht fun w6 e6=>?_
   rw [← ahu]
   exact hK2 _ e6
  have S:=S.go e5
  refine gG_ ?_
  refine kT (fun K2 hK2=>by refine gG_ ?_;exact hK2) ?_
  refine gG_ ?_
  intro K11 hK11
  refine gG_ ?_
  refine qD (c:=decide (t.k=2)) (hK11 _ _ fun _=>?_) fun _ hk=>?_
  rotate_left
  ·refine gG_ ?_;exact hk
  simp only [List.getD_cons_zero]
  have hu : zU structs (n+1) t=(if t.k=1∨t.k=2 then (!t.m&&decide (t.re=0))&&decide (t.st=0)&&decide (t.of.length=0)
   else if t.k=5 then (!t.m&&decide (t.re=0))&&decide (t.of.length=0)&&decide (0≤t.st)&&decide (t.st<structs)
   else if t.k=3 then (!t.m&&decide (t.re=0))&&decide (t.st=0)&&(decide (t.of.length=1)&&inB structs n t)
   else if t.k=4 then decide (-1≤t.re)&&decide (t.st=0)&&(decide (t.of.length=1)&&inB structs n t)
   else false):=rfl
  rw [hu] at h
  refine c_b (fun h12=>?_) (fun h12=>?_)
  ·have h12 : t.k=1∨t.k=2:=by simpa using h12
   rw [if_pos h12] at h
   refine kT (fun K2 hK2=>by refine gG_ ?_;exact hK2) ?_
   refine kT (fun K2 hK2=>by refine gG_ ?_;exact hK2) ?_
   rw [decide_eq_decide.2 (aaS t.of.length)]
   exact h _ S.ext
  have h12 : ¬ (t.k=1∨t.k=2):=by simpa using h12
  rw [if_neg h12] at h
  refine gG_ ?_
  refine zm (fun h5=>?_) (fun h5=>?_)
  ·rw [if_pos h5] at h
   refine kT (fun K2 hK2=>by refine gG_ ?_;exact hK2) ?_
   refine kT (fun K2 hK2=>by refine gG_ ?_;exact hK2) ?_
   refine kT (fun K2 hK2=>by refine gG_ ?_;exact hK2) ?_
   rw [decide_eq_decide.2 (aaS t.of.length)]
   exact h _ S.ext
  rw [if_neg h5] at h
  refine gG_ ?_
  refine zm (fun h3=>?_) (fun h3=>?_)
  ·rw [if_pos h3] at h
   refine kT (fun K2 hK2=>by refine gG_ ?_;exact hK2) ?_
   refine kT (fun K2 hK2=>hK2) ?_
   rw [decide_eq_decide.2 (JZ t.of.length)]
   exact h _ S.ext
  rw [if_neg h3] at h
  refine gG_ ?_
  refine zm (fun h4=>?_) (fun h4=>?_)
  ·rw [if_pos h4] at h
   refine gG_ ?_
   refine kT (fun K2 hK2=>by refine gG_ ?_;exact hK2) ?_
   refine kT (fun K2 hK2=>hK2) ?_
   rw [decide_eq_decide.2 (JZ t.of.length)]
   exact h _ S.ext
  rw [if_neg h4] at h
  exact h _ S.ext
theorem j6 (structs : Int) (n : Nat) (t : TyD) : zU structs (n+1) t=(if t.k=1∨t.k=2 then (!t.m&&decide (t.re=0))&&decide (t.st=0)&&decide (t.of.length=0)
   else if t.k=5 then (!t.m&&decide (t.re=0))&&decide (t.of.length=0)&&decide (0≤t.st)&&decide (t.st<structs)
   else if t.k=3 then (!t.m&&decide (t.re=0))&&decide (t.st=0)&&(decide (t.of.length=1)&&inB structs n t)
   else if t.k=4 then decide (-1≤t.re)&&decide (t.st=0)&&(decide (t.of.length=1)&&inB structs n t)
   else false):=rfl
def isB (t : TyD) : Bool:=zU 32 48 t
theorem jp {t : TyD} {w : World} {r : Gh} {v : Value} {K : Value→World→Prop} (hr : Holds r w) (hv : TyG r v t) (h : ∀ w',Ext w w'→K (.bool (isB t)) w') : zd Tryz.prog Tryz.xX #[v] w K:=by
 refine Tryz.aaP ?_
 unfold Tryz.X5
 have hv0:=hv
 obtain ⟨p,cap,rfl,_⟩:=hv
 have S:=St.start hr
 refine S.box fun b2 w1 S=>?_
 refine gG_ ?_
 exact vH 48 (by decide) S.holds hv0 fun w2 e2=>h _ (S.go e2).ext
end Go.Proofs
end
section
namespace Go.Proofs
open Go.Sh
set_option maxRecDepth 100000
theorem qH {s : Int} {n : Nat} {t : TyD} (h : zU s (n+1) t=true) : (t.of = []∧(t.k=1∨t.k=2∨t.k=5))∨∃ u,t.of = [u]∧zU s n u=true∧(t.k=3∨t.k=4):=by
 rw [j6] at h
 have one : ∀ {b : Bool},(b&&(decide (t.of.length=1)&&inB s n t))=true→∃ u,t.of = [u]∧zU s n u=true:=by
  intro b hb
  simp only [Bool.and_eq_true,decide_eq_true_eq] at hb
  obtain ⟨_,hl,hi⟩:=hb
  cases t with
  |mk k m re st of=>
   cases of with
   |nil=>cases hl
   |cons u l=>
    cases l with
    |nil=>exact ⟨u,rfl,hi⟩
    |cons x l=>cases hl
 split at h
 ·rename_i hk
  simp only [Bool.and_eq_true,decide_eq_true_eq] at h
  exact .inl ⟨List.eq_nil_of_length_eq_zero h.2,hk.elim .inl fun h=>.inr (.inl h)⟩
 split at h
 ·rename_i hk
  simp only [Bool.and_eq_true,decide_eq_true_eq] at h
  exact .inl ⟨List.eq_nil_of_length_eq_zero h.1.1.2,.inr (.inr hk)⟩
 split at h
 ·rename_i hk
  obtain ⟨u,h1,h2⟩:=one h
  exact .inr ⟨u,h1,h2,.inl hk⟩
 split at h
 ·rename_i hk
  obtain ⟨u,h1,h2⟩:=one h
  exact .inr ⟨u,h1,h2,.inr hk⟩
 ·cases h
def kv (f : Int→Int→Bool) : Nat→TyD→TyD→Bool
 |0,_,_=>false
 |n+1,a,b=>!(decide (a.k≠b.k) || !(a.m == b.m)||decide (a.st≠b.st) || !f a.re b.re)&&(decide (a.of.length=0)||(match a.of,b.of with|u::_,x::_=>kv f n u x|_,_=>false))
theorem ac8 {f : Int→Int→Bool} {n : Nat} {a b : TyD} (h : a.of = []) : kv f (n+1) a b = !(decide (a.k≠b.k) || !(a.m == b.m)||decide (a.st≠b.st) || !f a.re b.re):=by
 rw [kv,h];simp
theorem ac9 {f : Int→Int→Bool} {n : Nat} {a b u x : TyD} (h : a.of = [u]) (h2 : b.of = [x]) : kv f (n+1) a b=(!(decide (a.k≠b.k) || !(a.m == b.m)||decide (a.st≠b.st) || !f a.re b.re)&&kv f n u x):=by
 rw [kv,h,h2];simp
theorem aaT {f : Int→Int→Bool} {n : Nat} {a b : TyD} (h : (decide (a.k≠b.k) || !(a.m == b.m)||decide (a.st≠b.st) || !f a.re b.re)=true) : kv f (n+1) a b=false:=by
 rw [kv,h];simp
theorem V3 {f : Int→Int→Bool} {fv : Value} (hf : ∀ (x y : Int) (w : World) (K : Value→World→Prop),K (.bool (f x y)) w→zB Tryz.prog fv #[.int .i64 x,.int .i64 y] w K) {s : Int} :
  ∀ (n : Nat) {a b : TyD} {w : World} {r : Gh} {va vb : Value} {K : Value→World→Prop},Holds r w→TyG r va a→TyG r vb b→zU s n a=true→zU s n b=true→
  (∀ w',Ext w w'→K (.bool (kv f n a b)) w')→zd Tryz.prog Tryz.k7 #[va,vb,fv] w K:=by
 intro n
 induction n with
 |zero=>intro a b w r va vb K _ _ _ h;cases h
 |succ n ih=>
  intro a b w r va vb K hr hva hvb ha hb h
  refine Tryz.JX ?_
  unfold Tryz.YA
  obtain ⟨p,cap,rfl,_,_,hofa⟩:=hva
  obtain ⟨q,cap',rfl,_,_,hofb⟩:=hvb
  have S:=St.start hr
  refine S.box fun b3 w1 S=>?_
  refine S.box fun b4 w2 S=>?_
  refine gG_ ?_
  refine ac7 (fun K2 hK2=>by refine gG_ ?_;exact hK2) ?_
  refine ac7 (fun K2 hK2=>by refine gG_ ?_;exact hK2) ?_
  refine ac7 (c:=!f a.re b.re) (fun K2 hK2=>?_) ?_
  ·refine gG_ ?_
   refine hf _ _ _ _ ?_
   refine gG_ ?_
   exact hK2
  refine c_b (fun hne=>?_) (fun heq=>?_)
  ·rw [aaT hne] at h
   exact h _ S.ext
  have S:=S.go (Ext.drew _)
  refine gG_ ?_
  have hk : a.k=b.k:=by
   simp only [Bool.or_eq_false_iff,decide_eq_false_iff_not,Classical.not_not] at heq
   exact heq.1.1.1
  rcases qH ha with ⟨hof,hka⟩|⟨u,hof,hu,hka⟩
  ·rw [ac8 hof,heq] at h
   refine ahn (fun _=>?_) (fun hn=>absurd (by rw [hof];rfl) hn)
   exact h _ S.ext
  ·rcases qH hb with ⟨_,hkb⟩|⟨x,hofx,hx,hkb⟩
   ·exfalso;omega
   rw [ac9 hof hofx,heq] at h
   have hla : 0<a.of.length:=by rw [hof];exact Nat.one_pos
   have hlb : 0<b.of.length:=by rw [hofx];exact Nat.one_pos
   refine ahn (fun hn=>by omega) (fun _=>?_)
   intro K2 hK2
   obtain ⟨ba,oa,ca,rfl,hca,hcella,hta⟩:=JY S hofa hla
   obtain ⟨bb,ob,cb,rfl,hcb,hcellb,htb⟩:=JY S hofb hlb
   have hau : a.of[0]=u:=by simp [hof]
   have hbx : b.of[0]=x:=by simp [hofx]
   rw [hau] at hta;rw [hbx] at htb
   refine gG_ ?_
   refine zH (n:=5) hca (by simpa using hcella) ?_
   refine gG_ ?_
   refine zH (n:=5) hcb (by simpa using hcellb) ?_
   refine gG_ ?_
   refine ih S.holds hta htb hu hx fun w5 e5=>?_
   refine hK2 _ _ ?_
   simpa using h _ (S.go e5).ext
def yh (f : Int→Int→Bool) (a b : TyD) : Bool:=(isB a&&isB b)&&kv f 48 a b
def yV (_ _ : Int) : Bool:=true
theorem agx (x y : Int) (w : World) (K : Value→World→Prop) (hk : K (.bool (yV x y)) w) : zB Tryz.prog (.func (.func Tryz.Zf) #[] #[]) #[.int .i64 x,.int .i64 y] w K:=by
 refine xo (by kernel_rfl) ?_
 refine Tryz.QC (t0:=.int .i64 x) (t1:=.int .i64 y) ?_
 unfold Tryz.Zl
 exact hk
theorem xR {a b : TyD} {w : World} {r : Gh} {va vb : Value} {K : Value→World→Prop} (hr : Holds r w) (ha : TyG r va a) (hb : TyG r vb b)
  (h : ∀ w',Ext w w'→K (.bool (yh yV a b)) w') : zd Tryz.prog Tryz.yH #[va,vb] w K:=by
 refine Tryz.JV ?_
 unfold Tryz.Yy
 have ha0:=ha;have hb0:=hb
 obtain ⟨p,cap,rfl,_⟩:=ha
 obtain ⟨q,cap',rfl,_⟩:=hb
 have S:=St.start hr
 refine S.box fun b2 w1 S=>?_
 refine S.box fun b3 w2 S=>?_
 refine gG_ ?_
 refine jp S.holds ha0 fun w3 e3=>?_
 have S:=S.go e3
 refine zT (c:=isB b) (fun _ K2 hK2=>?_) fun w4 e4=>?_
 ·refine gG_ ?_
  exact jp S.holds hb0 fun w4 e4=>hK2 _ e4
 have S:=S.go e4
 refine zT (c:=kv yV 48 a b) (fun hab K2 hK2=>?_) fun w5 e5=>h _ (S.go e5).ext
 simp only [Bool.and_eq_true] at hab
 refine gG_ ?_
 refine V3 (f:=yV) (s:=32) agx 48 S.holds ha0 hb0 hab.1 hab.2 fun w5 e5=>?_
 exact hK2 _ e5
end Go.Proofs
end
section
namespace Go.Proofs
open Go.Sh
set_option maxRecDepth 100000
namespace TyD
mutual
def chain : TyD→List TyD
 |mk k m re st of=>mk k m re st of::chains of
def chains : List TyD→List TyD
 |[]=>[]
 |t::_=>chain t
end
theorem chain_eq : ∀ t : TyD,t.chain=t::chains t.of
 |mk _ _ _ _ _=>rfl
def regsL (l : List TyD) : List Int:=(l.filter fun u=>decide (u.k=4)).map re
def regs (t : TyD) : List Int:=regsL t.chain
theorem regs_eq (t : TyD) : t.regs=(if t.k=4 then [t.re] else [])++regsL (chains t.of):=by
 rw [regs,chain_eq,regsL,List.filter_cons]
 by_cases h : t.k=4
 ·simp only [h,decide_true,if_true];rfl
 ·simp only [h,decide_false,if_false];rfl
theorem chains_eq {l : List TyD} (h : 0<l.length) : chains l=chain l[0]:=by
 cases l with
 |nil=>cases h
 |cons t l=>rfl
end TyD
def ints (l : List Int) : List Value:=l.map (.int .i64)
theorem qZ (l : List Int) : (ints l).length=l.length:=List.length_map ..
def NdG (r : Gh) (b off : Nat) (t : TyD) : Prop:=∃ c : List Value,c.length=5∧(∀ j v,c[j]? = some v→Ob r fun w=>w.cell? ⟨b,off+j,none⟩=some v)∧TyG r (.agg c.toArray) t
theorem NdG.of {r : Gh} {p : Option Addr} {of : List TyD} (h : RepS r 5 p 0 (TyD.dats of)) {i : Nat} (hi : i<of.length) : ∃ b off,p=some ⟨b,off,none⟩∧NdG r b (off+i*5) of[i]:=by
 rw [TyD.dats_map] at h
 obtain ⟨c,h1,h2,h3⟩:=h.get (i:=i) (List.getElem?_eq_getElem (by simpa using hi))
 obtain ⟨b,off,rfl,_⟩:=h2 0 c[0] (List.getElem?_eq_getElem (by omega))
 rw [List.getElem_map] at h3
 refine ⟨b,off,rfl,c,h1,fun j v hj=>?_,TyG.of_rep h3⟩
 obtain ⟨b',off',hp,ho⟩:=h2 j v hj
 cases hp
 rwa [Nat.zero_add] at ho
theorem XN {X : Nat→Prop} {w0 w : World} {r q : Gh} {L : List Asr} {bl b off : Nat} {v : Value} {n : Nat} {xs : List Value} {t : TyD} {K : Value→World→Prop}
  (S : StX X w0 r w (.cell bl [v] 50 :: .row v 3 1 n xs::L)) (hn : NdG q b off t) [Le q r] (hl : n<1000000000)
  (h : ∀ v' w',StX X w0 r w' (.cell bl [v'] 50 :: .row v' 3 1 (n+1) (xs ++ [.int .i64 t.re])::L)→K (.tuple #[]) w') :
  zd Tryz.prog Tryz.kN #[.pointer (some ⟨b,off,none⟩),.pointer (some ⟨bl,0,none⟩)] w K:=by
 refine Tryz.Y0 ?_
 unfold Tryz.jU
 obtain ⟨c,hc,hcell,p,cap,hv,_,_,hof⟩:=hn
 cases hv
 have S:=S.go (Ext.drew _)
 refine gG_ ?_
 refine zh (S.at (hcell 2 _ rfl)) ?_
 refine S.litU (e:=3) (cs:=[.int .i64 t.re]) (by kernel_rfl) fun b3 w3 S=>?_
 refine S.ap (Sl.blk (S.blk b3)) (fun v4 w4 S=>?_) (by omega)
 refine S.st (h1:=S.row1 v4) fun w5 S=>?_
 exact h _ _ S.tl
theorem XO : ∀ (k : Nat) {t : TyD} {X : Nat→Prop} {w0 w : World} {r q : Gh} {L : List Asr} {bl b off : Nat} {v : Value} {n : Nat} {xs : List Value} {K : Value→World→Prop} [Le q r],t.ht≤k→
  StX X w0 r w (.cell bl [v] 50 :: .row v 3 1 n xs::L)→NdG q b off t→n+k<1000000000→
  (∀ v' w',StX X w0 r w' (.cell bl [v'] 50 :: .row v' 3 1 (n+t.regs.length) (xs++ints t.regs)::L)→K (.tuple #[]) w')→
  zd Tryz.prog Tryz.qE #[.pointer (some ⟨b,off,none⟩),.func (.func Tryz.kN) #[] #[.pointer (some ⟨bl,0,none⟩)]] w K:=by
 intro k
 induction k with
 |zero=>intro t X w0 w r q L bl b off v n xs K _ ht;exfalso;cases t with|mk k m re st of=>exact absurd ht (Nat.not_succ_le_zero _)
 |succ k ih=>
  intro t X w0 w r q L bl b off v n xs K _ ht S hn hk h
  refine Tryz.V2 ?_
  unfold Tryz.YZ
  have hn0:=hn
  obtain ⟨c,hc,hcell,p,cap,hv,_,_,hof⟩:=hn
  cases hv
  refine zq (fun _ w'=>∃ v',StX X w0 r w' (.cell bl [v'] 50 :: .row v' 3 1 (n+(if t.k=4 then 1 else 0)) (xs++(if t.k=4 then [.int .i64 t.re] else []))::L)) (fun K2 hK2=>?_) ?_
  ·refine gG_ ?_
   refine zh (S.at (hcell 0 _ rfl)) ?_
   refine gG_ ?_
   refine zm (fun h4=>?_) (fun h4=>hK2 _ _ ⟨v,by simpa [h4] using S⟩)
   refine xo (by kernel_rfl) ?_
   show zd _ _ #[_,_] _ _
   refine XN S hn0 (by omega) fun v' w' S=>hK2 _ _ ⟨v',by simpa [h4] using S⟩
  ·rintro s w' ⟨v',S⟩ d
   refine gG_ ?_
   refine zh (S.at (hcell 4 _ rfl)) ?_
   refine gG_ ?_
   refine zm (fun hlen=>?_) (fun hlen=>?_)
   ·have hlen : 0<t.of.length:=by omega
    obtain ⟨b2,off2,rfl,hn2⟩:=NdG.of hof hlen
    refine gG_ ?_
    refine zh (S.at (hcell 4 _ rfl)) ?_
    refine gG_ ?_
    have hh:=TyD.ht_of (List.getElem_mem hlen)
    refine ih (t:=t.of[0]) (by omega) S hn2 (by split<;>omega) fun v3 w3 S=>h v3 w3 ?_
    have h1 : t.regs=(if t.k=4 then [t.re] else [])++t.of[0].regs:=by rw [TyD.regs_eq,TyD.chains_eq hlen];rfl
    rw [h1]
    have e1 : n+(if t.k=4 then 1 else 0)+t.of[0].regs.length=n+((if t.k=4 then [t.re] else [])++t.of[0].regs).length:=by split<;>simp<;>omega
    have e2 : xs++(if t.k=4 then [.int .i64 t.re] else [])++ints t.of[0].regs=xs++ints ((if t.k=4 then [t.re] else [])++t.of[0].regs):=by split<;>simp [ints]
    rwa [e1,e2] at S
   ·have hz : t.of = []:=List.eq_nil_of_length_eq_zero (by omega)
    have h1 : t.regs=(if t.k=4 then [t.re] else []):=by rw [TyD.regs_eq,hz];simp [TyD.chains,TyD.regsL]
    refine h v' _ ?_
    rw [h1]
    have e1 : (if t.k=4 then [t.re] else []).length=(if t.k=4 then 1 else 0):=by split<;>rfl
    have e2 : ints (if t.k=4 then [t.re] else [])=(if t.k=4 then [.int .i64 t.re] else []):=by split<;>rfl
    rwa [e1,e2]
end Go.Proofs
end
section
namespace Go.Proofs
open Go.Sh
set_option maxRecDepth 100000
theorem ae7 {b : Nat} {v : Value} {t : TyD} {r : Gh} {T : TypeId} (h : TyG r v t) : NdG (r.or (Go.Sh.one b v.cells.toList T)) b 0 t:=by
 obtain ⟨c,rfl,hc,hr⟩:=h.rep
 refine ⟨c,hc,fun j x hj w hw=>?_,(TyG.of_rep hr).up⟩
 have B:=zF (b:=b) (c:=(Value.agg c.toArray).cells.toList) (T:=T) w (hw.le (h:=inferInstance))
 show w.cell? ⟨b,0+j,none⟩=some x
 rw [Nat.zero_add,B.cell]
 exact hj
theorem adP : ∀ (n : Nat) {t : TyD},t.ht≤n→t.chain.length≤n:=by
 intro n
 induction n with
 |zero=>intro t h;cases t with|mk k m re st of=>exact absurd h (Nat.not_succ_le_zero _)
 |succ n ih=>
  intro t h
  rw [TyD.chain_eq,List.length_cons]
  cases hof : t.of with
  |nil=>exact Nat.succ_le_succ (Nat.zero_le _)
  |cons u l=>
   have : u.ht<t.ht:=TyD.ht_of (by rw [hof];exact List.mem_cons_self ..)
   exact Nat.succ_le_succ (ih (t:=u) (by omega))
theorem XH : ∀ {n : Nat} {s : Int} {t : TyD},zU s n t=true→t.ht≤n
 |0,_,_,h=>by cases h
 |n+1,s,t,h=>by
  cases t with
  |mk k m re st of=>
   rcases qH h with ⟨hof,_⟩|⟨u,hof,hu,_⟩
   ·cases hof;exact Nat.succ_le_succ (Nat.zero_le _)
   ·cases hof
    refine Nat.succ_le_succ ?_
    show max u.ht 0≤n
    rw [Nat.max_zero];exact XH hu
theorem ahv {t : TyD} (h : isB t=true) : t.ht≤48:=XH h
theorem Zn {t : TyD} {w : World} {r : Gh} {v : Value} {K : Value→World→Prop} (hr : Holds r w) (hv : TyG r v t) (ht : t.ht≤1000000)
  (h : ∀ v' w',Ext w w'→w'.ownsRow w.heap.size 3 1 v' t.regs.length (ints t.regs)→K v' w') : zd Tryz.prog Tryz.kg #[v] w K:=by
 refine Tryz.Qz ?_
 unfold Tryz.Zi
 have S:=St.start hr
 refine S.box fun b1 w1 S=>?_
 have S:=S.frz
 refine S.al fun b3 w3 S=>?_
 refine gG_ ?_
 have S:=(S.ownNil 3 1).swap
 refine XO t.ht (Nat.le_refl _) S (ae7 (T:=83) hv) (by omega) fun v' w' S=>?_
 refine S.ld ?_
 rw [Nat.zero_add,List.nil_append] at S
 exact h v' w' S.ext (S.give v')
def yN (t : TyD) : List Int:=if isB t then t.regs else []
theorem Zo {t : TyD} {w : World} {r : Gh} {v : Value} {K : Value→World→Prop} (hr : Holds r w) (hv : TyG r v t)
  (h : ∀ v' w',Ext w w'→w'.ownsRow w.heap.size 3 1 v' (yN t).length (ints (yN t))→K v' w') : zd Tryz.prog Tryz.ke #[v] w K:=by
 refine Tryz.Qy ?_
 unfold Tryz.Zh
 have hv0:=hv
 obtain ⟨p,cap,rfl,_⟩:=hv
 have S:=St.start hr
 refine S.box fun b1 w1 S=>?_
 refine gG_ ?_
 refine jp S.holds hv0 fun w2 e2=>?_
 have S:=S.go e2
 refine gG_ ?_
 refine c_b (fun hn=>?_) (fun hb=>?_)
 ·have hb : isB t=false:=by simpa using hn
  refine h _ _ S.ext ?_
  rw [yN,hb]
  exact World.ownsRow_nil _ _ _ _
 have hb : isB t=true:=by simpa using hb
 refine gG_ ?_
 have e02:=S.ext
 refine Zn S.holds hv0 (by have:=ahv hb;omega) fun v3 w3 e3 ho=>?_
 have S:=S.take e3 ho
 refine h _ _ S.ext ?_
 rw [yN,hb]
 exact S.give v3
end Go.Proofs
end
section
namespace Go.Proofs
open Go.Sh
set_option maxRecDepth 100000
def kD (l : List (Int × Int)) : List Value:=l.flatMap fun p=>[.int .i64 p.1,.int .i64 p.2]
theorem aaU (a b : List (Int × Int)) : kD (a++b)=kD a++kD b:=List.flatMap_append ..
theorem adQ (l : List (Int × Int)) : (kD l).length=l.length*2:=by
 induction l with
 |nil=>rfl
 |cons p l ih=>simp only [kD,List.flatMap_cons,List.length_append] at *;simp [ih];omega
end Go.Proofs
end
section
namespace Go.Proofs
open Go.Sh
set_option maxRecDepth 100000
theorem abV (a b : List Int) : ints (a++b)=ints a++ints b:=List.map_append ..
theorem QE {r : Gh} {c : List Value} {t : TyD} (h : TyG r (.agg c.toArray) t) : ∃ p cap,c = [.int .u8 t.k,.bool t.m,.int .i64 t.re,.int .i64 t.st,.slice p t.of.length cap]∧RepS r 5 p 0 (TyD.dats t.of):=by
 obtain ⟨p,cap,hv,_,_,hof⟩:=h
 exact ⟨p,cap,List.toArray_inj (Value.agg.inj hv),hof⟩
theorem agy {r : Gh} {c : List Value} {t : TyD} (h : TyG r (.agg c.toArray) t) : ∀ y ∈ c.toArray.toList,y.oneCell'=true:=by
 obtain ⟨p,cap,rfl,_⟩:=QE h
 simp [Value.oneCell']
end Go.Proofs
end
section
namespace Go.Proofs
open Go.Sh
set_option maxRecDepth 100000
end Go.Proofs
end
section
namespace Go.Proofs
open Go.Sh
set_option maxRecDepth 100000
end Go.Proofs
end
section
namespace Go.Proofs
open Go.Sh
set_option maxRecDepth 100000
def qw (t : TyD) : Bool:=isB t&&((decide (t.k=1)||decide (t.k=2))||(decide (t.k=4) && !t.m))
theorem ZU {t : TyD} {w : World} {r : Gh} {v : Value} {K : Value→World→Prop} (hr : Holds r w) (hv : TyG r v t)
  (h : ∀ w',Ext w w'→K (.bool (qw t)) w') : zd Tryz.prog Tryz.kB #[v] w K:=by
 refine Tryz.Jg ?_
 unfold Tryz.ZS
 have hv0:=hv
 obtain ⟨p,cap,rfl,_⟩:=hv
 have S:=St.start hr
 refine S.box fun b1 w1 S=>?_
 refine gG_ ?_
 refine jp S.holds hv0 fun w2 e2=>?_
 have S:=S.go e2
 refine gG_ ?_
 refine c_b (fun hn=>?_) (fun hb=>?_)
 ·have hb : isB t=false:=by simpa using hn
  rw [qw,hb] at h;exact h _ S.ext
 have hb : isB t=true:=by simpa using hb
 rw [qw,hb,Bool.true_and] at h
 refine gG_ ?_
 intro K11 hK11
 refine gG_ ?_
 refine qD (c:=decide (t.k=2)) (hK11 _ _ fun _=>?_) fun _ hk=>?_
 rotate_left
 ·refine gG_ ?_;exact hk
 simp only [List.getD_cons_zero]
 refine c_b (fun h12=>?_) (fun h12=>?_)
 ·rw [h12,Bool.true_or] at h;exact h _ S.ext
 rw [h12,Bool.false_or] at h
 refine gG_ ?_
 refine zm (fun h4=>?_) (fun h4=>?_)
 ·rw [show decide (t.k=4)=true from decide_eq_true h4,Bool.true_and] at h
  refine gG_ ?_
  exact h _ S.ext
 ·rw [show decide (t.k=4)=false from decide_eq_false h4,Bool.false_and] at h
  exact h _ S.ext
end Go.Proofs
end
section
namespace Go.Proofs
open Go.Sh
set_option maxRecDepth 100000
end Go.Proofs
end
section
namespace Go.Sh
open Go.RowKit
set_option linter.unusedSimpArgs false
set_option linter.unusedVariables false
section
variable {P : Program} {t s : TypeId} {c : Bool} {k : IntKind} {m a b : Int}
end
end Go.Sh
end
section
namespace Go.Sh
open Go.RowKit
theorem g_TT {A B : Prop} (a : A) : gIf (.bool true) true A B:=a
theorem g_FF {A B : Prop} (a : A) : gIf (.bool false) false A B:=a
theorem g_TF {A B : Prop} (b : B) : gIf (.bool true) false A B:=b
theorem g_FT {A B : Prop} (b : B) : gIf (.bool false) true A B:=b
section
variable {w : World} {A : (List Value→World→Prop)→Prop} {Z : Value→World→Prop} {b c : Bool}
theorem adR (R : World→Prop) (h0 : b=true→R w) (hA : b=false→∀ K : List Value→World→Prop,(∀ w',R w'→K [.bool c] w')→A K) (hZ : ∀ w',R w'→Z (.bool (b||c)) w') :
  za (fun K=>gIf (.bool b) false (A K) (K [undef] w)) fun s _ w'=>zb (.bool b) (.bool true) (s.getD 0 undef) fun t=>Z t w':=by
 intro K hK
 cases b with
 |true=>exact hK _ _ fun _=>⟨true,rfl,by simpa using hZ w (h0 rfl)⟩
 |false=>exact hA rfl K fun w' e=>hK _ _ fun _=>⟨false,rfl,by simpa using hZ w' e⟩
end
theorem g_UU {want : Bool} {A B : Prop} (b : B) : gIf undef want A B:=b
section
variable {P : Program} {w : World} {t e : TypeId} {size n m : Nat} {v : Value} {xs news : List Value}
theorem Que.of_row {base : Nat} (h : w.ownsRow base e size v n xs) : Que w e size v n xs:=by
 refine ⟨h.1,?_⟩
 rcases xW h with ⟨rfl,rfl,rfl⟩|⟨g,cap,c,rfl,hb,B,h1,h2,h3,h4⟩
 ·exact .inl ⟨rfl,rfl⟩
 ·exact .inr ⟨g,0,cap,c,rfl,B,h1,h2,by omega,by rw [List.drop_zero];exact h4⟩
theorem Que.shape (h : Que w e size v n xs) : ∃ p cap,v = .slice p n cap∧(p=none→cap=0)∧n≤cap∧xs.length=n*size∧Sl w p xs:=by
 obtain ⟨hl,⟨rfl,rfl⟩|⟨g,off,cap,c,rfl,B,h1,h2,h3,h4⟩⟩:=h
 ·have hx : xs = []:=by simpa using hl
  subst hx
  exact ⟨none,0,rfl,fun _=>rfl,Nat.le_refl _,hl,Sl.nil _ _⟩
 ·refine ⟨_,cap,rfl,by simp,h1,hl,fun i v hv=>⟨g,off,rfl,?_⟩⟩
  rw [B.cell]
  rw [← h4,List.getElem?_take] at hv
  split at hv
  ·rwa [List.getElem?_drop] at hv
  ·cases hv
theorem adS {K : Value→World→Prop} {ty : TypeId} {bytes : Nat} {a : Addr} {c : Nat}
  (hT : apT P t=some (e,size,bytes)) (hown : Que w e size v n xs) (hs : Sl w (some a) news) (hl : news.length=m*size) (h1 : ∀ u ∈ news,u.oneCell'=true)
  (hb : (n+m)*bytes≤140737488355328)
  (h : ∀ v' w',Que w' e size v' (n+m) (xs++news)→ExtBut (fun k=>v.ownBlock=some k) w w'→(v'.ownBlock=v.ownBlock∨v'.ownBlock=some w.heap.size)→K v' w') :
  opW P w (Builtin.append_ #[t,t] ty #[v,.slice (some a) m c]) K:=by
 rcases hown with ⟨hxl,⟨rfl,rfl⟩|⟨g,off,cap,cur,rfl,B,h2,h3,h4,h5⟩⟩
 ·have hx : xs = []:=by simpa using hxl
  subst hx
  exact aaE hT (World.ownsRow_nil w 0 e size) hs hl (by simp) h1 hb (Nat.zero_le _) fun v' w' h6 h7 h8 _=>h v' w' (.of_row h6) h7 h8
 unfold apT at hT
 cases hu : P.underlying t with
 |none=>rw [hu] at hT;cases hT
 |some d=>
  rw [hu] at hT
  cases d<;>first|(cases hT;done)|skip
  rename_i e'
  simp only [Option.bind_eq_some_iff] at hT
  obtain ⟨i,hi,hT⟩:=hT
  cases hz : i.zero with
  |none=>rw [hz] at hT;cases hT
  |some z=>
   rw [hz] at hT
   simp only at hT
   split at hT
   ·rename_i hc
    obtain ⟨hzs,hsz,hbp⟩:=hc
    simp only [Option.some.injEq,Prod.mk.injEq] at hT
    obtain ⟨rfl,rfl,rfl⟩:=hT
    have hnews : ∀ j u,news[j]? = some u→w.cell? (a.add j)=some u:=fun j u hj=>by obtain ⟨b,off,hp,hc⟩:=hs j u hj;cases hp;rw [xI];exact hc
    have hlen : (xs++news).length=(n+m)*i.size:=by rw [List.length_append,hxl,hl,Nat.add_mul]
    by_cases hroom : n+m≤cap
    ·have hmul : (n+m)*i.size≤cap*i.size:=Nat.mul_le_mul_right _ hroom
     have hfit : off+n*i.size+news.length≤cur.length:=by rw [hl];rw [Nat.add_mul] at hmul;omega
     have hf:=run_firstCells_some (P:=P) w i.size m a m c news hl hnews
     have hst:=run_storeCells_at P g (off+n*i.size) e' news 0 cur.toArray w B (by simpa using hfit) h1
     simp only [Nat.add_zero] at hst
     obtain ⟨f1,f2,f3⟩:=YR B (cur.take (off+n*i.size)++news++cur.drop (off+n*i.size+news.length))
     refine ⟨_,_,by simp [Builtin.append_,run_underlying hu,sizeOf,typeInfo,hi,Builtin.lenOf,hroom,hf,Addr.add_lit,hst],h _ _ ⟨hlen,.inr ⟨g,off,cap,_,rfl,f3,hroom,h3,?_,?_⟩⟩ (f1.mono fun k _ hk=>by cases hk;rfl) (.inl rfl)⟩
     ·simp only [List.length_append,List.length_take,List.length_drop];omega
     ·rw [← hlen,List.append_assoc,List.drop_append_of_le_length (by rw [List.length_take];omega),List.drop_take,show off+n*i.size - off=n*i.size by omega,h5,← List.append_assoc,List.take_left']
      rfl
    ·have h63 : n+m≤maxLen:=by
      have : (n+m)*1≤(n+m)*i.bytes:=Nat.mul_le_mul_left _ hbp
      simp only [maxLen];omega
     obtain ⟨v',w',hr,ho,hg⟩:=run_append_arg_grows (P:=P) w t ty e' i z i.size i.bytes hu hi hz rfl rfl hzs hsz ⟨g,off,none⟩ n cap xs hxl (fun j u hj=>by
      rw [xI,B.cell]
      rw [← h5,List.getElem?_take] at hj
      split at hj
      ·rwa [List.getElem?_drop] at hj
      ·cases hj) a m c news hl hnews (by omega) h63 hb
     refine ⟨v',w',hr,h v' w' (.of_row ho) ⟨hg.os,hg.tape,hg.output,hg.size,fun k hk _=>hg.block k hk (by simp)⟩ ?_⟩
     have hr2:=run_append_grow (P:=P) w t ty e' i z hu hi hz ⟨g,off,none⟩ n cap xs hxl (fun j u hj=>by
      rw [xI,B.cell]
      rw [← h5,List.getElem?_take] at hj
      split at hj
      ·rwa [List.getElem?_drop] at hj
      ·cases hj) a m c news hl hnews (by omega) (by simp only [maxLen] at h63;omega) (growslice_fits (by omega) hb)
     rw [hr] at hr2
     injection hr2 with e1 e2
     rw [e1];exact .inr rfl
   ·cases hT
theorem Que.drop {g off cap i : Nat} (h : Que w e size (.slice (some ⟨g,off,none⟩) n cap) n xs) (hi : i≤n) :
  Que w e size (.slice (if cap=i then some ⟨g,off,none⟩ else (some (⟨g,off,none⟩ : Addr)).map (·.add (i*size))) (n - i) (cap - i)) (n - i) (xs.drop (i*size)):=by
 obtain ⟨hl,⟨h0,_⟩|⟨g',off',cap',c,hv,B,h1,h2,h3,h4⟩⟩:=h
 ·cases h0
 cases hv
 refine ⟨by rw [List.length_drop,hl,Nat.sub_mul],.inr ?_⟩
 by_cases hc : cap=i
 ·rw [if_pos hc]
  have : n - i=0:=by omega
  refine ⟨g,off,cap - i,c,rfl,B,by omega,by omega,?_,?_⟩
  ·have : (cap - i)*size=0:=by rw [show cap - i=0 by omega,Nat.zero_mul]
   omega
  ·rw [this,Nat.zero_mul,List.take_zero,eq_comm,List.drop_eq_nil_iff,hl]
   exact Nat.mul_le_mul_right _ (by omega)
 ·rw [if_neg hc]
  refine ⟨g,off+i*size,cap - i,c,by simp only [Option.map_some,xI],B,by omega,by omega,?_,?_⟩
  ·have : i*size≤cap*size:=Nat.mul_le_mul_right _ (by omega)
   rw [Nat.sub_mul];omega
  ·rw [← h4,List.drop_take,List.drop_drop,Nat.sub_mul]
end
theorem aic {P : Program} {w : World} {f : FuncId} {K : Value→World→Prop} {x0 : Value} (he : yJ P f=true) (h : zd P f #[x0] w K) : zB P (.func (.func f) #[] #[]) #[x0] w K:=xo he h
theorem Yc {P : Program} {w : World} {f : FuncId} {K : Value→World→Prop} {x0 c0 : Value} (he : yJ P f=true) (h : zd P f #[x0,c0] w K) : zB P (.func (.func f) #[] #[c0]) #[x0] w K:=xo he h
theorem Jh {P : Program} {w : World} {f : FuncId} {K : Value→World→Prop} {x0 c0 c1 : Value} (he : yJ P f=true) (h : zd P f #[x0,c0,c1] w K) : zB P (.func (.func f) #[] #[c0,c1]) #[x0] w K:=xo he h
theorem aid {P : Program} {w : World} {f : FuncId} {K : Value→World→Prop} {x0 x1 : Value} (he : yJ P f=true) (h : zd P f #[x0,x1] w K) : zB P (.func (.func f) #[] #[]) #[x0,x1] w K:=xo he h
theorem aie {P : Program} {w : World} {f : FuncId} {K : Value→World→Prop} {x0 x1 c0 : Value} (he : yJ P f=true) (h : zd P f #[x0,x1,c0] w K) : zB P (.func (.func f) #[] #[c0]) #[x0,x1] w K:=xo he h
theorem af8 {P : Program} {w : World} {f : FuncId} {K : Value→World→Prop} {x0 x1 c0 c1 : Value} (he : yJ P f=true) (h : zd P f #[x0,x1,c0,c1] w K) : zB P (.func (.func f) #[] #[c0,c1]) #[x0,x1] w K:=xo he h
class Yd (v : Value) (L : List Asr) (e : outParam TypeId) (sz n : outParam Nat) (xs : outParam (List Value)) (f : outParam (Asr→List Asr)) : Prop where
 h : ∃ p q,L=p ++ .que v e sz n xs::q∧∀ y,f y=p++y::q
instance {v : Value} {e : TypeId} {sz n : Nat} {xs : List Value} {L : List Asr} : Yd v (.que v e sz n xs::L) e sz n xs fun y=>y::L:=⟨[],L,rfl,fun _=>rfl⟩
instance (priority:=low) {v : Value} {e : TypeId} {sz n : Nat} {xs : List Value} {x : Asr} {L : List Asr} {f : Asr→List Asr} [h : Yd v L e sz n xs f] : Yd v (x::L) e sz n xs fun y=>x::f y:=⟨by
 obtain ⟨p,q,h1,h2⟩:=h.h
 exact ⟨x::p,q,by rw [h1];rfl,fun c'=>by rw [h2];rfl⟩⟩
section
variable {P : Program} {X : Nat→Prop} {w0 w : World} {r : Gh} {L : List Asr} {t e : TypeId} {sz n m : Nat} {v : Value} {xs news : List Value} {g : Asr→List Asr}
theorem StX.que (S : StX X w0 r w L) (v : Value) [h : Yd v L e sz n xs g] : Que w e sz v n xs:=by
 obtain ⟨pp,qq,h2,h3⟩:=h.h
 exact S.has (.que v e sz n xs) (by rw [h2];simp)
theorem StX.queS (S : StX X w0 r w L) (v : Value) [h : Yd v L e sz n xs g] : ∃ p cap,v = .slice p n cap∧(p=none→cap=0)∧n≤cap∧xs.length=n*sz∧Sl w p xs:=
 (S.que v (h:=h)).shape
theorem StX.toQue (S : StX X w0 r w L) (v : Value) [h : kc v L e sz n xs g] : StX X w0 r w (g (.que v e sz n xs)):=by
 obtain ⟨pp,qq,h2,h3⟩:=h.h
 have hr:=S.has (.row v e sz n xs) (by rw [h2];simp)
 rw [h3]
 rw [h2] at S
 exact S.turn (x:=.row v e sz n xs) (y:=.que v e sz n xs) (ExtBut.refl _ _) (Que.of_row hr) fun k hk=>.inl hk
theorem StX.apQ (S : StX X w0 r w L) {ty : TypeId} {by' cap : Nat} {a : Addr} [h : Yd v L e sz n xs g] [z : ApT P t e sz by'] {K : Value→World→Prop}
  (hs : Sl w (some a) news) (k : ∀ v' w',StX X w0 r w' (g (.que v' e sz (n+m) (xs++news)))→K v' w')
  (hb : (n+m)*by'≤140737488355328) (hl : news.length=m*sz:=by simp) (h1 : ∀ u ∈ news,u.oneCell'=true:=by simp [Value.oneCell']) : opW P w (Builtin.append_ #[t,t] ty #[v,.slice (some a) m cap]) K:=by
 obtain ⟨pp,qq,h2,h3⟩:=h.h
 have hr:=S.has (.que v e sz n xs) (by rw [h2];simp)
 refine adS z.h hr hs hl h1 hb fun v' w' h4 h5 h6=>k v' w' ?_
 rw [h3]
 rw [h2] at S
 refine S.turn (x:=.que v e sz n xs) (y:=.que v' e sz (n+m) (xs++news)) h5 h4 fun j hj=>?_
 rw [Asr.dom] at hj
 rcases h6 with h6|h6
 ·rw [h6] at hj;exact .inl hj
 ·rw [h6] at hj;cases hj;exact .inr (Nat.le_refl _)
theorem StX.loQ (S : StX X w0 r w L) {e' : TypeId} {kd : IntKind} {i : Int} [h : Yd v L e sz n xs g] [z : SlT P t e' sz] {K : Value→Prop}
  (h0 : 0≤i) (hi : i≤n) (hn : 0<n) (k : ∀ v',StX X w0 r w (g (.que v' e sz (n - i.toNat) (xs.drop (i.toNat*sz))))→K v') : opP P (Instr.sliceAt t v (some (.int kd i)) none none) K:=by
 obtain ⟨pp,qq,h2,h3⟩:=h.h
 have hr:=S.has (.que v e sz n xs) (by rw [h2];simp)
 have hr0:=hr
 rcases hr.2 with ⟨rfl,h4⟩|⟨gb,off,cap,c,rfl,_⟩
 ·omega
 refine Vt z.h h0 hi (k _ ?_)
 rw [h3]
 rw [h2] at S
 refine S.turn (x:=.que (.slice (some ⟨gb,off,none⟩) n cap) e sz n xs) (y:=.que _ e sz _ _) (ExtBut.refl _ _) (Que.drop hr0 (by omega)) fun j hj=>.inl ?_
 simp only [Asr.dom] at hj ⊢
 split at hj
 ·exact hj
 ·simp only [Option.map_some,xI] at hj;exact hj
end
theorem StX.mkS {P : Program} {X : Nat→Prop} {w0 w : World} {r : Gh} {L : List Asr} {t e : TypeId} {bytes : Nat} {kl : IntKind} {n : Int} {z : Value} (S : StX X w0 r w L) [hT : ApT P t e 1 bytes] [hz : ZrT P e [z]] {K : Value→World→Prop} (h0 : 0≤n) (hb : (bytes : Int)*n≤281474976710656)
  (h : ∀ b w',StX X w0 r w' (.cell b (List.replicate n.toNat z) e::L)→K (.slice (some ⟨b,0,none⟩) n.toNat n.toNat) w') : opW P w (Instr.makeSlice t (.int kl n) (.int kl n)) K:=
 aaF hT.h hz.h h0 hb fun b w' hb e _ B=>h b w' (S.add e (by omega) B)
class ja (b : Nat) (L : List Asr) (c : outParam (List Value)) (T : outParam TypeId) (M : outParam (List Asr)) : Prop where
 h : L.Perm (.cell b c T::M)
instance {b : Nat} {c : List Value} {T : TypeId} {L : List Asr} : ja b (.cell b c T::L) c T L:=⟨.refl _⟩
instance (priority:=low) {b : Nat} {c : List Value} {T : TypeId} {x : Asr} {L M : List Asr} [h : ja b L c T M] : ja b (x::L) c T (x::M):=⟨(h.h.cons x).trans (.swap _ _ _)⟩
theorem StX.permO {X : Nat→Prop} {w0 w : World} {r : Gh} {L M : List Asr} (S : StX X w0 r w L) (h : M.Perm L) : StX X w0 r w M:=
 ⟨S.x,S.holds,fun x hx=>S.has x (h.subset hx),fun x hx=>S.mine x (h.subset hx),h.symm.pairwise S.apart fun hab k hb ha=>hab k ha hb⟩
theorem StX.frzAt {X : Nat→Prop} {w0 w : World} {r : Gh} {L M : List Asr} (S : StX X w0 r w L) (b : Nat) {c : List Value} {T : TypeId} [h : ja b L c T M] : StX X w0 (r.or (Go.Sh.one b c T)) w M:=
 (S.permO h.h.symm).frz
theorem StX.drop {X : Nat→Prop} {w0 w : World} {r : Gh} {L M : List Asr} (S : StX X w0 r w L) (b : Nat) {c : List Value} {T : TypeId} [h : ja b L c T M] : StX X w0 r w M:=
 (S.permO h.h.symm).tl
end Go.Sh
end
section
namespace Go.Sh
open Go.RowKit
set_option linter.unusedSimpArgs false
set_option linter.unusedVariables false
theorem zi {w : World} {A : (List Value→World→Prop)→Prop} {Z : Value→World→Prop} {b c : Bool} (hA : b=true→∀ K : List Value→World→Prop,K [.bool c] w→A K) (hZ : Z (.bool (b&&c)) w) :
  za (fun K=>gIf (.bool b) true (A K) (K [undef] w)) fun s _ w'=>zb (.bool b) (s.getD 0 undef) (.bool false) fun t=>Z t w':=by
 intro K hK
 cases b with
 |true=>exact hA rfl K (hK _ _ fun _=>⟨true,rfl,by simpa using hZ⟩)
 |false=>exact hK _ _ fun _=>⟨false,rfl,by simpa using hZ⟩
theorem zo {w : World} {A : (List Value→World→Prop)→Prop} {Z : Value→World→Prop} {b c : Bool} (hA : b=false→∀ K : List Value→World→Prop,K [.bool c] w→A K) (hZ : Z (.bool (b||c)) w) :
  za (fun K=>gIf (.bool b) false (A K) (K [undef] w)) fun s _ w'=>zb (.bool b) (.bool true) (s.getD 0 undef) fun t=>Z t w':=by
 intro K hK
 cases b with
 |true=>exact hK _ _ fun _=>⟨true,rfl,by simpa using hZ⟩
 |false=>exact hA rfl K (hK _ _ fun _=>⟨false,rfl,by simpa using hZ⟩)
section
variable {P : Program} {w : World} {t : TypeId} {c : Bool} {K : Value→Prop}
end
end Go.Sh
namespace Go.Sh
section
variable {P : Program} {w : World} {f : FuncId} {K : Value→World→Prop} {Kp : List PanicEntry→World→Prop}
end
end Go.Sh
end
section
namespace Go.Proofs
open Go.Sh
set_option maxRecDepth 100000
section
variable {X : Nat→Prop} {w0 w : World} {r : Gh} {L : List Asr} {rb : Nat} {s p : List UInt8} {a : Nat} {K : Value→World→Prop} {Kp : List PanicEntry→World→Prop}
end
end Go.Proofs
end
section
namespace Go.Proofs
open Go.Sh
set_option maxRecDepth 100000
section
variable {X : Nat→Prop} {w0 w : World} {r : Gh} {L : List Asr} {rb : Nat} {s : List UInt8} {a : Nat} {K : Value→World→Prop} {Kp : List PanicEntry→World→Prop}
end
end Go.Proofs
end
section
namespace Go.Proofs
open Go.Sh
set_option linter.unusedVariables false
set_option linter.unusedSimpArgs false
namespace Gr
variable {α β : Type}
end Gr
end Go.Proofs
end
section
namespace Go.Proofs
open Go.Sh
set_option maxRecDepth 100000
inductive J1 : Gh→Value→TyD→Prop
 |nil {sn : Gh} {v : Value} {k re st : Int} {m : Bool} : J1 sn v (.mk k m re st [])
 |one {sn : Gh} {b : Nat} {c : List Value} {k re st : Int} {m : Bool} {u : TyD} (no : ∀ o,¬ sn b o) (hc : c.length=5) (ht : TyG sn (.agg c.toArray) u) (h : J1 sn (.agg c.toArray) u) :
  J1 (sn.or (Go.Sh.one b c 83)) (.agg #[.int .u8 k,.bool m,.int .i64 re,.int .i64 st,.slice (some ⟨b,0,none⟩) 1 1]) (.mk k m re st [u])
theorem adT {r : Gh} {v : Value} {u : TyD} {b : Nat} {k re st : Int} {m : Bool} (h : TyG r v u) :
  TyG (r.or (Go.Sh.one b v.cells.toList 83)) (.agg #[.int .u8 k,.bool m,.int .i64 re,.int .i64 st,.slice (some ⟨b,0,none⟩) 1 1]) (.mk k m re st [u]):=by
 obtain ⟨c,rfl,hc,hr⟩:=h.rep
 refine ⟨_,1,rfl,by simp,Nat.le_refl _,?_⟩
 refine ⟨⟨c,hc,fun j x hj=>⟨b,0,rfl,fun w hw=>?_⟩,hr.up⟩,trivial⟩
 have B:=zF (b:=b) (c:=(Value.agg c.toArray).cells.toList) (T:=83) w (hw.le (h:=inferInstance))
 show w.cell? ⟨b,0+0*5+j,none⟩=some x
 rw [show 0+0*5+j=j by omega,B.cell]
 exact hj
theorem ZV {r : Gh} {k re st : Int} {m : Bool} : TyG r (.agg #[.int .u8 k,.bool m,.int .i64 re,.int .i64 st,.slice none 0 0]) (.mk k m re st []):=
 ⟨none,0,rfl,fun _=>rfl,Nat.le_refl _,trivial⟩
section
variable {X : Nat→Prop} {w0 w : World} {r : Gh} {L : List Asr} {rb : Nat} {s p : List UInt8} {a : Nat} {K : Value→World→Prop} {Kp : List PanicEntry→World→Prop}
end
end Go.Proofs
end
section
namespace Go.Proofs
open Go.Sh
set_option maxRecDepth 100000
set_option linter.unusedSimpArgs false
theorem agz {w : World} {A : (List Value→World→Prop)→Prop} {Z : Value→World→Prop} {b c : Bool} (R : World→Prop) (h0 : R w) (hA : b=true→∀ K : List Value→World→Prop,(∀ w',R w'→K [.bool c] w')→A K) (hZ : ∀ w',R w'→Z (.bool (b&&c)) w') :
  za (fun K=>gIf (.bool b) true (A K) (K [undef] w)) fun s _ w'=>zb (.bool b) (s.getD 0 undef) (.bool false) fun t=>Z t w':=by
 intro K hK
 cases b with
 |true=>exact hA rfl K fun w' e=>hK _ _ fun _=>⟨true,rfl,by simpa using hZ w' e⟩
 |false=>exact hK _ _ fun _=>⟨false,rfl,by simpa using hZ w h0⟩
section
variable {X : Nat→Prop} {w0 w : World} {r : Gh} {L : List Asr} {rb : Nat} {s p : List UInt8} {a : Nat} {K : Value→World→Prop} {Kp : List PanicEntry→World→Prop}
end
end Go.Proofs
end
section
namespace Go.Proofs
open Go.Sh
set_option maxRecDepth 100000
set_option linter.unusedSimpArgs false
end Go.Proofs
end
section
namespace Go.Proofs
open Go.Sh
set_option maxRecDepth 100000
set_option linter.unusedSimpArgs false
def yr : TyD:=.mk 0 false 0 0 []
end Go.Proofs
end
section
namespace Go.Proofs
open Go.Sh
set_option maxRecDepth 100000
set_option linter.unusedSimpArgs false
section
variable {X : Nat→Prop} {w0 w : World} {r : Gh} {L : List Asr} {rb : Nat} {s p : List UInt8} {a : Nat} {st : Bool} {K : Value→World→Prop}
end
end Go.Proofs
end
section
namespace Go.Proofs
open Go.Sh
set_option maxRecDepth 100000
set_option linter.unusedSimpArgs false
section
variable {X : Nat→Prop} {w0 w : World} {r : Gh} {L : List Asr} {rb : Nat} {s p : List UInt8} {a : Nat} {st : Bool} {K : Value→World→Prop}
end
end Go.Proofs
end
section
namespace Go.Proofs
open Go.Sh
set_option maxRecDepth 100000
set_option linter.unusedSimpArgs false
theorem _root_.Go.Sh.StX.perm {X : Nat→Prop} {w0 w : World} {r : Gh} {L M : List Asr} (S : StX X w0 r w L) (hp : L.Perm M) : StX X w0 r w M:=
 ⟨S.x,S.holds,fun z hz=>S.has z (hp.mem_iff.2 hz),fun z hz=>S.mine z (hp.mem_iff.2 hz),(List.Perm.pairwise_iff (fun h k h1 h2=>h k h2 h1) hp).1 S.apart⟩
section
variable {X : Nat→Prop} {w0 w : World} {r : Gh} {L : List Asr} {rb : Nat} {s p : List UInt8} {a : Nat} {K : Value→World→Prop}
end
end Go.Proofs
end
section
namespace Go.Proofs
open Go.Sh
set_option maxRecDepth 100000
set_option linter.unusedSimpArgs false
set_option linter.unusedVariables false
end Go.Proofs
end
section
namespace Go.Proofs
open Go.Sh
set_option maxRecDepth 100000
set_option linter.unusedSimpArgs false
set_option linter.unusedVariables false
end Go.Proofs
end
