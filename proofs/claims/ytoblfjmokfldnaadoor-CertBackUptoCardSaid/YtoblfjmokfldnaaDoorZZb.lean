/-
  A way of walking: a memory that stays (a ghost), the cells that the walk itself has made, and one fact that carries both from world to world. Steps by classes.
  More of the way of walking: a row of one's own as a cell; what is frozen.
  The shallow reading of a function that defers one closure, and of a deferred closure that recovers.
  Data as such: what a value tells in a memory that stays, whatever its type: numbers, texts, structs, slices.
  Conditions put together: the value of 'and', 'or' as it stands.
  More of the way of walking: literals in a drawn region, cells that come to stay, rows that are given and taken.
  Strings as lists of bytes; interface values; structs compared.
  The seat's types, reckoned: what each operation on them asks. Made by a program (wip/gen/gen.py).
  Shallow readings of functions. Made by a program (wip/gen/gen.py) out of the translation; the kernel checks each equality.
  What is read of bytes, byte by byte: readers as data; how far they go. No program in sight.
  Rows of bits as plain data: width and words. No program in sight.
-/
import Derived.Test.YtoblfjmokfldnaaDoorZZa
import Derived.RecoverIn
import Derived.Laws.StructEq
import Derived.Laws.Concat
import Derived.WideLaws
import Derived.Test.YtoblfjmokfldnaaDoorProg
import Derived.KernelRfl

section
namespace Go.Sh
open Go.RowKit

/-! ### Steps that ask nothing of memory -/
class PStep (P : Program) (s : Sem Value) (v : outParam Value) : Prop where
  yields : ∀ w, s.run P w = .ok v w
class PCond (P : Program) (s : Sem Value) (v : outParam Value) (c : outParam Prop) : Prop where
  yields : c → ∀ w, s.run P w = .ok v w
section
variable {P : Program} {s : Sem Value} {v : Value} {c : Prop}
theorem s_p {K : Value → Prop} [i : PStep P s v] (k : K v) : opP P s K := p_of i.yields k
theorem s_c {K : Value → Prop} [i : PCond P s v c] (h : c) (k : K v) : opP P s K := p_of (i.yields h) k
theorem s_q {w : World} {K : Value → Prop} [i : PStep P s v] (k : K v) : opQ P w s K := q_of_p (s_p k)
theorem s_qc {w : World} {K : Value → Prop} [i : PCond P s v c] (h : c) (k : K v) : opQ P w s K := q_of_p (s_c h k)
theorem PStep.of (h : ∀ K : Value → Prop, K v → opP P s K) : PStep P s v := ⟨by
  obtain ⟨v', h1, rfl⟩ := h (fun x => x = v) rfl
  exact h1⟩
theorem PCond.of (h : c → ∀ K : Value → Prop, K v → opP P s K) : PCond P s v c := ⟨fun hc => by
  obtain ⟨v', h1, rfl⟩ := h hc (fun x => x = v) rfl
  exact h1⟩
end

/-! ### What is asked of types -/
class FldT (P : Program) (t : TypeId) (i : Nat) (n : outParam Nat) : Prop where
  h : fldT P t i = some n
class SlT (P : Program) (t : TypeId) (e : outParam TypeId) (n : outParam Nat) : Prop where
  h : slT P t = some (e, n)
class StrT (P : Program) (t : TypeId) : Prop where
  h : strT P t = true
class Ld1 (P : Program) (t : TypeId) : Prop where
  h : ld1 P t = true
class LdN (P : Program) (t : TypeId) (n : outParam Nat) : Prop where
  h : ldN P t = some n
class SzT (P : Program) (t : TypeId) (n : outParam Nat) : Prop where
  h : szT P t = some n
class ZrT (P : Program) (t : TypeId) (c : outParam (List Value)) : Prop where
  h : zrT P t = some c
class ApT (P : Program) (t : TypeId) (e : outParam TypeId) (n b : outParam Nat) : Prop where
  h : apT P t = some (e, n, b)
class ArT (P : Program) (t : TypeId) (l : outParam Nat) (e : outParam TypeId) (n : outParam Nat) : Prop where
  h : arT P t = some (l, e, n)
class KdT (P : Program) (t : TypeId) (k : outParam IntKind) : Prop where
  h : kdT P t = some k
class KdB (P : Program) (t : TypeId) : Prop where
  h : kdB P t = true
class FnT (P : Program) (t : TypeId) : Prop where
  h : fnT P t = true
class BytT (P : Program) (t : TypeId) : Prop where
  h : bytT P t = true
section
variable {P : Program} {t ty e : TypeId} {c : Bool} {i j : IntKind} {a b : Int} {n l : Nat}
instance : PStep P (bsem .lss t c (.int i a) (.int i b)) (.bool (decide (a < b))) := .of fun _ k => p_lss k
instance : PStep P (bsem .leq t c (.int i a) (.int i b)) (.bool (decide (a ≤ b))) := .of fun _ k => p_leq k
instance : PStep P (bsem .gtr t c (.int i a) (.int i b)) (.bool (decide (b < a))) := .of fun _ k => p_gtr k
instance : PStep P (bsem .geq t c (.int i a) (.int i b)) (.bool (decide (b ≤ a))) := .of fun _ k => p_geq k
instance : PStep P (bsem .eql t c (.int i a) (.int i b)) (.bool (decide (a = b))) := .of fun _ k => p_eql k
instance : PStep P (bsem .neq t c (.int i a) (.int i b)) (.bool (decide (a ≠ b))) := .of fun _ k => p_neq k
instance {x : Bool} : PStep P (Op.unary .not (.bool x)) (.bool (!x)) := .of fun _ k => p_not k
instance : PCond P (bsem .add t c (.int .i64 a) (.int .i64 b)) (.int .i64 (a + b)) (-9223372036854775808 ≤ a + b ∧ a + b < 9223372036854775808) := .of fun h _ k => p_add h k
instance : PCond P (bsem .sub t c (.int .i64 a) (.int .i64 b)) (.int .i64 (a - b)) (-9223372036854775808 ≤ a - b ∧ a - b < 9223372036854775808) := .of fun h _ k => p_sub h k
instance : PCond P (bsem .mul t c (.int .i64 a) (.int .i64 b)) (.int .i64 (a * b)) (-9223372036854775808 ≤ a * b ∧ a * b < 9223372036854775808) := .of fun h _ k => p_mul h k
instance : PCond P (bsem .quo t c (.int .i64 a) (.int .i64 b)) (.int .i64 (a / b)) (0 ≤ a ∧ a < 9223372036854775808 ∧ 0 < b) := .of fun h _ k => p_quo h.1 h.2.1 h.2.2 k
instance : PCond P (bsem .rem t c (.int .i64 a) (.int .i64 b)) (.int .i64 (a % b)) (0 ≤ a ∧ 0 < b) := .of fun h _ k => p_rem h.1 h.2 k
instance : PCond P (Op.unary .neg (.int .i64 a)) (.int .i64 (-a)) (-9223372036854775808 ≤ -a ∧ -a < 9223372036854775808) := .of fun h _ k => p_neg h k
instance {x y : BitVec 64} : PStep P (bsem .and t c (u64 x) (u64 y)) (u64 (x &&& y)) := .of fun _ k => p_and64 (by rw [of64]; exact k)
instance {x y : BitVec 64} : PStep P (bsem .or t c (u64 x) (u64 y)) (u64 (x ||| y)) := .of fun _ k => p_or64 (by rw [of64]; exact k)
instance {x y : BitVec 64} : PStep P (bsem .xor t c (u64 x) (u64 y)) (u64 (x ^^^ y)) := .of fun _ k => p_xor64 (by rw [of64]; exact k)
instance {x y : BitVec 64} : PStep P (bsem .andNot t c (u64 x) (u64 y)) (u64 (x &&& ~~~ y)) := .of fun _ k => p_andNot64 (by rw [of64]; exact k)
instance {x y : BitVec 64} : PStep P (bsem .sub t c (u64 x) (u64 y)) (u64 (x - y)) := .of fun _ k => p_sub64 (by rw [of64]; exact k)
instance {x y : BitVec 64} : PStep P (bsem .add t c (u64 x) (u64 y)) (u64 (x + y)) := .of fun _ k => p_add64 k
instance (priority := low) {x : BitVec 64} : PStep P (bsem .and t c (u64 x) (.int .u64 a)) (u64 (x &&& BitVec.ofInt 64 a)) := .of fun _ k => p_and64 k
instance (priority := low) {x : BitVec 64} : PStep P (bsem .or t c (u64 x) (.int .u64 a)) (u64 (x ||| BitVec.ofInt 64 a)) := .of fun _ k => p_or64 k
instance (priority := low) {x : BitVec 64} : PStep P (bsem .xor t c (u64 x) (.int .u64 a)) (u64 (x ^^^ BitVec.ofInt 64 a)) := .of fun _ k => p_xor64 k
instance (priority := low) {x : BitVec 64} : PStep P (bsem .sub t c (u64 x) (.int .u64 a)) (u64 (x - BitVec.ofInt 64 a)) := .of fun _ k => p_sub64 k
instance {x : BitVec 64} : PStep P (Op.unary .xor (u64 x)) (u64 (~~~ x)) := .of fun _ k => p_not64 k
instance {x : BitVec 64} : PCond P (bsem .shr t c (u64 x) (.int i a)) (u64 (x >>> a.toNat)) (0 ≤ a) := .of fun h _ k => p_shr64 h k
instance : PCond P (bsem .shl t c (.int .u64 b) (.int i a)) (u64 (BitVec.ofInt 64 b <<< a.toNat)) (0 ≤ a) := .of fun h _ k => p_shl64 h k
instance {x y : BitVec 8} : PStep P (bsem .and t c (u8 x) (u8 y)) (u8 (x &&& y)) := .of fun _ k => p_and88 k
instance {x y : BitVec 8} : PStep P (bsem .or t c (u8 x) (u8 y)) (u8 (x ||| y)) := .of fun _ k => p_or88 k
instance {x : BitVec 8} : PCond P (bsem .shr t c (u8 x) (.int i a)) (u8 (x >>> a.toNat)) (0 ≤ a) := .of fun h _ k => p_shr8 h k
instance {f : Fn} {x y : Array Value} : PStep P (Instr.makeFunc f x y) (.func f x y) := .of fun _ k => p_func k
instance {b off k : Nat} [h : FldT P t k n] : PStep P (Instr.fieldAt t (.pointer (some ⟨b, off, none⟩)) k) (.pointer (some ⟨b, off + n, none⟩)) := .of fun _ k => p_field h.h k
instance {p : Option Addr} {len cap : Nat} [h : SlT P t e n] : PStep P (Builtin.len_ #[t] ty #[.slice p len cap]) (.int .i64 len) := .of fun _ k => p_lenS h.h k
instance {p : Option Addr} {len cap : Nat} [h : SlT P t e n] : PStep P (Builtin.cap_ #[t] ty #[.slice p len cap]) (.int .i64 cap) := .of fun _ k => p_capS h.h k
instance {x : ByteArray} [h : StrT P t] : PStep P (Builtin.len_ #[t] ty #[.string x]) (.int .i64 x.size) := .of fun _ k => p_lenStr h.h k
instance : PStep P (Builtin.min_ #[t, e] ty #[.int .i64 a, .int .i64 b]) (.int .i64 (min a b)) := .of fun _ k => p_min k
instance {b off len cap : Nat} [h : SlT P t e 1] : PCond P (Instr.indexAt t (.slice (some ⟨b, off, none⟩) len cap) (.int i a)) (.pointer (some ⟨b, off + a.toNat, none⟩)) (0 ≤ a ∧ a < len) :=
  .of fun x _ k => p_index (e := e) (n := 1) h.h x.1 x.2 (by rw [Nat.mul_one]; exact k)
instance (priority := low) {b off len cap : Nat} [h : SlT P t e n] : PCond P (Instr.indexAt t (.slice (some ⟨b, off, none⟩) len cap) (.int i a)) (.pointer (some ⟨b, off + a.toNat * n, none⟩)) (0 ≤ a ∧ a < len) :=
  .of fun x _ k => p_index (e := e) (n := n) h.h x.1 x.2 k
instance {b off : Nat} [h : ArT P t l e n] : PCond P (Instr.indexAt t (.pointer (some ⟨b, off, none⟩)) (.int i a)) (.pointer (some ⟨b, off + a.toNat * n, none⟩)) (0 ≤ a ∧ a < l) :=
  .of fun x _ k => p_indexA h.h x.1 x.2 k
instance {p : Option Addr} {len cap : Nat} [h : SlT P t e n] : PCond P (Instr.sliceAt t (.slice p len cap) none (some (.int i a)) none) (.slice p a.toNat cap) (0 ≤ a ∧ a ≤ cap) :=
  .of fun x _ k => p_sliceHi (e := e) (n := n) h.h x.1 x.2 k
instance {p : Option Addr} {len cap : Nat} [h : SlT P t e n] : PCond P (Instr.sliceAt t (.slice p len cap) (some (.int i a)) none none) (.slice (if cap = a.toNat then p else p.map (·.add (a.toNat * n))) (len - a.toNat) (cap - a.toNat)) (0 ≤ a ∧ a ≤ len) :=
  .of fun x _ k => p_sliceLo (e := e) (n := n) h.h x.1 x.2 k
instance {x : ByteArray} [h : StrT P t] : PCond P (Instr.sliceAt t (.string x) none (some (.int i a)) none) (.string (x.extract 0 a.toNat)) (0 ≤ a ∧ a ≤ x.size) := .of fun y _ k => p_strHi h.h y.1 y.2 k
instance {x : ByteArray} [h : StrT P t] : PCond P (Instr.sliceAt t (.string x) (some (.int i a)) none none) (.string (x.extract a.toNat x.size)) (0 ≤ a ∧ a ≤ x.size) := .of fun y _ k => p_strLo h.h y.1 y.2 k
instance {p : Option Addr} {len cap l' c' : Nat} [h : SlT P t e n] : PStep P (bsem .eql t c (.slice p len cap) (.slice none l' c')) (.bool p.isNone) := .of fun _ k => p_eqNilS h.h k
instance {p : Option Addr} {len cap l' c' : Nat} [h : SlT P t e n] : PStep P (bsem .neq t c (.slice p len cap) (.slice none l' c')) (.bool (!p.isNone)) := .of fun _ k => p_neqNilS h.h k
instance {x y : Bool} [h : KdB P t] : PStep P (bsem .eql t c (.bool x) (.bool y)) (.bool (x == y)) := .of fun _ k => p_eqlB h.h k
instance {x y : Bool} [h : KdB P t] : PStep P (bsem .neq t c (.bool x) (.bool y)) (.bool (!(x == y))) := .of fun _ k => p_neqB h.h k
instance {f : Fn} {x y : Array Value} [h : FnT P t] : PStep P (bsem .eql t c (.func f x y) .nilFunc) (.bool false) := .of fun _ k => p_eqlFn h.h k
instance {f : Fn} {x y : Array Value} [h : FnT P t] : PStep P (bsem .neq t c (.func f x y) .nilFunc) (.bool true) := .of fun _ k => p_neqFn h.h k
instance {s : TypeId} {k1 k3 : IntKind} [h1 : KdT P s k1] [h2 : KdT P t .i64] : PCond P (convert s t (.int k3 a)) (.int .i64 a) (-9223372036854775808 ≤ a ∧ a < 9223372036854775808) := .of fun x _ k => p_cvt64 h1.h h2.h x k
instance {a b : Value} : PStep P (Instr.extract (.tuple #[a, b]) 0) a := .of fun _ k => x20 k
instance {a b : Value} : PStep P (Instr.extract (.tuple #[a, b]) 1) b := .of fun _ k => x21 k
instance {a b d : Value} : PStep P (Instr.extract (.tuple #[a, b, d]) 0) a := .of fun _ k => x30 k
instance {a b d : Value} : PStep P (Instr.extract (.tuple #[a, b, d]) 1) b := .of fun _ k => x31 k
instance {a b d : Value} : PStep P (Instr.extract (.tuple #[a, b, d]) 2) d := .of fun _ k => x32 k
instance {a b d x : Value} : PStep P (Instr.extract (.tuple #[a, b, d, x]) 0) a := .of fun _ k => x40 k
instance {a b d x : Value} : PStep P (Instr.extract (.tuple #[a, b, d, x]) 1) b := .of fun _ k => x41 k
instance {a b d x : Value} : PStep P (Instr.extract (.tuple #[a, b, d, x]) 2) d := .of fun _ k => x42 k
instance {a b d x : Value} : PStep P (Instr.extract (.tuple #[a, b, d, x]) 3) x := .of fun _ k => x43 k
end

/-! ### What stays -/
/-- some blocks and what lies there -/
abbrev Gh := Nat → Obj → Prop
def Gh.or (r s : Gh) : Gh := fun b o => r b o ∨ s b o
def Holds (r : Gh) (w : World) : Prop := ∀ b o, r b o → w.heap[b]? = some o
theorem Holds.lt {r : Gh} {w : World} (h : Holds r w) {b : Nat} {o : Obj} (hb : r b o) : b < w.heap.size := (Array.getElem?_eq_some_iff.1 (h b o hb)).1
theorem Holds.ext {r : Gh} {w w' : World} (h : Holds r w) (e : Ext w w') : Holds r w' := fun b o hb => (e.block b (h.lt hb)).trans (h b o hb)
theorem Holds.but {r : Gh} {S : Nat → Prop} {w w' : World} (h : Holds r w) (e : ExtBut S w w') (hS : ∀ b o, r b o → ¬ S b) : Holds r w' := fun b o hb => (e.block b (h.lt hb) (hS b o hb)).trans (h b o hb)
theorem Holds.or {r s : Gh} {w : World} (h : Holds r w) (k : Holds s w) : Holds (r.or s) w := fun b o hb => hb.elim (h b o) (k b o)
class Le (r s : Gh) : Prop where
  le : ∀ b o, r b o → s b o
instance {r : Gh} : Le r r := ⟨fun _ _ h => h⟩
instance (priority := high) {r s t : Gh} [h : Le r t] [k : Le s t] : Le (r.or s) t := ⟨fun b o x => x.elim (h.le b o) (k.le b o)⟩
instance {r s t : Gh} [h : Le r s] : Le r (s.or t) := ⟨fun b o k => .inl (h.le b o k)⟩
instance {r s t : Gh} [h : Le r t] : Le r (s.or t) := ⟨fun b o k => .inr (h.le b o k)⟩
theorem Holds.le {r s : Gh} {w : World} [h : Le r s] (k : Holds s w) : Holds r w := fun b o hb => k b o (h.le b o hb)
/-- it is so in every world that holds these -/
def Ob (r : Gh) (p : World → Prop) : Prop := ∀ w, Holds r w → p w
theorem Ob.up {r s : Gh} {p : World → Prop} (h : Ob r p) [l : Le r s] : Ob s p := fun w k => h w (k.le (h := l))
theorem Ob.mono {r : Gh} {p q : World → Prop} (h : Ob r p) (k : ∀ w, p w → q w) : Ob r q := fun w x => k w (h w x)
/-- all that a world holds -/
def all (w : World) : Gh := fun b o => w.heap[b]? = some o
theorem all_holds (w : World) : Holds (all w) w := fun _ _ h => h
/-- all that a world holds that another one did not -/
def news (w w' : World) : Gh := fun b o => w.heap.size ≤ b ∧ w'.heap[b]? = some o
theorem news_holds (w w' : World) : Holds (news w w') w' := fun _ _ h => h.2
theorem cell_all {w : World} {a : Addr} {v : Value} (h : w.cell? a = some v) : Ob (all w) fun w' => w'.cell? a = some v := fun w' k => by
  have hl := cell_lt h
  show w'.cell? a = some v
  rw [World.cell?_of_block (w := w) ((k a.block _ (Array.getElem?_eq_getElem hl)).trans (Array.getElem?_eq_getElem hl).symm)]; exact h
theorem Sl.all {w : World} {p : Option Addr} {vs : List Value} (h : Sl w p vs) : Ob (all w) fun w' => Sl w' p vs := fun w' k i v hv => by
  obtain ⟨b, off, hp, hc⟩ := h i v hv
  exact ⟨b, off, hp, cell_all hc w' k⟩
/-- one block -/
def one (b : Nat) (c : List Value) (T : TypeId) : Gh := fun k o => k = b ∧ o = .cells c.toArray T (0, 0)
theorem one_holds {w : World} {b : Nat} {c : List Value} {T : TypeId} (h : Blk w b c T) : Holds (one b c T) w := by rintro _ _ ⟨rfl, rfl⟩; exact h
theorem one_blk {b : Nat} {c : List Value} {T : TypeId} : Ob (one b c T) fun w => Blk w b c T := fun _ h => h b _ ⟨rfl, rfl⟩
/-- what a call has laid anew -/
structure New (w : World) (s : Gh) (w' : World) : Prop where
  holds : Holds s w'
  fresh : ∀ b o, s b o → w.heap.size ≤ b
theorem New.one {w w' : World} {b : Nat} {c : List Value} {T : TypeId} (h : Blk w' b c T) (hb : w.heap.size ≤ b) : New w (one b c T) w' := ⟨one_holds h, by rintro _ _ ⟨rfl, _⟩; exact hb⟩
theorem New.ext {w w' w'' : World} {s : Gh} (h : New w s w') (e : Ext w' w'') : New w s w'' := ⟨h.holds.ext e, h.fresh⟩
theorem New.back {w0 w w' : World} {s : Gh} (h : New w s w') (e : Ext w0 w) : New w0 s w' := ⟨h.holds, fun b o hb => Nat.le_trans e.size (h.fresh b o hb)⟩
/-- no block in common -/
def Dis (r s : Gh) : Prop := ∀ b o o', r b o → ¬ s b o'
theorem Dis.or {r s t : Gh} (h : Dis r s) (k : Dis r t) : Dis r (s.or t) := fun b o o' x y => y.elim (h b o o' x) (k b o o' x)
theorem Dis.of {r s t : Gh} (h : Dis s r) [l : Le t r] : Dis t s := fun b o o' x y => h b o' o y (l.le b o x)
theorem Dis.le {r s t : Gh} (h : Dis s r) [l : Le t r] : Dis s t := fun b o o' x y => h b o o' x (l.le b o' y)
/-- all of it is made behind a world's end -/
def Above (w : World) (s : Gh) : Prop := ∀ b o, s b o → w.heap.size ≤ b
def nothing : Gh := fun _ _ => False
theorem New.nothing {w w' : World} : New w nothing w' := ⟨fun _ _ h => h.elim, fun _ _ h => h.elim⟩
instance {r : Gh} : Le nothing r := ⟨fun _ _ h => h.elim⟩

/-! ### What the walk itself has made -/
inductive Asr where
  | cell (b : Nat) (c : List Value) (T : TypeId)
  | row (v : Value) (e : TypeId) (sz n : Nat) (xs : List Value)
  | que (v : Value) (e : TypeId) (sz n : Nat) (xs : List Value)
  | obj (g : Nat) (Q : Obj → Prop)
/-- a slice of one's own that need not begin where its block does -/
def Que (w : World) (e : TypeId) (sz : Nat) (v : Value) (n : Nat) (xs : List Value) : Prop :=
  xs.length = n * sz ∧ ((v = .slice none 0 0 ∧ n = 0) ∨
    ∃ g off cap c, v = .slice (some ⟨g, off, none⟩) n cap ∧ Blk w g c e ∧ n ≤ cap ∧ cap ≤ maxLen ∧ off + cap * sz ≤ c.length ∧ (c.drop off).take (n * sz) = xs)
def Asr.has (base : Nat) : Asr → World → Prop
  | .cell b c T, w => Blk w b c T
  | .row v e sz n xs, w => w.ownsRow base e sz v n xs
  | .que v e sz n xs, w => Que w e sz v n xs
  | .obj g Q, w => ∃ o, w.heap[g]? = some o ∧ Obj.isBook o = false ∧ Q o
def Asr.dom : Asr → Nat → Prop
  | .cell b _ _, k => k = b
  | .row v _ _ _ _, k => v.ownBlock = some k
  | .que v _ _ _ _, k => v.ownBlock = some k
  | .obj g _, k => k = g
theorem que_cases {w : World} {e : TypeId} {size : Nat} {v : Value} {n : Nat} {xs : List Value} (h : Que w e size v n xs) :
    v.ownBlock = none ∨ ∃ g c, v.ownBlock = some g ∧ Blk w g c e := by
  rcases h.2 with ⟨rfl, _⟩ | ⟨g, off, cap, c, rfl, B, _⟩
  · exact .inl rfl
  · exact .inr ⟨g, c, rfl, B⟩
theorem que_keep {w w' : World} {e : TypeId} {size : Nat} {v : Value} {n : Nat} {xs : List Value} (h : Que w e size v n xs)
    (hk : ∀ g, v.ownBlock = some g → w'.heap[g]? = w.heap[g]?) : Que w' e size v n xs := by
  rcases h with ⟨hl, h | ⟨g, off, cap, c, rfl, B, hr⟩⟩
  · exact ⟨hl, .inl h⟩
  · exact ⟨hl, .inr ⟨g, off, cap, c, rfl, (hk g rfl).trans B, hr⟩⟩
theorem row_cases {w : World} {base : Nat} {e : TypeId} {size : Nat} {v : Value} {n : Nat} {xs : List Value} (h : w.ownsRow base e size v n xs) :
    v.ownBlock = none ∨ ∃ g cap c, v.ownBlock = some g ∧ v = .slice (some ⟨g, 0, none⟩) n cap ∧ Blk w g c e ∧ base ≤ g := by
  rcases own_blk h with ⟨rfl, _, _⟩ | ⟨g, cap, c, rfl, hb, B, _⟩
  · exact .inl rfl
  · exact .inr ⟨g, cap, c, rfl, rfl, B, hb⟩
theorem row_keep {w w' : World} {base : Nat} {e : TypeId} {size : Nat} {v : Value} {n : Nat} {xs : List Value} (h : w.ownsRow base e size v n xs)
    (hk : ∀ g, v.ownBlock = some g → w'.heap[g]? = w.heap[g]?) : w'.ownsRow base e size v n xs := by
  rcases h with ⟨hl, h | ⟨g, cap, cur, rfl, hb, hg, hr⟩⟩
  · exact ⟨hl, .inl h⟩
  · exact ⟨hl, .inr ⟨g, cap, cur, rfl, hb, (hk g rfl).trans hg, hr⟩⟩
theorem Asr.lt {base : Nat} {x : Asr} {w : World} (h : x.has base w) {k : Nat} (hk : x.dom k) : k < w.heap.size := by
  cases x with
  | cell b c T => cases hk; exact Blk.lt h
  | row v e sz n xs =>
    rcases row_cases h with h0 | ⟨g, cap, c, h1, h2, B, _⟩
    · rw [Asr.dom, h0] at hk; cases hk
    · rw [Asr.dom, h1] at hk; cases hk; exact B.lt
  | que v e sz n xs =>
    rcases que_cases h with h0 | ⟨g, c, h1, B⟩
    · rw [Asr.dom, h0] at hk; cases hk
    · rw [Asr.dom, h1] at hk; cases hk; exact B.lt
  | obj g Q => cases hk; obtain ⟨o, ho, _⟩ := h; exact (Array.getElem?_eq_some_iff.1 ho).1
theorem Asr.keep {base : Nat} {x : Asr} {w w' : World} (h : x.has base w) (hk : ∀ k, x.dom k → w'.heap[k]? = w.heap[k]?) : x.has base w' := by
  cases x with
  | cell b c T => exact (hk b rfl).trans h
  | row v e sz n xs => exact row_keep h hk
  | que v e sz n xs => exact que_keep h hk
  | obj g Q => obtain ⟨o, h1, h2⟩ := h; exact ⟨o, (hk g rfl).trans h1, h2⟩

/-- WHERE THE WALK STANDS: what was there when it began lies as it lay (X apart); what stays, stays; its own cells hold these. -/
structure StX (X : Nat → Prop) (w0 : World) (r : Gh) (w : World) (L : List Asr) : Prop where
  x : ExtBut X w0 w
  holds : Holds r w
  has : ∀ x ∈ L, x.has 0 w
  mine : ∀ x ∈ L, ∀ k, x.dom k → (w0.heap.size ≤ k ∨ X k) ∧ ∀ o, ¬ r k o
  apart : L.Pairwise fun x y => ∀ k, x.dom k → ¬ y.dom k
abbrev noX : Nat → Prop := fun _ => False
abbrev St := StX noX
theorem ExtBut.ext {w w' : World} (h : ExtBut noX w w') : Ext w w' := ⟨h.os, h.tape, h.output, h.size, fun k hk => h.block k hk (fun hf => hf)⟩
theorem ExtBut.but {X Y : Nat → Prop} {w0 w w' : World} (h : ExtBut X w0 w) (e : ExtBut Y w w') (hY : ∀ k, Y k → w0.heap.size ≤ k ∨ X k) : ExtBut X w0 w' :=
  ⟨e.os.trans h.os, e.tape.trans h.tape, e.output.trans h.output, Nat.le_trans h.size e.size, fun k hk hx =>
    (e.block k (Nat.lt_of_lt_of_le hk h.size) (fun hy => (hY k hy).elim (fun h => by omega) hx)).trans (h.block k hk hx)⟩
section
variable {X : Nat → Prop} {w0 w w' : World} {r s : Gh} {L : List Asr}
theorem StX.ext (S : StX noX w0 r w L) : Ext w0 w := S.x.ext
theorem St.start (h : Holds r w) : St w r w [] := ⟨.refl _ _, h, by simp, by simp, .nil⟩
theorem StX.at (S : StX X w0 r w L) {q : Gh} {p : World → Prop} (h : Ob q p) [l : Le q r] : p w := h w (S.holds.le (h := l))
theorem StX.go (S : StX X w0 r w L) (e : Ext w w') : StX X w0 r w' L :=
  ⟨S.x.trans (.of_ext e), S.holds.ext e, fun x hx => Asr.keep (S.has x hx) fun k hk => e.block k (Asr.lt (S.has x hx) hk), S.mine, S.apart⟩
theorem StX.new (S : StX X w0 r w L) (e : Ext w w') (n : New w s w') : StX X w0 (r.or s) w' L :=
  { S.go e with
    holds := (S.holds.ext e).or n.holds
    mine := fun x hx k hk => ⟨(S.mine x hx k hk).1, fun o ho => ho.elim ((S.mine x hx k hk).2 o) fun h => by
      have := n.fresh k o h; have := Asr.lt (S.has x hx) hk; omega⟩ }
theorem StX.tell (S : StX X w0 r w L) (e : Ext w w') (n : New w s w') : StX X w0 (r.or s) w' L ∧ Dis s r ∧ Above w0 s :=
  ⟨S.new e n, fun b o o' h h' => by have := n.fresh b o h; have := S.holds.lt h'; omega, fun b o h => by have := n.fresh b o h; have := S.x.size; omega⟩
theorem StX.cells (S : StX X w0 r w L) (x : Asr) (hx : x ∈ L) : x.has 0 w := S.has x hx
/-- other blocks than its own, made since it began and not among what stays, may turn -/
theorem StX.but (S : StX X w0 r w L) {Y : Nat → Prop} {q : Gh} (e : ExtBut Y w w') (hq : ∀ b o, q b o → r b o ∧ ¬ Y b) (hX : ∀ b, Y b → w0.heap.size ≤ b) (hL : ∀ x ∈ L, ∀ k, x.dom k → ¬ Y k) : StX X w0 q w' L :=
  ⟨S.x.but e fun k hk => .inl (hX k hk), fun b o hb => (e.block b (S.holds.lt (hq b o hb).1) (hq b o hb).2).trans (S.holds b o (hq b o hb).1),
    fun x hx => Asr.keep (S.has x hx) fun k hk => e.block k (Asr.lt (S.has x hx) hk) (hL x hx k hk), fun x hx k hk => ⟨(S.mine x hx k hk).1, fun o ho => (S.mine x hx k hk).2 o (hq k o ho).1⟩, S.apart⟩
/-- book-keeping turns; no cell is book-keeping -/
theorem StX.nlX (S : StX X w0 r w L) {n : Nat} (hn : w0.heap.size ≤ n) (hr : ∀ b o, r b o → b < n ∨ Obj.isBook o = false) (e : Nl n w w') : StX X w0 r w' L := by
  refine ⟨⟨e.os.trans S.x.os, e.tape.trans S.x.tape, e.output.trans S.x.output, Nat.le_trans S.x.size e.size, fun k hk hx => ?_⟩, fun b o hb => e.block b o (S.holds b o hb) (hr b o hb), fun x hx => ?_, S.mine, S.apart⟩
  · have h1 := S.x.block k hk hx
    have hkw : k < w.heap.size := Nat.lt_of_lt_of_le hk S.x.size
    rw [← h1, Array.getElem?_eq_getElem hkw]
    exact e.block k _ (Array.getElem?_eq_getElem hkw) (.inl (by omega))
  have hx' := S.has x hx
  cases x with
  | cell b c T => exact Blk.nl hx' e
  | row v e' sz k xs =>
    refine row_keep hx' fun g hg => ?_
    rcases row_cases hx' with h0 | ⟨g', cap, c, h1, h2, B, _⟩
    · rw [h0] at hg; cases hg
    · rw [h1] at hg; cases hg; exact (B.nl e).trans B.symm
  | que v e' sz k xs =>
    refine que_keep hx' fun g hg => ?_
    rcases que_cases hx' with h0 | ⟨g', c, h1, B⟩
    · rw [h0] at hg; cases hg
    · rw [h1] at hg; cases hg; exact (B.nl e).trans B.symm
  | obj g Q => obtain ⟨o, h1, h2, h3⟩ := hx'; exact ⟨o, e.block g o h1 (.inr h2), h2, h3⟩
/-- fewer cells, less that stays -/
theorem StX.less (S : StX X w0 r w L) {q : Gh} {M : List Asr} (hq : ∀ b o, q b o → r b o) (hM : M.Sublist L) : StX X w0 q w M :=
  ⟨S.x, fun b o h => S.holds b o (hq b o h), fun x hx => S.has x (hM.subset hx), fun x hx k hk => ⟨(S.mine x (hM.subset hx) k hk).1, fun o ho => (S.mine x (hM.subset hx) k hk).2 o (hq k o ho)⟩, S.apart.sublist hM⟩
theorem StX.add (S : StX X w0 r w L) (e : Ext w w') {b : Nat} {c : List Value} {T : TypeId} (hb : w.heap.size ≤ b) (B : Blk w' b c T) : StX X w0 r w' (.cell b c T :: L) := by
  have S' := S.go e
  refine ⟨S'.x, S'.holds, ?_, ?_, .cons ?_ S'.apart⟩
  · intro x hx; rcases List.mem_cons.1 hx with rfl | hx
    · exact B
    · exact S'.has x hx
  · intro x hx; rcases List.mem_cons.1 hx with rfl | hx
    · rintro k rfl
      exact ⟨.inl (by have := S.x.size; omega), fun o ho => by have := S.holds.lt ho; omega⟩
    · exact S'.mine x hx
  · rintro y hy k rfl hk
    have := Asr.lt (S.has y hy) hk; omega
/-- one of its own turns: another block in its stead, at the same place or a new one -/
theorem StX.turn {p q : List Asr} {x y : Asr} (S : StX X w0 r w (p ++ x :: q)) (e : ExtBut x.dom w w') (hy : y.has 0 w') (hd : ∀ k, y.dom k → x.dom k ∨ w.heap.size ≤ k) : StX X w0 r w' (p ++ y :: q) := by
  have hx := S.has x (by simp)
  have hap := List.pairwise_append.1 S.apart
  have hap2 := List.pairwise_cons.1 hap.2.1
  have hmx : ∀ k, y.dom k → (w0.heap.size ≤ k ∨ X k) ∧ ∀ o, ¬ r k o := fun k hk => by
    rcases hd k hk with h | h
    · exact S.mine x (by simp) k h
    · exact ⟨.inl (by have := S.x.size; omega), fun o ho => by have := S.holds.lt ho; omega⟩
  have hother : ∀ z, z ∈ p ∨ z ∈ q → ∀ k, z.dom k → ¬ x.dom k := by
    rintro z (hz | hz) k hk hx
    · exact hap.2.2 z hz x (by simp) k hk hx
    · exact hap2.1 z hz k hx hk
  have hmem : ∀ z, z ∈ p ++ y :: q → z = y ∨ ((z ∈ p ∨ z ∈ q) ∧ z ∈ p ++ x :: q) := by
    intro z hz
    simp only [List.mem_append, List.mem_cons] at hz ⊢
    rcases hz with h | rfl | h
    · exact .inr ⟨.inl h, .inl h⟩
    · exact .inl rfl
    · exact .inr ⟨.inr h, .inr (.inr h)⟩
  have hyo : ∀ z, z ∈ p ∨ z ∈ q → z ∈ p ++ x :: q → ∀ k, z.dom k → ¬ y.dom k := fun z hz hm k hk hy => by
    rcases hd k hy with h | h
    · exact hother z hz k hk h
    · have := Asr.lt (S.has z hm) hk; omega
  refine ⟨S.x.but e fun k hk => (S.mine x (by simp) k hk).1, S.holds.but e fun b o hb hk => (S.mine x (by simp) b hk).2 o hb, ?_, ?_, ?_⟩
  · intro z hz
    rcases hmem z hz with rfl | ⟨h, hm⟩
    · exact hy
    · exact Asr.keep (S.has z hm) fun k hk => e.block k (Asr.lt (S.has z hm) hk) (hother z h k hk)
  · intro z hz
    rcases hmem z hz with rfl | ⟨h, hm⟩
    · exact hmx
    · exact S.mine z hm
  · refine List.pairwise_append.2 ⟨hap.1, .cons (fun z hz k hk hk2 => hyo z (.inr hz) (by simp [hz]) k hk2 hk) hap2.2, fun z hz u hu k hk => ?_⟩
    rcases List.mem_cons.1 hu with rfl | hu
    · exact hyo z (.inl hz) (by simp [hz]) k hk
    · exact hap.2.2 z hz u (by simp [hu]) k hk
/-- the blocks of one's own -/
def doms : List Asr → Nat → Prop
  | [], _ => False
  | x :: L, k => x.dom k ∨ doms L k
theorem doms_mem : ∀ {L : List Asr} {k : Nat}, doms L k ↔ ∃ x ∈ L, x.dom k
  | [], k => by simp [doms]
  | x :: L, k => by simp [doms, doms_mem (L := L)]
/-- A PART OF THE WALK, taken by itself: it may turn the walk's own blocks .. -/
theorem StX.part (S : StX X w0 r w L) : StX (doms L) w r w L :=
  ⟨.refl _ _, S.holds, S.has, fun x hx k hk => ⟨.inr (doms_mem.2 ⟨x, hx, hk⟩), (S.mine x hx k hk).2⟩, S.apart⟩
/-- .. and the whole again, when it is done -/
theorem StX.whole {Y : Nat → Prop} {q : Gh} {M : List Asr} (S : StX X w0 r w L) (R : StX Y w q w' M) (hY : ∀ k, Y k → doms L k) : StX X w0 q w' M :=
  have hy : ∀ k, Y k → w0.heap.size ≤ k ∨ X k := fun k hk => by obtain ⟨x, hx, hd⟩ := doms_mem.1 (hY k hk); exact (S.mine x hx k hd).1
  ⟨S.x.but R.x hy, R.holds, R.has, fun x hx k hk => ⟨(R.mine x hx k hk).1.elim (fun h => .inl (Nat.le_trans S.x.size h)) (hy k), (R.mine x hx k hk).2⟩, R.apart⟩
theorem doms_blk (S : StX X w0 r w L) : ∀ b, doms L b → ∃ o, w.heap[b]? = some o ∧ Obj.isBook o = false := fun b hb => by
  obtain ⟨x, hx, hd⟩ := doms_mem.1 hb
  have h := S.has x hx
  cases x with
  | cell b' c T => cases hd; exact ⟨_, h, rfl⟩
  | row v e sz n xs =>
    rcases row_cases h with h0 | ⟨g, cap, c, h1, h2, B, _⟩
    · rw [Asr.dom, h0] at hd; cases hd
    · rw [Asr.dom, h1] at hd; cases hd; exact ⟨_, B, rfl⟩
  | que v e sz n xs =>
    rcases que_cases h with h0 | ⟨g, c, h1, B⟩
    · rw [Asr.dom, h0] at hd; cases hd
    · rw [Asr.dom, h1] at hd; cases hd; exact ⟨_, B, rfl⟩
  | obj g Q => cases hd; obtain ⟨o, h1, h2, _⟩ := h; exact ⟨o, h1, h2⟩
end

/-! ### Finding a cell of one's own -/
class At (b : Nat) (L : List Asr) (c : outParam (List Value)) (T : outParam TypeId) (f : outParam (List Value → List Asr)) : Prop where
  h : ∃ p q, L = p ++ .cell b c T :: q ∧ ∀ c', f c' = p ++ .cell b c' T :: q
instance {b : Nat} {c : List Value} {T : TypeId} {L : List Asr} : At b (.cell b c T :: L) c T fun c' => .cell b c' T :: L := ⟨[], L, rfl, fun _ => rfl⟩
instance (priority := low) {b : Nat} {c : List Value} {T : TypeId} {x : Asr} {L : List Asr} {f : List Value → List Asr} [h : At b L c T f] : At b (x :: L) c T fun c' => x :: f c' := ⟨by
  obtain ⟨p, q, h1, h2⟩ := h.h
  exact ⟨x :: p, q, by rw [h1]; rfl, fun c' => by rw [h2]; rfl⟩⟩
class RowAt (v : Value) (L : List Asr) (e : outParam TypeId) (sz n : outParam Nat) (xs : outParam (List Value)) (f : outParam (Asr → List Asr)) : Prop where
  h : ∃ p q, L = p ++ .row v e sz n xs :: q ∧ ∀ y, f y = p ++ y :: q
instance {v : Value} {e : TypeId} {sz n : Nat} {xs : List Value} {L : List Asr} : RowAt v (.row v e sz n xs :: L) e sz n xs fun y => y :: L := ⟨[], L, rfl, fun _ => rfl⟩
instance (priority := low) {v : Value} {e : TypeId} {sz n : Nat} {xs : List Value} {x : Asr} {L : List Asr} {f : Asr → List Asr} [h : RowAt v L e sz n xs f] : RowAt v (x :: L) e sz n xs fun y => x :: f y := ⟨by
  obtain ⟨p, q, h1, h2⟩ := h.h
  exact ⟨x :: p, q, by rw [h1]; rfl, fun c' => by rw [h2]; rfl⟩⟩

section
variable {P : Program} {X : Nat → Prop} {w0 w : World} {r : Gh} {L : List Asr} {t T : TypeId} {b i n : Nat} {c : List Value} {v : Value} {f : List Value → List Asr}
theorem StX.blk (S : StX X w0 r w L) (b : Nat) [h : At b L c T f] : Blk w b c T := by
  obtain ⟨p, q, h1, _⟩ := h.h
  exact S.has (.cell b c T) (by rw [h1]; simp)
theorem StX.ge (S : StX X w0 r w L) (b : Nat) [h : At b L c T f] : w0.heap.size ≤ b ∨ X b := by
  obtain ⟨p, q, h1, _⟩ := h.h
  exact (S.mine (.cell b c T) (by rw [h1]; simp) b rfl).1
theorem StX.ld (S : StX X w0 r w L) [h : At b L c T f] [k : Ld1 P t] {K : Value → Prop} (hk : K v) (hc : c[i]? = some v := by rfl) : opQ P w (Instr.loadAt t (.pointer (some ⟨b, i, none⟩))) K :=
  q_load k.h (((S.blk b (h := h)).cell i).trans hc) hk
theorem StX.ldB (S : StX X w0 r w L) [h : At b L c T f] [k : LdN P t n] {K : Value → Prop} (hk : K (.agg c.toArray)) (hc : c.length = n := by rfl) : opQ P w (Instr.loadAt t (.pointer (some ⟨b, 0, none⟩))) K :=
  q_loadB (by rw [hc]; exact k.h) (S.blk b (h := h)) hk
theorem StX.ldN (S : StX X w0 r w L) [h : At b L c T f] [k : LdN P t n] {K : Value → Prop} {vs : List Value} (hk : K (.agg vs.toArray)) (hv : (c.drop i).take n = vs := by rfl) (hl : vs.length = n := by rfl) : opQ P w (Instr.loadAt t (.pointer (some ⟨b, i, none⟩))) K :=
  q_loadN (by rw [hl]; exact k.h) (fun j u hu => by
    rw [(S.blk b (h := h)).cell]
    rw [← hv, List.getElem?_take] at hu
    split at hu
    · rw [← List.getElem?_drop]; exact hu
    · cases hu) hk
theorem StX.ce (S : StX X w0 r w L) [h : At b L [v] T f] [k : Ld1 P t] {K : Value → Prop} (hk : K v) : opQ P w (cellSem t (.pointer (some ⟨b, 0, none⟩))) K :=
  q_cell1 k.h (by rw [(S.blk b (h := h)).cell]; rfl) hk
theorem StX.ceB (S : StX X w0 r w L) [h : At b L c T f] [k : LdN P t n] {K : Value → Prop} (hk : K (.agg c.toArray)) (hc : c.length = n := by rfl) : opQ P w (cellSem t (.pointer (some ⟨b, 0, none⟩))) K :=
  q_cellB (by rw [hc]; exact k.h) (S.blk b (h := h)) hk
/-- what stays is read -/
theorem StX.rd (S : StX X w0 r w L) {q : Gh} {a : Addr} (h : Ob q fun w => w.cell? a = some v) [Le q r] [k : Ld1 P t] {K : Value → Prop} (hk : K v) : opQ P w (Instr.loadAt t (.pointer (some a))) K :=
  q_load k.h (S.at h) hk

theorem StX.alM (S : StX X w0 r w L) [z : ZrT P t c] {K : Value → World → Prop} (h : ∀ b w', b = w.heap.size → NC w w' → StX X w0 r w' (.cell b c t :: L) → K (.pointer (some ⟨b, 0, none⟩)) w') : opW P w (Instr.alloc t true (.tuple #[])) K :=
  w_alloc z.h fun b w' hb e _ B => h b w' hb (NC.of_ext e) (S.add e (by omega) B)
theorem StX.al (S : StX X w0 r w L) [z : ZrT P t c] {K : Value → World → Prop} (h : ∀ b w', StX X w0 r w' (.cell b c t :: L) → K (.pointer (some ⟨b, 0, none⟩)) w') : opW P w (Instr.alloc t true (.tuple #[])) K :=
  S.alM fun b w' _ _ => h b w'
theorem StX.boxM (S : StX X w0 r w L) {K : Value → World → Prop} (h : ∀ b w', b = w.heap.size → NC w w' → StX X w0 r w' (.cell b v.cells.toList t :: L) → K (.pointer (some ⟨b, 0, none⟩)) w') : opW P w (Instr.box t v) K :=
  w_box fun b w' hb e _ B => h b w' hb (NC.of_ext e) (S.add e (by omega) B)
theorem StX.box (S : StX X w0 r w L) {K : Value → World → Prop} (h : ∀ b w', StX X w0 r w' (.cell b v.cells.toList t :: L) → K (.pointer (some ⟨b, 0, none⟩)) w') : opW P w (Instr.box t v) K :=
  S.boxM fun b w' _ _ => h b w'
theorem StX.turnC (S : StX X w0 r w L) [h : At b L c T f] {w' : World} {c' : List Value} (e : ExtBut (· = b) w w') (B : Blk w' b c' T) : StX X w0 r w' (f c') := by
  obtain ⟨p, q, h1, h2⟩ := h.h
  rw [h2]
  rw [h1] at S
  exact S.turn (x := .cell b c T) (y := .cell b c' T) e B fun k hk => .inl hk
theorem StX.stM (S : StX X w0 r w L) [h : At b L c T f] [z : SzT P t 1] {K : World → Prop} (k : ∀ w', NC w w' → StX X w0 r w' (f (c.set i v)) → K w') (hl : i < c.length := by simp) (h1 : v.oneCell' = true := by rfl) : opU P w (Instr.storeAt t (.pointer (some ⟨b, i, none⟩)) v) K :=
  w_store1 z.h (S.blk b (h := h)) hl h1 fun w' x _ B => k w' (NC.of_b (S.blk b (h := h)) x) (S.turnC (h := h) x B)
theorem StX.st (S : StX X w0 r w L) [h : At b L c T f] [z : SzT P t 1] {K : World → Prop} (k : ∀ w', StX X w0 r w' (f (c.set i v)) → K w') (hl : i < c.length := by simp) (h1 : v.oneCell' = true := by rfl) : opU P w (Instr.storeAt t (.pointer (some ⟨b, i, none⟩)) v) K :=
  S.stM (h := h) (fun w' _ => k w') hl h1
theorem StX.stBM (S : StX X w0 r w L) [h : At b L c T f] [z : SzT P t n] {cs : Array Value} {K : World → Prop} (k : ∀ w', NC w w' → StX X w0 r w' (f cs.toList) → K w') (hl : c.length = n := by rfl) (hc : cs.size = n := by rfl) (h1 : ∀ u ∈ cs.toList, u.oneCell' = true := by simp [Value.oneCell']) : opU P w (Instr.storeAt t (.pointer (some ⟨b, 0, none⟩)) (.agg cs)) K :=
  w_storeB (v := .agg cs) (by rw [show (Value.agg cs).cells.size = n from hc]; exact z.h) (S.blk b (h := h)) (by rw [hl]; exact hc) h1 fun w' x _ B => k w' (NC.of_b (S.blk b (h := h)) x) (S.turnC (h := h) x B)
theorem StX.stB (S : StX X w0 r w L) [h : At b L c T f] [z : SzT P t n] {cs : Array Value} {K : World → Prop} (k : ∀ w', StX X w0 r w' (f cs.toList) → K w') (hl : c.length = n := by rfl) (hc : cs.size = n := by rfl) (h1 : ∀ u ∈ cs.toList, u.oneCell' = true := by simp [Value.oneCell']) : opU P w (Instr.storeAt t (.pointer (some ⟨b, 0, none⟩)) (.agg cs)) K :=
  S.stBM (h := h) (fun w' _ => k w') hl hc h1
theorem StX.stN (S : StX X w0 r w L) [h : At b L c T f] [z : SzT P t n] {cs : Array Value} {K : World → Prop} (k : ∀ w', StX X w0 r w' (f (c.take i ++ cs.toList ++ c.drop (i + n))) → K w') (hl : i + n ≤ c.length := by simp) (hc : cs.size = n := by rfl) (h1 : ∀ u ∈ cs.toList, u.oneCell' = true := by simp [Value.oneCell']) : opU P w (Instr.storeAt t (.pointer (some ⟨b, i, none⟩)) (.agg cs)) K :=
  w_store (v := .agg cs) (by rw [show (Value.agg cs).cells.size = n from hc]; exact z.h) (S.blk b (h := h)) (by rw [show (Value.agg cs).cells.size = n from hc]; exact hl) h1 fun w' x _ B => k w' (S.turnC (h := h) x (by rw [show (Value.agg cs).cells.size = n from hc] at B; exact B))

theorem StX.lit (S : StX X w0 r w L) {e : TypeId} {len : Nat} {parts : Array (Nat × Value)} {cs : List Value} {K : Value → World → Prop} (hT : bslT P t len parts = some (e, cs))
    (h : ∀ b w', StX X w0 r w' (.cell b cs e :: L) → K (.slice (some ⟨b, 0, none⟩) len len) w') : opW P w (Instr.buildSlice t len parts) K :=
  w_lit hT fun b w' hb e' _ B => h b w' (S.add e' (by omega) B)
/-- a slice of one's own grows -/
theorem StX.ownNil (S : StX X w0 r w L) (e : TypeId) (sz : Nat) : StX X w0 r w (.row (.slice none 0 0) e sz 0 [] :: L) := by
  refine ⟨S.x, S.holds, ?_, ?_, .cons (fun y _ k hk => by cases hk) S.apart⟩
  · intro x hx; rcases List.mem_cons.1 hx with rfl | hx
    · exact World.ownsRow_nil _ _ _ _
    · exact S.has x hx
  · intro x hx; rcases List.mem_cons.1 hx with rfl | hx
    · intro k hk; cases hk
    · exact S.mine x hx
theorem StX.apM (S : StX X w0 r w L) {e ty : TypeId} {sz by' m m' cap : Nat} {xs news : List Value} {p : Option Addr} {g : Asr → List Asr} [h : RowAt v L e sz m xs g] [z : ApT P t e sz by'] {K : Value → World → Prop}
    (hs : Sl w p news) (k : ∀ v' w', NC w w' → (v' = .slice none 0 0 ↔ v = .slice none 0 0 ∧ m' = 0) → StX X w0 r w' (g (.row v' e sz (m + m') (xs ++ news))) → K v' w')
    (hb : (m + m') * by' ≤ 140737488355328) (hl : news.length = m' * sz := by simp) (hp : p = none → cap = 0 := by simp) (h1 : ∀ u ∈ news, u.oneCell' = true := by simp [Value.oneCell']) : opW P w (Builtin.append_ #[t, t] ty #[v, .slice p m' cap]) K := by
  obtain ⟨pp, qq, h2, h3⟩ := h.h
  have hr := S.has (.row v e sz m xs) (by rw [h2]; simp)
  refine w_append z.h hr hs hl hp h1 hb (Nat.zero_le _) fun v' w' h4 h5 h6 h7 => k v' w' ?_ h7 ?_
  · refine NC.of_but h5 fun b hb => ?_
    rcases row_cases hr with h0 | ⟨g', cap', c', h8, h9, B, _⟩
    · rw [h0] at hb; cases hb
    · rw [h8] at hb; cases hb; exact ⟨_, _, B⟩
  · rw [h3]
    rw [h2] at S
    refine S.turn (x := .row v e sz m xs) (y := .row v' e sz (m + m') (xs ++ news)) h5 h4 fun j hj => ?_
    rw [Asr.dom] at hj
    rcases h6 with h6 | h6
    · rw [h6] at hj; exact .inl hj
    · rw [h6] at hj; cases hj; exact .inr (Nat.le_refl _)
theorem StX.ap (S : StX X w0 r w L) {e ty : TypeId} {sz by' m m' cap : Nat} {xs news : List Value} {p : Option Addr} {g : Asr → List Asr} [h : RowAt v L e sz m xs g] [z : ApT P t e sz by'] {K : Value → World → Prop}
    (hs : Sl w p news) (k : ∀ v' w', StX X w0 r w' (g (.row v' e sz (m + m') (xs ++ news))) → K v' w')
    (hb : (m + m') * by' ≤ 140737488355328) (hl : news.length = m' * sz := by simp) (hp : p = none → cap = 0 := by simp) (h1 : ∀ u ∈ news, u.oneCell' = true := by simp [Value.oneCell']) : opW P w (Builtin.append_ #[t, t] ty #[v, .slice p m' cap]) K :=
  S.apM (h := h) hs (fun v' w' _ _ => k v' w') hb hl hp h1
/-- .. and is told as one that stays -/
theorem StX.rowSl (S : StX X w0 r w L) {e : TypeId} {sz m : Nat} {xs : List Value} {g : Asr → List Asr} (v : Value) [h : RowAt v L e sz m xs g] : w.ownsRow 0 e sz v m xs := by
  obtain ⟨pp, qq, h2, h3⟩ := h.h
  exact S.has (.row v e sz m xs) (by rw [h2]; simp)
end

/-! ### Relations of a value with what it tells, in a memory that stays -/
abbrev Rl (α : Type) := Gh → Value → α → Prop
class Mono {α : Type} (R : Rl α) : Prop where
  up : ∀ {r s : Gh} {v : Value} {x : α}, (∀ b o, r b o → s b o) → R r v x → R s v x
theorem up {α : Type} {R : Rl α} {r s : Gh} {v : Value} {x : α} (h : R r v x) [m : Mono R] [l : Le r s] : R s v x := m.up l.le h
end Go.Sh
end

section
namespace Go.Sh
open Go.RowKit
/-- no book-keeping among these -/
class NoBook (r : Gh) : Prop where
  h : ∀ b o, r b o → Obj.isBook o = false
instance {r s : Gh} [h : NoBook r] [k : NoBook s] : NoBook (r.or s) := ⟨fun b o x => x.elim (h.h b o) (k.h b o)⟩
instance {b : Nat} {c : List Value} {T : TypeId} : NoBook (one b c T) := ⟨fun _ _ h => by rw [h.2]; rfl⟩
instance : NoBook nothing := ⟨fun _ _ h => h.elim⟩
theorem c_t {c : Bool} {A B : Prop} (h : c = true) (a : A) : oCond (.bool c) A B := by subst h; exact a
theorem c_f {c : Bool} {A B : Prop} (h : c = false) (b : B) : oCond (.bool c) A B := by subst h; exact b
section
variable {P : Program} {X : Nat → Prop} {w0 w : World} {r : Gh} {L : List Asr}
/-- a row of one's own that is not empty is a cell -/
theorem StX.rowCell (S : StX X w0 r w L) {e : TypeId} {sz m : Nat} {xs : List Value} {g : Asr → List Asr} (v : Value) [h : RowAt v L e sz m xs g] (hm : m ≠ 0) :
    ∃ b cap c, v = .slice (some ⟨b, 0, none⟩) m cap ∧ m ≤ cap ∧ c.length = cap * sz ∧ c.take (m * sz) = xs ∧ StX X w0 r w (g (.cell b c e)) := by
  obtain ⟨pp, qq, h2, h3⟩ := h.h
  have hr := S.has (.row v e sz m xs) (by rw [h2]; simp)
  rcases own_blk hr with ⟨_, h0, _⟩ | ⟨b, cap, c, rfl, hb, B, hn, _, hc, ht⟩
  · exact absurd h0 hm
  · refine ⟨b, cap, c, rfl, hn, hc, ht, ?_⟩
    rw [h3]
    rw [h2] at S
    exact S.turn (x := .row _ e sz m xs) (y := .cell b c e) (ExtBut.refl _ _) B fun k hk => .inl (by cases hk; rfl)
theorem StX.swap {x y : Asr} (S : StX X w0 r w (x :: y :: L)) : StX X w0 r w (y :: x :: L) := by
  have hp : (y :: x :: L).Perm (x :: y :: L) := .swap x y L
  have ha := S.apart
  refine ⟨S.x, S.holds, fun z hz => S.has z (hp.subset hz), fun z hz => S.mine z (hp.subset hz), ?_⟩
  rw [List.pairwise_cons, List.pairwise_cons] at ha
  refine .cons (fun z hz k hk hk2 => ?_) (.cons (fun z hz => ha.1 z (List.mem_cons_of_mem _ hz)) ha.2.2)
  rcases List.mem_cons.1 hz with rfl | hz
  · exact ha.1 y List.mem_cons_self k hk2 hk
  · exact ha.2.1 z hz k hk hk2
theorem StX.tl {x : Asr} (S : StX X w0 r w (x :: L)) : StX X w0 r w L := S.less (fun _ _ h => h) (List.sublist_cons_self _ _)
theorem StX.to (S : StX X w0 r w L) (q : Gh) [l : Le q r] : StX X w0 q w L := S.less l.le (List.Sublist.refl _)
theorem StX.alU (S : StX X w0 r w L) {t : TypeId} {c : List Value} [z : ZrT P t c] {K : Value → World → Prop} (h : ∀ b w', StX X w0 r w' (.cell b c t :: L) → K (.pointer (some ⟨b, 0, none⟩)) w') :
    opW P w (Instr.alloc t true (.tuple #[])) fun t' w' => Ext w w' ∧ K t' w' :=
  w_alloc z.h fun b w' hb e _ B => ⟨e, h b w' (S.add e (by omega) B)⟩
theorem StX.boxU (S : StX X w0 r w L) {t : TypeId} {v : Value} {K : Value → World → Prop} (h : ∀ b w', StX X w0 r w' (.cell b v.cells.toList t :: L) → K (.pointer (some ⟨b, 0, none⟩)) w') :
    opW P w (Instr.box t v) fun t' w' => Ext w w' ∧ K t' w' :=
  w_box fun b w' hb e _ B => ⟨e, h b w' (S.add e (by omega) B)⟩
/-- a row of one's own, told as what stays -/
theorem row_gh {w w' : World} {e : TypeId} {sz n : Nat} {v : Value} {xs : List Value} (h : w'.ownsRow w.heap.size e sz v n xs) :
    ∃ s p cap, New w s w' ∧ NoBook s ∧ v = .slice p n cap ∧ (p = none → cap = 0) ∧ n ≤ cap ∧ (Ob s fun w => Sl w p xs) := by
  rcases own_blk h with ⟨rfl, rfl, rfl⟩ | ⟨g, cap, c, rfl, hg, B, h1, _, h3, h4⟩
  · exact ⟨nothing, none, 0, New.nothing, inferInstance, rfl, fun _ => rfl, Nat.le_refl _, fun w _ => Sl.nil w _⟩
  · refine ⟨one g c e, _, cap, New.one B hg, inferInstance, rfl, by simp, h1, fun w k => ?_⟩
    rw [← h4]; exact (Sl.blk (one_blk w k)).take _
/-- a range that a round may leave by an exit -/
theorem r_exit {w : World} {n id : Nat} {g : Value} {round : List Value → World → (Nat → Prop) → (Exit → World → Prop) → Prop} {Kn Kr Kb : World → Prop}
    (xs : List (List Value)) (S : Nat → Prop) (J : Nat → World → Prop) (Jb : World → Prop)
    (hS : ∀ b, S b → ∃ o, w.heap[b]? = some o ∧ Obj.isBook o = false) (hI : IterC P g w xs S) (hn : ∀ x ∈ xs, x.length = n)
    (n0 : ∀ k W W', J k W → Nl w.heap.size W W' → J k W') (nb : ∀ W W', Jb W → Nl w.heap.size W W' → Jb W') (h0 : J 0 w)
    (hr : ∀ k x W, xs[k]? = some x → J k W → ∀ KR : Exit → World → Prop, (∀ W2, J (k + 1) W2 → KR .normal W2) → (∀ W2, Jb W2 → KR (.exit id) W2) → round x W S KR)
    (kn : ∀ W, J xs.length W → Kn W) (kb : ∀ W, Jb W → Kb W) : oRange P n g w round Kn Kr [(id, Kb)] := by
  refine ⟨xs, S, J, fun e W => match e with | .exit i => i = id ∧ Jb W | _ => False, hS, hI, hn, n0, ?_, h0, ?_, kn, fun W h => h.elim, ?_, fun l W h => h⟩
  · intro e W W' h1 h2
    cases e <;> first | exact h1.elim | exact ⟨h1.1, nb W W' h1.2 h2⟩
  · intro k x W hx hJ
    exact hr k x W hx hJ _ (fun W2 hj => hj) (fun W2 hj => ⟨rfl, hj⟩)
  · rintro i W ⟨rfl, h⟩
    exact ⟨Kb, by simp, kb W h⟩
/-! ### With marks: no block of book-keeping turns -/
section
variable {t T : TypeId} {b i n : Nat} {c : List Value} {v : Value} {f : List Value → List Asr}
theorem StX.alN (S : StX X w0 r w L) [z : ZrT P t c] {K : Value → World → Prop} (h : ∀ b w', b = w.heap.size → StX X w0 r w' (.cell b c t :: L) → K (.pointer (some ⟨b, 0, none⟩)) w') :
    opW P w (Instr.alloc t true (.tuple #[])) fun t' w' => NC w w' ∧ K t' w' := S.alM fun b w' hb nc S => ⟨nc, h b w' hb S⟩
theorem StX.boxN (S : StX X w0 r w L) {K : Value → World → Prop} (h : ∀ b w', b = w.heap.size → StX X w0 r w' (.cell b v.cells.toList t :: L) → K (.pointer (some ⟨b, 0, none⟩)) w') :
    opW P w (Instr.box t v) fun t' w' => NC w w' ∧ K t' w' := S.boxM fun b w' hb nc S => ⟨nc, h b w' hb S⟩
theorem StX.stN' (S : StX X w0 r w L) [h : At b L c T f] [z : SzT P t 1] {K : World → Prop} (k : ∀ w', StX X w0 r w' (f (c.set i v)) → K w') (hl : i < c.length := by simp) (h1 : v.oneCell' = true := by rfl) :
    opU P w (Instr.storeAt t (.pointer (some ⟨b, i, none⟩)) v) fun w' => NC w w' ∧ K w' := S.stM (h := h) (fun w' nc S => ⟨nc, k w' S⟩) hl h1
theorem StX.stBN (S : StX X w0 r w L) [h : At b L c T f] [z : SzT P t n] {cs : Array Value} {K : World → Prop} (k : ∀ w', StX X w0 r w' (f cs.toList) → K w') (hl : c.length = n := by rfl) (hc : cs.size = n := by rfl)
    (h1 : ∀ u ∈ cs.toList, u.oneCell' = true := by simp [Value.oneCell']) :
    opU P w (Instr.storeAt t (.pointer (some ⟨b, 0, none⟩)) (.agg cs)) fun w' => NC w w' ∧ K w' := S.stBM (h := h) (fun w' nc S => ⟨nc, k w' S⟩) hl hc h1
theorem StX.litN (S : StX X w0 r w L) {e : TypeId} {len : Nat} {parts : Array (Nat × Value)} {cs : List Value} {K : Value → World → Prop} (hT : bslT P t len parts = some (e, cs))
    (h : ∀ b w', StX X w0 r w' (.cell b cs e :: L) → K (.slice (some ⟨b, 0, none⟩) len len) w') : opW P w (Instr.buildSlice t len parts) fun t' w' => NC w w' ∧ K t' w' :=
  w_lit hT fun b w' hb e' _ B => ⟨NC.of_ext e', h b w' (S.add e' (by omega) B)⟩
end
theorem StX.dlt (S : StX X w0 r w L) {b : Nat} (h : doms L b) : b < w.heap.size := by
  obtain ⟨x, hx, hd⟩ := doms_mem.1 h; exact Asr.lt (S.has x hx) hd
theorem StX.dge (S : StX noX w0 r w L) {b : Nat} (h : doms L b) : w0.heap.size ≤ b := by
  obtain ⟨x, hx, hd⟩ := doms_mem.1 h; exact (S.mine x hx b hd).1.resolve_right id
/-- all of it lies below, or is no book-keeping -/
class Low (n : Nat) (r : Gh) : Prop where
  h : ∀ b o, r b o → b < n ∨ Obj.isBook o = false
instance {n : Nat} {r s : Gh} [h : Low n r] [k : Low n s] : Low n (r.or s) := ⟨fun b o x => x.elim (h.h b o) (k.h b o)⟩
instance (priority := low) {n : Nat} {r : Gh} [h : NoBook r] : Low n r := ⟨fun b o x => .inr (h.h b o x)⟩
theorem StX.low (S : StX X w0 r w L) : Low w.heap.size r := ⟨fun _ _ x => .inl (S.holds.lt x)⟩
theorem StX.nl (S : StX X w0 r w L) {n : Nat} {w' : World} (e : Nl n w w') (hn : w0.heap.size ≤ n) [l : Low n r] : StX X w0 r w' L := S.nlX hn l.h e
/-- the end of a walk with marks -/
theorem StX.shut (S : StX X w0 r w L) {w' : World} (e : Shuts w0.heap.size w w') [l : Low w0.heap.size r] : StX X w0 r w' L := by
  have hb : ∀ b o, w.heap[b]? = some o → (b < w0.heap.size ∨ Obj.isBook o = false) → w'.heap[b]? = some o := fun b o h hh => by
    rw [e.block b (hh.imp id fun hh ds hd => by rw [h] at hd; cases hd; cases hh)]; exact h
  exact S.nlX (Nat.le_refl _) l.h ⟨e.os, e.tape, e.output, Nat.le_of_eq e.size.symm, hb⟩
end
end Go.Sh
end

section
namespace Go.Sh
open Go.RowKit

/-- a deferred call of a function: u: the mode of the frame that leaves -/
def oDef (P : Program) (g : FuncId) (args : Array Value) (u : FrameMode) (w : World) (R : FrameMode → World → Prop) (Rp : List PanicEntry → FrameMode → World → Prop) : Prop :=
  CallsDIn (FW none) 0 P g args u w fun
    | .returned _, u', w' => R u' w'
    | .panicked c, u', w' => Rp c u' w'
    | .outgrown, _, _ => False
/-- what recover hands back, and the mode behind it -/
def recov : FrameMode → Value × FrameMode
  | .panicking ({ v, recovered := false, goexit := false } :: older) => (v, .panicking ({ v, recovered := true } :: older))
  | u => (.nilIface, u)
theorem recov_spec (c₀ : Frame) (cs : List Frame) : (recoverD (c₀ :: cs) = none ∧ recov c₀.mode = (.nilIface, c₀.mode)) ∨
    recoverD (c₀ :: cs) = some ((recov c₀.mode).1, { c₀ with mode := (recov c₀.mode).2 } :: cs) := by
  cases hmode : c₀.mode with
  | run => left; simp [recoverD, recov, hmode]
  | returning => left; simp [recoverD, recov, hmode]
  | panicking ch =>
    cases ch with
    | nil => left; simp [recoverD, recov, hmode]
    | cons p older =>
      obtain ⟨v, r, g⟩ := p
      cases r <;> cases g <;> simp [recoverD, recov, hmode]

section
variable {P : Program}
/-- A DEFERRED CLOSURE: its first region asks recover; what comes behind is read as ever. -/
theorem oDef_of_sw {f : FuncId} {fn : Func} {A : Ann} {pan : Bool} {id t : Nat} {o : Oper} {c2 : Code} {args : Array Value} {u : FrameMode} {w : World} {R : FrameMode → World → Prop} {Rp : List PanicEntry → FrameMode → World → Prop}
    (hm : P.follows .mixedOrders = true) (hf : P.funcs[f]? = some fn) (hb : fn.body = some (.seq (.region id #[o] false) c2)) (hr : fn.results = #[])
    (ho : ∃ c, o.op = .call c ∧ c.callee = .builtin .recover) (hg : o.guard = none) (hd : o.dst = some t) (hc : chk ⟨false, pan⟩ P false A c2 = true)
    (h : sw ⟨false, pan⟩ P (fun c w' => Rp c (recov u).2 w') A c2 (st (args.toList ++ List.replicate (fn.ntmps - args.size) undef) (some t) (recov u).1) w fun
      | .normal, _, w' => R (recov u).2 w'
      | .ret, _, w' => R (recov u).2 w'
      | _, _, _ => False) : oDef P f args u w R Rp := by
  refine callsDIn_of_wpSIn hf hb trivial fun c₀ cs hu => ?_
  have hact : ({ tmps := args ++ Array.replicate (fn.ntmps - args.size) undef, defers := [] } : Act) = act (args.toList ++ List.replicate (fn.ntmps - args.size) undef) [] := by
    simp only [act, Act.mk.injEq, and_true]
    apply Array.ext'
    simp
  rw [hact]
  generalize args.toList ++ List.replicate (fn.ntmps - args.size) undef = e at h
  obtain ⟨c, hoc, hcal⟩ := ho
  obtain ⟨dst, op, type, pos, after, guard⟩ := o
  simp only at hoc hg hd
  subst hoc hg hd
  obtain ⟨cal, cargs, ats⟩ := c
  simp only at hcal
  subst hcal
  have hcont : ∀ cs', cs' = { c₀ with mode := (recov u).2 } :: cs → c2.wpSIn (FW none) 0 P (bodyPostS P fn c₀ cs fun
      | .returned _, u', w' => R u' w'
      | .panicked c, u', w' => Rp c u' w'
      | .outgrown, _, _ => False) (act (st e (some t) (recov u).1) []) cs' w := by
    rintro cs' rfl
    refine wpSIn_of_wpIn rfl (wpIn_mono (sw_sound (D0 := []) (n0 := 0) hm c2 A ⟨false, pan⟩ none _ _ [] w _ hc rfl h) ?_)
    have fin : ∀ e' ds w', ds = [] → R (recov u).2 w' → ∃ u', ({ c₀ with mode := (recov u).2 } :: cs : List Frame) = { c₀ with mode := u' } :: cs ∧ ∃ v, (results fn (act e' ds).tmps).run P w' = .ok v w' ∧ R u' w' := by
      rintro e' ds w' rfl hR
      refine ⟨_, rfl, .tuple #[], ?_, hR⟩
      have hz : fn.results.toList = [] := by rw [hr]
      obtain ⟨vs, h1, h2⟩ := results_of (P := P) (f := fn) (w := w') (e := e') (K := fun vs => vs = []) (by rw [hz]; rfl)
      subst h2; exact h1
    intro x a w' hx
    cases x with
    | normal => obtain ⟨e', ds, rfl, _, hmk, hq⟩ := hx; exact ⟨hmk, fin e' ds w' hmk hq⟩
    | ret => obtain ⟨e', ds, rfl, _, hmk, hq⟩ := hx; exact ⟨hmk, fin e' ds w' hmk hq⟩
    | panic ch => obtain ⟨⟨e', ds, rfl, _, hmk⟩, hq⟩ := hx; exact ⟨hmk, _, rfl, hq⟩
    | outgrown => exact hx.elim
    | exit id => obtain ⟨_, _, _, _, _, h⟩ := hx; exact h.elim
    | goto l => obtain ⟨_, _, _, _, _, h⟩ := hx; exact h.elim
  refine wpSIn_seq (wpSIn_region ?_)
  have hexec : (execOp (act e []).eval ({ dst := some t, op := .call { callee := .builtin .recover, args := cargs, argTypes := ats }, type, pos, after, guard := none } : Oper)).run P w = .ok .recover w := by
    simp only [execOp, resolve, Sem.run_bind, Sem.run, pure, Result.andThen, invoke, builtin]
  have hwant : ∀ y, Region.wanted ({ dst := some t, op := .call { callee := .builtin .recover, args := cargs, argTypes := ats }, type, pos, after, guard := none } : Oper) y = true := fun _ => rfl
  have hdst : ({ dst := some t, op := .call { callee := .builtin .recover, args := cargs, argTypes := ats }, type, pos, after, guard := none } : Oper).dst = some t := rfl
  generalize ({ dst := some t, op := .call { callee := .builtin .recover, args := cargs, argTypes := ats }, type, pos, after, guard := none } : Oper) = o at *
  rw [show List.range (#[o] : Array Oper).size = [0] from rfl, wpOpsSIn]
  simp only [show (#[o] : Array Oper)[0]? = some o from rfl]
  refine ⟨fun _ _ => trivial, ?_⟩
  rw [if_pos (hwant _), hexec]
  simp only [hdst]
  rw [← hu] at hcont
  rcases recov_spec c₀ cs with ⟨h1, h2⟩ | h1
  · rw [h1]
    have := hcont (c₀ :: cs) (by rw [h2])
    rw [h2] at this
    rw [act_put]
    exact this
  · rw [h1]
    have := hcont _ rfl
    simp only [wpOpsSIn, Exit.thenS, act_put]
    exact this

def codeTail : Code → Code
  | .seq _ b => b
  | c => c
/-- does it begin by asking recover? where its answer goes -/
def recHead : Code → Option Nat
  | .seq (.region _ ops false) _ => match ops.toList with
    | [o] => match o.guard, o.dst, o.op with
      | none, some t, .call c => match c.callee with
        | .builtin .recover => some t
        | _ => none
      | _, _, _ => none
    | _ => none
  | _ => none
theorem recHead_spec {c : Code} {t : Nat} (h : recHead c = some t) : ∃ id o, c = .seq (.region id #[o] false) (codeTail c) ∧ (∃ c', o.op = .call c' ∧ c'.callee = .builtin .recover) ∧ o.guard = none ∧ o.dst = some t := by
  unfold recHead at h
  split at h
  rotate_left
  · cases h
  rename_i id ops c2
  split at h
  rotate_left
  · cases h
  rename_i o hl
  split at h
  rotate_left
  · cases h
  rename_i t' c' hg hd ho
  split at h
  rotate_left
  · cases h
  rename_i hcal
  cases h
  have hops : ops = #[o] := by rw [← Array.toArray_toList (xs := ops), hl]
  subst hops
  exact ⟨id, o, rfl, ⟨c', ho, hcal⟩, hg, hd⟩
theorem oDef_of {f : FuncId} {fn : Func} {A : Ann} {pan : Bool} {t : Nat} {args : Array Value} {u : FrameMode} {w : World} {R : FrameMode → World → Prop} {Rp : List PanicEntry → FrameMode → World → Prop}
    (hm : P.follows .mixedOrders = true) (hf : P.funcs[f]? = some fn) (hb : fn.body.isSome = true) (hh : recHead (bodyOf fn) = some t) (hr : fn.results = #[]) (hc : chk ⟨false, pan⟩ P false A (codeTail (bodyOf fn)) = true)
    (h : sw ⟨false, pan⟩ P (fun c w' => Rp c (recov u).2 w') A (codeTail (bodyOf fn)) (st (args.toList ++ List.replicate (fn.ntmps - args.size) undef) (some t) (recov u).1) w fun
      | .normal, _, w' => R (recov u).2 w'
      | .ret, _, w' => R (recov u).2 w'
      | _, _, _ => False) : oDef P f args u w R Rp := by
  obtain ⟨id, o, h1, h2, h3, h4⟩ := recHead_spec hh
  obtain ⟨c, hbc⟩ := Option.isSome_iff_exists.1 hb
  have hbody : bodyOf fn = c := by simp [bodyOf, hbc]
  exact oDef_of_sw hm hf (by rw [hbc, ← hbody]; exact congrArg some h1) hr h2 h3 h4 hc h

/-! ### The function that defers -/
inductive DAnn where
  | s (A : Ann) (r : DAnn)
  | d (B : Ann)
/-- how a function ends, its deferred closure done -/
def eEnd (N : World → Prop) (Kp : List PanicEntry → World → Prop) (u : FrameMode) (w : World) : Prop :=
  match u with
  | .returning => N w
  | .panicking c => Kp c w
  | .run => False
def dEnd (P : Program) (fn : Func) (K : Value → World → Prop) (Kp : List PanicEntry → World → Prop) (e : Env) (u : FrameMode) (w : World) : Prop :=
  eEnd (fun w => resQ P w e fn.results.toList fun vs => K (tup vs) w) Kp u w
def dLeave (P : Program) (fn : Func) (K : Value → World → Prop) (Kp : List PanicEntry → World → Prop) (g : FuncId) (cap : Array Value) (e : Env) (u : FrameMode) (w : World) : Prop :=
  oDef P g cap u w (fun u' w' => dEnd P fn K Kp e (settle u') w') (fun c u' w' => dEnd P fn K Kp e (raised u' c) w')
/-- what is asked of the whole -/
def swD (P : Program) (fn : Func) (K : Value → World → Prop) (Kp : List PanicEntry → World → Prop) : DAnn → Code → Env → World → Prop
  | .s A r, .seq a b, e, w => sw ⟨false, false⟩ P (fun _ _ => False) A a e w fun
    | .normal, e', w' => swD P fn K Kp r b e' w'
    | _, _, _ => False
  | .d B, .seq (.region _ ops _) c2, e, w => match ops[0]? with
    | some o0 => match o0.op, o0.dst with
      | .makeFunc (.func g) _ caps, some t =>
        sw ⟨false, true⟩ P (fun c w' => dLeave P fn K Kp g (caps.map (ev e)) (st e (some t) (.func (.func g) #[] (caps.map (ev e)))) (.panicking c) w') B c2 (st e (some t) (.func (.func g) #[] (caps.map (ev e)))) w fun
          | .normal, e', w' => dLeave P fn K Kp g (caps.map (ev e)) e' .returning w'
          | .ret, e', w' => dLeave P fn K Kp g (caps.map (ev e)) e' .returning w'
          | _, _, _ => False
      | _, _ => False
    | none => False
  | _, _, _, _ => False
def cellsOnly (ws : List Nat) : List ResultVar → Bool
  | [] => true
  | .tmp _ :: _ => false
  | .cell a _ :: r => !has ws a && cellsOnly ws r
def chkD (P : Program) (fn : Func) : DAnn → Code → Bool
  | .s A r, .seq a b => chk ⟨false, false⟩ P false A a && chkD P fn r b
  | .d B, .seq (.region _ ops draw) c2 => !draw && chk ⟨false, true⟩ P false B c2 && cellsOnly (wr c2) fn.results.toList && (match ops.toList with
    | [o0, o1] => o0.guard.isNone && o1.guard.isNone && (match o0.op, o0.dst, o1.op, o1.dst with
      | .makeFunc (.func g) first _, some t, .defer c, none => decide (t < fn.ntmps) && first.isEmpty && enters P g && c.args.isEmpty && (match c.callee with | .value (.tmp t') => t' == t | _ => false)
      | _, _, _, _ => false)
    | _ => false)
  | _, _ => false
theorem resQ_ag {ws : List Nat} {e e' : Env} {w : World} (h : Ag ws e e') : ∀ (rs : List ResultVar) (K : List Value → Prop), cellsOnly ws rs = true → resQ P w e rs K → resQ P w e' rs K
  | [], _, _, hq => hq
  | .tmp _ :: _, _, hc, _ => by cases hc
  | .cell a t :: r, K, hc, hq => by
    simp only [cellsOnly, Bool.and_eq_true, Bool.not_eq_true'] at hc
    have ha : e'.getD a undef = e.getD a undef := by
      have hn : a ∉ ws := fun hm => by rw [(has_spec ws a).2 hm] at hc; cases hc.1
      rw [List.getD_eq_getElem?_getD, List.getD_eq_getElem?_getD, h.2 a hn]
    simp only [resQ] at hq ⊢
    rw [ha]
    obtain ⟨v, h1, h2⟩ := hq
    exact ⟨v, h1, resQ_ag h r _ hc.2 h2⟩
theorem dEnd_ag {fn : Func} {K : Value → World → Prop} {Kp : List PanicEntry → World → Prop} {ws : List Nat} {e e' : Env} {u : FrameMode} {w : World} (h : Ag ws e e') (hc : cellsOnly ws fn.results.toList = true) (hq : dEnd P fn K Kp e u w) :
    dEnd P fn K Kp e' u w := by
  cases u with
  | run => exact hq
  | returning => exact resQ_ag h _ _ hc hq
  | panicking c => exact hq
theorem swD_sound {f : FuncId} {fn : Func} {K : Value → World → Prop} {Kp : List PanicEntry → World → Prop} (hm : P.follows .mixedOrders = true) :
    ∀ (D : DAnn) (c : Code) (e : Env) (w : World), fn.ntmps ≤ e.length → chkD P fn D c = true → swD P fn K Kp D c e w → c.wpIn (FW none) 0 P (bodyPostM (FW none) 0 P fn fun
      | .returned v, w' => K v w'
      | .panicked c, w' => Kp c w'
      | .outgrown, _ => False) (act e []) w
  | .s A r, .seq a b, e, w, hl, hc, h => by
    simp only [chkD, Bool.and_eq_true] at hc
    refine wpIn_seq (wpIn_mono (sw_sound (D0 := []) (n0 := 0) hm a A ⟨false, false⟩ none _ e [] w _ hc.1 rfl h) ?_)
    intro x a1 w1 hx
    cases x with
    | normal =>
      obtain ⟨e1, ds1, rfl, h1, h2, h3⟩ := hx
      have h2 : ds1 = [] := h2
      subst h2
      exact swD_sound (f := f) hm r b e1 w1 (by rw [h1.1]; exact hl) hc.2 h3
    | panic ch => exact hx.2.elim
    | outgrown => exact hx.elim
    | _ => obtain ⟨_, _, _, _, _, h⟩ := hx; exact h.elim
  | .d B, .seq (.region id ops draw) c2, e, w, hlen, hc, h => by
    simp only [chkD, Bool.and_eq_true, Bool.not_eq_true'] at hc
    obtain ⟨⟨⟨hdr, hcB⟩, hcell⟩, hops⟩ := hc
    subst hdr
    split at hops
    rotate_left
    · cases hops
    rename_i o0 o1 hl
    have hops' : ops = #[o0, o1] := by rw [← Array.toArray_toList (xs := ops), hl]
    subst hops'
    simp only [Bool.and_eq_true, Option.isNone_iff_eq_none] at hops
    obtain ⟨⟨hg0, hg1⟩, hops⟩ := hops
    obtain ⟨dst0, op0, type0, pos0, after0, guard0⟩ := o0
    obtain ⟨dst1, op1, type1, pos1, after1, guard1⟩ := o1
    simp only at hg0 hg1 hops
    subst hg0 hg1
    split at hops
    rotate_left
    · cases hops
    rename_i g first caps t c
    simp only [Bool.and_eq_true] at hops
    obtain ⟨⟨⟨⟨hlt, hfirst⟩, hent⟩, hargs⟩, hcal⟩ := hops
    obtain ⟨cal, cargs, ats⟩ := c
    simp only at hargs hcal
    split at hcal
    rotate_left
    · cases hcal
    rename_i t'
    have ht : t' = t := by simpa using hcal
    subst ht
    have hlt : t' < e.length := Nat.lt_of_lt_of_le (of_decide_eq_true hlt) hlen
    have hfirst : first = #[] := by simpa using hfirst
    have hargs : cargs = #[] := by simpa using hargs
    subst hfirst hargs
    simp only [swD] at h
    obtain ⟨e', he'⟩ : ∃ e', e' = st e (some t') (.func (.func g) #[] (caps.map (ev e))) := ⟨_, rfl⟩
    have h : sw ⟨false, true⟩ P (fun c w' => dLeave P fn K Kp g (caps.map (ev e)) e' (.panicking c) w') B c2 e' w (fun
        | .normal, e2, w' => dLeave P fn K Kp g (caps.map (ev e)) e2 .returning w'
        | .ret, e2, w' => dLeave P fn K Kp g (caps.map (ev e)) e2 .returning w'
        | _, _, _ => False) := by rw [he']; exact h
    have h0' := h
    clear h
    obtain ⟨d, hd⟩ : ∃ d : Deferred, d = { target := .fn (.func g) (caps.map (ev e)), args := #[] } := ⟨_, rfl⟩
    have leave : ∀ (e2 : Env) (u : FrameMode) (w' : World), u ≠ .run → dLeave P fn K Kp g (caps.map (ev e)) e2 u w' → LeavesInM (FW none) 0 P fn (act e2 [d]).tmps (fun
        | .returned v, w' => K v w'
        | .panicked c, w' => Kp c w'
        | .outgrown, _ => False) [d] u w' := by
      intro e2 u w' hu hq
      have fin : ∀ u' w'', dEnd P fn K Kp e2 u' w'' → LeavesInM (FW none) 0 P fn (act e2 [d]).tmps (fun
          | .returned v, w' => K v w'
          | .panicked c, w' => Kp c w'
          | .outgrown, _ => False) [] u' w'' := by
        intro u' w'' hq
        cases u' with
        | run => exact hq.elim
        | returning => obtain ⟨vs, h1, h2⟩ := results_of (f := fn) hq; exact ⟨_, h1, h2⟩
        | panicking c => exact hq
      refine ⟨hu, .inr ⟨(fun hh => by cases hh), .func g, caps.map (ev e), g, caps.map (ev e), by rw [hd], ?_, fun _ _ => trivial, CallsDIn.mono hq ?_⟩⟩
      · rw [hd]
        simp only [invoke]
        rw [run_callFunc hent]; simp
      · intro x u' w'' hx
        cases x with
        | returned v => exact fin _ _ hx
        | panicked c => exact fin _ _ hx
        | outgrown => exact hx.elim
    have h0 : (execOp (act e []).eval ({ dst := some t', op := .makeFunc (.func g) #[] caps, type := type0, pos := pos0, after := after0, guard := none } : Oper)).run P w = .ok (.value (.func (.func g) #[] (caps.map (ev e)))) w := by
      rw [act_eval]
      simp only [execOp, Sem.run_bind, Sem.run, pure, Result.andThen, Instr.makeFunc, Array.map_empty]
    have h1 : (execOp (act e' []).eval ({ dst := none, op := .defer { callee := .value (.tmp t'), args := #[], argTypes := ats }, type := type1, pos := pos1, after := after1, guard := none } : Oper)).run P w = .ok (.defer d) w := by
      rw [act_eval]
      have ht' : e'.getD t' undef = .func (.func g) #[] (caps.map (ev e)) := by rw [he']; simp [st, List.getD_eq_getElem?_getD, hlt]
      simp only [execOp, resolve, ev, Sem.run_bind, Sem.run, pure, Result.andThen, Array.map_empty, ht', Deferred.ofValue, hd]
      rfl
    have q0 : ∀ y, Region.wanted ({ dst := some t', op := .makeFunc (.func g) #[] caps, type := type0, pos := pos0, after := after0, guard := none } : Oper) y = true := fun _ => rfl
    have q1 : ∀ y, Region.wanted ({ dst := none, op := .defer { callee := .value (.tmp t'), args := #[], argTypes := ats }, type := type1, pos := pos1, after := after1, guard := none } : Oper) y = true := fun _ => rfl
    have d0 : ({ dst := some t', op := .makeFunc (.func g) #[] caps, type := type0, pos := pos0, after := after0, guard := none } : Oper).dst = some t' := rfl
    have d1 : ({ dst := none, op := .defer { callee := .value (.tmp t'), args := #[], argTypes := ats }, type := type1, pos := pos1, after := after1, guard := none } : Oper).dst = none := rfl
    generalize ({ dst := some t', op := .makeFunc (.func g) #[] caps, type := type0, pos := pos0, after := after0, guard := none } : Oper) = o0 at *
    generalize ({ dst := none, op := .defer { callee := .value (.tmp t'), args := #[], argTypes := ats }, type := type1, pos := pos1, after := after1, guard := none } : Oper) = o1 at *
    refine wpIn_seq (wpIn_region ?_)
    rw [show List.range (#[o0, o1] : Array Oper).size = [0, 1] from rfl, wpOpsIn_cons]
    unfold wpOpIn
    simp only [show (#[o0, o1] : Array Oper)[0]? = some o0 from rfl]
    rw [if_pos (q0 _)]
    refine ⟨fun _ _ => trivial, ?_⟩
    rw [show (FW none).round = none from rfl, Oper.semAt_none, h0]
    show wpOpsIn _ _ _ _ _ _ ((act e []).put o0.dst _) w
    rw [d0, act_put, ← he', wpOpsIn_cons]
    unfold wpOpIn
    simp only [show (#[o0, o1] : Array Oper)[1]? = some o1 from rfl]
    rw [if_pos (q1 _)]
    refine ⟨fun _ _ => trivial, ?_⟩
    rw [show (FW none).round = none from rfl, Oper.semAt_none, h1]
    show wpOpsIn _ _ _ _ _ _ (({ (act e' []) with defers := d :: (act e' []).defers } : Act).put o1.dst undef) w
    rw [d1]
    show c2.wpIn (FW none) 0 P _ (act e' [d]) w
    refine wpIn_mono (sw_sound (D0 := [d]) (n0 := 0) hm c2 B ⟨false, true⟩ none _ e' [d] w _ hcB rfl h0') ?_
    intro x a w' hx
    cases x with
    | normal => obtain ⟨e2, ds, rfl, _, hmk, hq⟩ := hx; obtain rfl : ds = [d] := hmk; exact leave e2 _ w' (by simp) hq
    | ret => obtain ⟨e2, ds, rfl, _, hmk, hq⟩ := hx; obtain rfl : ds = [d] := hmk; exact leave e2 _ w' (by simp) hq
    | panic ch =>
      obtain ⟨⟨e2, ds, rfl, hag, hmk⟩, hq⟩ := hx
      obtain rfl : ds = [d] := hmk
      refine leave e2 _ w' (by simp) ?_
      refine CallsDIn.mono hq ?_
      intro x u' w'' hx
      cases x with
      | returned v => exact dEnd_ag hag hcell hx
      | panicked c => exact dEnd_ag hag hcell hx
      | outgrown => exact hx
    | outgrown => exact hx.elim
    | exit id => obtain ⟨_, _, _, _, _, h⟩ := hx; exact h.elim
    | goto l => obtain ⟨_, _, _, _, _, h⟩ := hx; exact h.elim
  | .s _ _, .region .., _, _, _, hc, _ => by cases hc
  | .s _ _, .skip, _, _, _, hc, _ => by cases hc
  | .s _ _, .cond .., _, _, _, hc, _ => by cases hc
  | .s _ _, .block .., _, _, _, hc, _ => by cases hc
  | .s _ _, .loop .., _, _, _, hc, _ => by cases hc
  | .s _ _, .exit .., _, _, _, hc, _ => by cases hc
  | .s _ _, .ret, _, _, _, hc, _ => by cases hc
  | .s _ _, .rangeFunc .., _, _, _, hc, _ => by cases hc
  | .s _ _, .scope .., _, _, _, hc, _ => by cases hc
  | .s _ _, .label .., _, _, _, hc, _ => by cases hc
  | .s _ _, .goto .., _, _, _, hc, _ => by cases hc
  | .d _, .region .., _, _, _, hc, _ => by cases hc
  | .d _, .skip, _, _, _, hc, _ => by cases hc
  | .d _, .cond .., _, _, _, hc, _ => by cases hc
  | .d _, .block .., _, _, _, hc, _ => by cases hc
  | .d _, .loop .., _, _, _, hc, _ => by cases hc
  | .d _, .exit .., _, _, _, hc, _ => by cases hc
  | .d _, .ret, _, _, _, hc, _ => by cases hc
  | .d _, .rangeFunc .., _, _, _, hc, _ => by cases hc
  | .d _, .scope .., _, _, _, hc, _ => by cases hc
  | .d _, .label .., _, _, _, hc, _ => by cases hc
  | .d _, .goto .., _, _, _, hc, _ => by cases hc
  | .d _, .seq .skip _, _, _, _, hc, _ => by cases hc
  | .d _, .seq (.seq ..) _, _, _, _, hc, _ => by cases hc
  | .d _, .seq (.cond ..) _, _, _, _, hc, _ => by cases hc
  | .d _, .seq (.block ..) _, _, _, _, hc, _ => by cases hc
  | .d _, .seq (.loop ..) _, _, _, _, hc, _ => by cases hc
  | .d _, .seq (.exit ..) _, _, _, _, hc, _ => by cases hc
  | .d _, .seq .ret _, _, _, _, hc, _ => by cases hc
  | .d _, .seq (.rangeFunc ..) _, _, _, _, hc, _ => by cases hc
  | .d _, .seq (.scope ..) _, _, _, _, hc, _ => by cases hc
  | .d _, .seq (.label ..) _, _, _, _, hc, _ => by cases hc
  | .d _, .seq (.goto ..) _, _, _, _, hc, _ => by cases hc
/-- A FUNCTION THAT DEFERS ONE CLOSURE -/
theorem callsP_of_swD {f : FuncId} {fn : Func} {D : DAnn} {args : Array Value} {w : World} {K : Value → World → Prop} {Kp : List PanicEntry → World → Prop}
    (hm : P.follows .mixedOrders = true) (hf : P.funcs[f]? = some fn) (hb : fn.body.isSome = true) (hc : chkD P fn D (bodyOf fn) = true)
    (h : swD P fn K Kp D (bodyOf fn) (args.toList ++ List.replicate (fn.ntmps - args.size) undef) w) : oCallP P f args w K Kp := by
  obtain ⟨c, hbc⟩ := Option.isSome_iff_exists.1 hb
  have hbody : bodyOf fn = c := by simp [bodyOf, hbc]
  rw [hbody] at hc h
  refine (callsIn_wide (n := 0)).1 (callsIn_of_wp_marks (F := FW none) hf hbc trivial ?_)
  have hact : ({ tmps := args ++ Array.replicate (fn.ntmps - args.size) undef, defers := [] } : Act) = act (args.toList ++ List.replicate (fn.ntmps - args.size) undef) [] := by
    simp only [act, Act.mk.injEq, and_true]
    apply Array.ext'
    simp
  rw [hact]
  refine wpIn_mono (swD_sound (f := f) hm D c _ w (by rw [List.length_append, List.length_replicate]; simp; omega) hc h) fun x a w h => ?_
  cases x <;> exact h
theorem calls_of_swD {f : FuncId} {fn : Func} {D : DAnn} {args : Array Value} {w : World} {K : Value → World → Prop}
    (hm : P.follows .mixedOrders = true) (hf : P.funcs[f]? = some fn) (hb : fn.body.isSome = true) (hc : chkD P fn D (bodyOf fn) = true)
    (h : swD P fn K (fun _ _ => False) D (bodyOf fn) (args.toList ++ List.replicate (fn.ntmps - args.size) undef) w) : oCall P f args w K := by
  refine (callsP_of_swD hm hf hb hc h).mono fun x w' hx => ?_
  cases x with
  | returned v => exact ⟨v, rfl, hx⟩
  | panicked c => exact hx.elim
  | outgrown => exact hx.elim
end
end Go.Sh
end

section
namespace Go.Sh
open Go.RowKit

inductive Dat where
  | int (k : IntKind) (n : Int)
  | bool (b : Bool)
  | str (s : ByteArray)
  | agg (fs : List Dat)
  | sl (sz : Nat) (es : List Dat)

/-- cells of an element of a slice -/
def CellsAt (r : Gh) (p : Option Addr) (n : Nat) (c : List Value) : Prop :=
  ∀ j v, c[j]? = some v → ∃ b off, p = some ⟨b, off, none⟩ ∧ Ob r fun w => w.cell? ⟨b, off + n + j, none⟩ = some v
mutual
def Rep (r : Gh) : Dat → List Value → Prop
  | .int k n, cs => cs = [.int k n]
  | .bool b, cs => cs = [.bool b]
  | .str s, cs => cs = [.string s]
  | .agg fs, cs => RepA r fs cs
  | .sl sz es, cs => ∃ p cap, cs = [.slice p es.length cap] ∧ (p = none → cap = 0) ∧ es.length ≤ cap ∧ RepS r sz p 0 es
def RepA (r : Gh) : List Dat → List Value → Prop
  | [], cs => cs = []
  | d :: ds, cs => ∃ a b, cs = a ++ b ∧ Rep r d a ∧ RepA r ds b
def RepS (r : Gh) (sz : Nat) (p : Option Addr) : Nat → List Dat → Prop
  | _, [] => True
  | i, d :: ds => (∃ c, c.length = sz ∧ CellsAt r p (i * sz) c ∧ Rep r d c) ∧ RepS r sz p (i + 1) ds
end
theorem CellsAt.up {r s : Gh} {p : Option Addr} {n : Nat} {c : List Value} (h : CellsAt r p n c) (l : Le r s) : CellsAt s p n c := fun j v hj => by
  obtain ⟨b, off, h1, h2⟩ := h j v hj
  exact ⟨b, off, h1, h2.up⟩
mutual
theorem Rep.up' {r s : Gh} (l : Le r s) : ∀ {d : Dat} {cs : List Value}, Rep r d cs → Rep s d cs
  | .int _ _, _, h => h
  | .bool _, _, h => h
  | .str _, _, h => h
  | .agg fs, _, h => RepA.up' l (fs := fs) h
  | .sl _ es, _, h => by
    obtain ⟨p, cap, h1, h2, h3, h4⟩ := h
    exact ⟨p, cap, h1, h2, h3, RepS.up' l (es := es) h4⟩
theorem RepA.up' {r s : Gh} (l : Le r s) : ∀ {fs : List Dat} {cs : List Value}, RepA r fs cs → RepA s fs cs
  | [], _, h => h
  | d :: ds, _, h => by
    obtain ⟨a, b, h1, h2, h3⟩ := h
    exact ⟨a, b, h1, Rep.up' l (d := d) h2, RepA.up' l (fs := ds) h3⟩
theorem RepS.up' {r s : Gh} (l : Le r s) {sz : Nat} {p : Option Addr} : ∀ {i : Nat} {es : List Dat}, RepS r sz p i es → RepS s sz p i es
  | _, [], _ => trivial
  | _, d :: ds, h => by
    obtain ⟨⟨c, h1, h2, h3⟩, h4⟩ := h
    exact ⟨⟨c, h1, h2.up l, Rep.up' l (d := d) h3⟩, RepS.up' l (es := ds) h4⟩
end
theorem Rep.up {r s : Gh} {d : Dat} {cs : List Value} (h : Rep r d cs) [l : Le r s] : Rep s d cs := Rep.up' l h
theorem RepS.up {r s : Gh} {sz i : Nat} {p : Option Addr} {es : List Dat} (h : RepS r sz p i es) [l : Le r s] : RepS s sz p i es := RepS.up' l h
theorem RepS.get {r : Gh} {sz : Nat} {p : Option Addr} : ∀ {es : List Dat} {k i : Nat} {d : Dat}, RepS r sz p k es → es[i]? = some d → ∃ c, c.length = sz ∧ CellsAt r p ((k + i) * sz) c ∧ Rep r d c
  | [], _, _, _, _, h => by cases h
  | e :: es, k, 0, d, h, hi => by simp only [List.getElem?_cons_zero, Option.some.injEq] at hi; subst hi; exact h.1
  | e :: es, k, i + 1, d, h, hi => by
    have := RepS.get (i := i) h.2 hi
    rw [show k + 1 + i = k + (i + 1) by omega] at this; exact this
theorem RepS.of {r : Gh} {sz : Nat} {p : Option Addr} : ∀ {es : List Dat} {k : Nat}, (∀ i d, es[i]? = some d → ∃ c, c.length = sz ∧ CellsAt r p ((k + i) * sz) c ∧ Rep r d c) → RepS r sz p k es
  | [], _, _ => trivial
  | e :: es, k, h => ⟨h 0 e rfl, RepS.of (es := es) (k := k + 1) fun i d hi => by
    have := h (i + 1) d hi
    rw [show k + (i + 1) = k + 1 + i by omega] at this; exact this⟩
/-- an element, to be read -/
theorem RepS.at {X : Nat → Prop} {w0 w : World} {r q : Gh} {L : List Asr} (S : StX X w0 r w L) {sz : Nat} {p : Option Addr} {es : List Dat} (h : RepS q sz p 0 es) [l : Le q r] {i : Nat} (hi : i < es.length) (hz : 0 < sz) :
    ∃ b off c, p = some ⟨b, off, none⟩ ∧ c.length = sz ∧ (∀ j v, c[j]? = some v → w.cell? ⟨b, off + i * sz + j, none⟩ = some v) ∧ Rep q es[i] c := by
  obtain ⟨c, h1, h2, h3⟩ := h.get (i := i) (List.getElem?_eq_getElem hi)
  obtain ⟨b, off, rfl, _⟩ := h2 0 c[0] (List.getElem?_eq_getElem (by omega))
  refine ⟨b, off, c, rfl, h1, fun j v hj => ?_, h3⟩
  obtain ⟨b', off', hp, ho⟩ := h2 j v hj
  cases hp
  have := S.at ho
  rwa [Nat.zero_add] at this
/-! ### The shapes -/
theorem rep_int {r : Gh} {k : IntKind} {n : Int} {cs : List Value} (h : Rep r (.int k n) cs) : cs = [.int k n] := h
theorem rep_agg {r : Gh} {d : Dat} {ds : List Dat} {cs : List Value} (h : RepA r (d :: ds) cs) : ∃ a b, cs = a ++ b ∧ Rep r d a ∧ RepA r ds b := h
/-- a value of a type, as a walk hands it about -/
def RepV (r : Gh) (v : Value) (d : Dat) : Prop := Rep r d v.cells.toList
theorem RepV.up {r s : Gh} {v : Value} {d : Dat} (h : RepV r v d) [l : Le r s] : RepV s v d := Rep.up' l h

end Go.Sh
end

section
namespace Go.Sh
open Go.RowKit
section
variable {w : World} {A : (List Value → World → Prop) → Prop} {Z : Value → World → Prop} {b c : Bool}
theorem j_band (hA : ∀ K : List Value → World → Prop, K [.bool c] w → A K) (hZ : Z (.bool (b && c)) w) :
    sJoin (fun K => gIf (.bool b) true (A K) (K [undef] w)) fun s _ w' => oPick (.bool b) (s.getD 0 undef) (.bool false) fun t => Z t w' := by
  intro K hK
  cases b with
  | true => exact hA K (hK _ _ fun _ => ⟨true, rfl, by simpa using hZ⟩)
  | false => exact hK _ _ fun _ => ⟨false, rfl, by simpa using hZ⟩
theorem j_bor (hA : ∀ K : List Value → World → Prop, K [.bool c] w → A K) (hZ : Z (.bool (b || c)) w) :
    sJoin (fun K => gIf (.bool b) false (A K) (K [undef] w)) fun s _ w' => oPick (.bool b) (.bool true) (s.getD 0 undef) fun t => Z t w' := by
  intro K hK
  cases b with
  | true => exact hK _ _ fun _ => ⟨true, rfl, by simpa using hZ⟩
  | false => exact hA K (hK _ _ fun _ => ⟨false, rfl, by simpa using hZ⟩)
/-- .. where the second one is a call's answer (asked only if the first says so) -/
theorem j_bandE (hA : b = true → ∀ K : List Value → World → Prop, (∀ w', Ext w w' → K [.bool c] w') → A K) (hZ : ∀ w', Ext w w' → Z (.bool (b && c)) w') :
    sJoin (fun K => gIf (.bool b) true (A K) (K [undef] w)) fun s _ w' => oPick (.bool b) (s.getD 0 undef) (.bool false) fun t => Z t w' := by
  intro K hK
  cases b with
  | true => exact hA rfl K fun w' e => hK _ _ fun _ => ⟨true, rfl, by simpa using hZ w' e⟩
  | false => exact hK _ _ fun _ => ⟨false, rfl, by simpa using hZ w (.refl w)⟩
theorem j_borE (hA : b = false → ∀ K : List Value → World → Prop, (∀ w', Ext w w' → K [.bool c] w') → A K) (hZ : ∀ w', Ext w w' → Z (.bool (b || c)) w') :
    sJoin (fun K => gIf (.bool b) false (A K) (K [undef] w)) fun s _ w' => oPick (.bool b) (.bool true) (s.getD 0 undef) fun t => Z t w' := by
  intro K hK
  cases b with
  | true => exact hK _ _ fun _ => ⟨true, rfl, by simpa using hZ w (.refl w)⟩
  | false => exact hA rfl K fun w' e => hK _ _ fun _ => ⟨false, rfl, by simpa using hZ w' e⟩
/-- 'B or (g and c)' -/
theorem j_borand {g : Bool} {A : (List Value → World → Prop) → World → Prop} (hA : ∀ K : List Value → World → Prop, K [.bool c] w → A K w) (hZ : Z (.bool (b || (g && c))) w) :
    sJoin (fun K1 => gIf (.bool b) false (K1 [.bool g] w) (K1 [undef] w)) fun s1 _ w1 =>
      sJoin (fun K2 => gIf (s1.getD 0 undef) true (A K2 w1) (K2 [undef] w1)) fun s2 _ w2 =>
        sJoin (fun K3 => gIf (.bool b) false (oPick (s1.getD 0 undef) (s2.getD 0 undef) (.bool false) fun t => K3 [t] w2) (K3 [undef] w2)) fun s3 _ w3 =>
          oPick (.bool b) (.bool true) (s3.getD 0 undef) fun t => Z t w3 := by
  intro K1 hK1
  cases b with
  | true =>
    refine hK1 _ _ fun _ => ?_
    intro K2 hK2
    refine hK2 _ _ fun _ => ?_
    intro K3 hK3
    refine hK3 _ _ fun _ => ⟨true, rfl, ?_⟩
    rw [Bool.true_or] at hZ; exact hZ
  | false =>
    refine hK1 _ _ fun _ => ?_
    intro K2 hK2
    cases g with
    | true =>
      refine hA _ (hK2 _ _ fun _ => ?_)
      intro K3 hK3
      refine ⟨true, rfl, hK3 _ _ fun _ => ⟨false, rfl, ?_⟩⟩
      rw [Bool.false_or, Bool.true_and] at hZ; exact hZ
    | false =>
      refine hK2 _ _ fun _ => ?_
      intro K3 hK3
      refine ⟨false, rfl, hK3 _ _ fun _ => ⟨false, rfl, ?_⟩⟩
      rw [Bool.false_or, Bool.false_and] at hZ; exact hZ
theorem k_cor {K : List Value → World → Prop} {A : Prop} (hk : K [.bool (b || c)] w) (hA : b = false → K [.bool c] w → A) : oCond (.bool b) (K [.bool b] w) A := by
  cases b with
  | true => rw [Bool.true_or] at hk; exact hk
  | false => exact hA rfl (by rw [Bool.false_or] at hk; exact hk)
end
/-- what lies in memory is read as a struct -/
theorem s_ldN {P : Program} {w : World} {K : Value → Prop} {t : TypeId} {b off n : Nat} {c : List Value} [k : LdN P t n] (hl : c.length = n) (h : ∀ j v, c[j]? = some v → w.cell? ⟨b, off + j, none⟩ = some v) (hk : K (.agg c.toArray)) :
    opQ P w (Instr.loadAt t (.pointer (some ⟨b, off, none⟩))) K := q_loadN (by rw [hl]; exact k.h) h hk
theorem s_ld1 {P : Program} {w : World} {K : Value → Prop} {t : TypeId} {a : Addr} {v : Value} [k : Ld1 P t] (h : w.cell? a = some v) (hk : K v) : opQ P w (Instr.loadAt t (.pointer (some a))) K := q_load k.h h hk
theorem n_some {a : Addr} {K : Value → Prop} (k : K (.pointer (some a))) : oNil (.pointer (some a)) K := n_ptr k
end Go.Sh
end

section
namespace Go.Sh
section
variable {P : Program} {X : Nat → Prop} {w0 w w' : World} {r s : Gh} {L : List Asr} {t e : TypeId} {sz n m : Nat} {v : Value} {xs : List Value}
theorem StX.litU (S : StX X w0 r w L) {e : TypeId} {len : Nat} {parts : Array (Nat × Value)} {cs : List Value} {K : Value → World → Prop} (hT : bslT P t len parts = some (e, cs))
    (h : ∀ b w', StX X w0 r w' (.cell b cs e :: L) → K (.slice (some ⟨b, 0, none⟩) len len) w') : opW P w (Instr.buildSlice t len parts) fun t' w' => Ext w w' ∧ K t' w' :=
  w_lit hT fun b w' hb e' _ B => ⟨e', h b w' (S.add e' (by omega) B)⟩
/-- a cell of one's own comes to stay -/
theorem StX.frz {b : Nat} {c : List Value} {T : TypeId} (S : StX X w0 r w (.cell b c T :: L)) : StX X w0 (r.or (one b c T)) w L := by
  have B : Blk w b c T := S.has _ (List.mem_cons_self ..)
  refine ⟨S.x, S.holds.or (one_holds B), fun x hx => S.has x (List.mem_cons_of_mem _ hx), fun x hx k hk => ⟨(S.mine x (List.mem_cons_of_mem _ hx) k hk).1, fun o ho => ?_⟩, (List.pairwise_cons.1 S.apart).2⟩
  rcases ho with ho | ⟨rfl, _⟩
  · exact (S.mine x (List.mem_cons_of_mem _ hx) k hk).2 o ho
  · exact (List.pairwise_cons.1 S.apart).1 x hx k rfl hk
/-- a row that a call has made is one's own -/
theorem StX.take (S : StX X w0 r w L) (E : Ext w w') (h : w'.ownsRow w.heap.size e sz v n xs) : StX X w0 r w' (.row v e sz n xs :: L) := by
  have S' := S.go E
  have hb : ∀ k, v.ownBlock = some k → w.heap.size ≤ k := fun k hk => by
    rcases row_cases h with h0 | ⟨g, cap, c, h1, _, _, h2⟩
    · rw [h0] at hk; cases hk
    · rw [h1] at hk; cases hk; exact h2
  refine ⟨S'.x, S'.holds, ?_, ?_, .cons ?_ S'.apart⟩
  · intro x hx; rcases List.mem_cons.1 hx with rfl | hx
    · rcases h with ⟨hl, h | ⟨g, cap, cur, rfl, _, hg⟩⟩
      · exact ⟨hl, .inl h⟩
      · exact ⟨hl, .inr ⟨g, cap, cur, rfl, Nat.zero_le _, hg⟩⟩
    · exact S'.has x hx
  · intro x hx; rcases List.mem_cons.1 hx with rfl | hx
    · intro k hk
      have := hb k hk
      exact ⟨.inl (by have := S.x.size; omega), fun o ho => by have := S.holds.lt ho; omega⟩
    · exact S'.mine x hx
  · intro y hy k hk hk2
    have := hb k hk
    have := Asr.lt (S.has y hy) hk2
    omega
/-- a row of one's own is given as one that the call has made -/
theorem StX.give {f : Asr → List Asr} (S : StX noX w0 r w L) (v : Value) [h : RowAt v L e sz n xs f] : w.ownsRow w0.heap.size e sz v n xs := by
  obtain ⟨p, q, h2, h3⟩ := h.h
  have hx := S.has (.row v e sz n xs) (by rw [h2]; simp)
  have hm := S.mine (.row v e sz n xs) (by rw [h2]; simp)
  rcases hx with ⟨hl, hx | ⟨g, cap, cur, rfl, hb, hg⟩⟩
  · exact ⟨hl, .inl hx⟩
  · exact ⟨hl, .inr ⟨g, cap, cur, rfl, (hm g rfl).1.resolve_right id, hg⟩⟩
theorem own_shape {base : Nat} (h : w.ownsRow base e sz v n xs) : ∃ p cap, v = .slice p n cap ∧ (p = none → cap = 0) ∧ n ≤ cap ∧ xs.length = n * sz ∧ Sl w p xs := by
  have hl := h.1
  rcases own_blk h with ⟨rfl, rfl, rfl⟩ | ⟨g, cap, c, rfl, hg, B, h1, _, h3, h4⟩
  · exact ⟨none, 0, rfl, fun _ => rfl, Nat.le_refl _, hl, Sl.nil _ _⟩
  · exact ⟨_, cap, rfl, by simp, h1, hl, by rw [← h4]; exact (Sl.blk B).take _⟩
theorem StX.rowS {f : Asr → List Asr} (S : StX X w0 r w L) (v : Value) [h : RowAt v L e sz n xs f] : ∃ p cap, v = .slice p n cap ∧ (p = none → cap = 0) ∧ n ≤ cap ∧ xs.length = n * sz ∧ Sl w p xs :=
  own_shape (S.rowSl v (h := h))
theorem StX.row1 {f : Asr → List Asr} (S : StX X w0 r w L) (v : Value) [h : RowAt v L e sz n xs f] : v.oneCell' = true := by
  obtain ⟨p, cap, rfl, _⟩ := S.rowS v (h := h); rfl
/-- a load that may change places with a store -/
theorem w_q {P : Program} {w : World} {s : Sem Value} {K : Value → World → Prop} (h : opQ P w s fun v => K v w) : opW P w s K := by
  obtain ⟨v, h1, h2⟩ := h
  exact ⟨v, w, h1 w (Ext.refl w), h2⟩
theorem w_qE {P : Program} {w : World} {s : Sem Value} {K : Value → World → Prop} (h : opQ P w s fun v => K v w) : opW P w s fun v w' => Ext w w' ∧ K v w' := w_q (by
  obtain ⟨v, h1, h2⟩ := h
  exact ⟨v, h1, Ext.refl w, h2⟩)
/-- a literal is a row -/
theorem StX.toRow {b : Nat} {c : List Value} (S : StX X w0 r w (.cell b c e :: L)) (n sz : Nat) (hc : c.length = n * sz) (hm : n ≤ maxLen) : StX X w0 r w (.row (.slice (some ⟨b, 0, none⟩) n n) e sz n c :: L) := by
  have B : Blk w b c e := S.has _ (List.mem_cons_self ..)
  refine S.turn (p := []) (x := .cell b c e) (y := .row _ e sz n c) (ExtBut.refl _ _) ?_ fun k hk => .inl (by cases hk; rfl)
  have := own_of_blk (base := 0) (Nat.zero_le _) B (Nat.le_refl n) hm hc
  rwa [List.take_of_length_le (by omega)] at this
end
end Go.Sh
end

section
namespace Go.Sh
open Go.RowKit
/-- a string's bytes -/
abbrev bs (l : List UInt8) : ByteArray := ⟨l.toArray⟩
theorem bs_size (l : List UInt8) : (bs l).size = l.length := by simp [ByteArray.size]
theorem bs_toList (l : List UInt8) : (bs l).toList = l := by rw [ByteArray.toList_eq]
theorem bs_of (x : ByteArray) : x = bs x.data.toList := rfl
theorem bs_append (l m : List UInt8) : bs l ++ bs m = bs (l ++ m) := ByteArray.mk_append_mk l m
theorem bs_extract (l : List UInt8) (a b : Nat) : (bs l).extract a b = bs ((l.take b).drop a) := by
  apply ByteArray.ext
  rw [ByteArray.data_extract]
  apply Array.toList_inj.1
  simp [List.extract_eq_take_drop, List.drop_take]
section
variable {P : Program} {t ty : TypeId} {c : Bool} {l m : List UInt8} {a b : Int} {i j : IntKind}
theorem run_bsem {op : BinOp} {x y : Value} (h : (match op, x, y with | .eql, .nilIface, .nilIface => c = true | .neq, .nilIface, .nilIface => c = true | .eql, .agg _, .agg _ => P.eqGuardType P.depth t = false | .neq, .agg _, .agg _ => P.eqGuardType P.depth t = false | _, _, _ => True)) (w : World) :
    (bsem op t c x y).run P w = (binOp op t x y).run P w := by
  have hg : (eqG op t c x y).run P w = .ok () w := by
    unfold eqG
    cases op <;> first | rfl | (cases x <;> first | rfl | (cases y <;> first | rfl | (subst h; rfl) | (simp only at h; simp [run_program, h])))
  rw [bsem, Sem.run_bind, hg]; rfl
instance : PCond P (bsem .add t c (.string (bs l)) (.string (bs m))) (.string (bs (l ++ m))) (l.length + m.length ≤ 9223372036854775807) := .of fun h _ k =>
  p_of (fun w => by
    rw [run_bsem trivial, binOp_string_add, run_string_add_sum w _ _ (by rw [bs_size, bs_size]; exact h), bs_append]) k
instance : PStep P (bsem .eql t c (.string (bs l)) (.string (bs m))) (.bool (l == m)) := .of fun _ k =>
  p_of (fun w => by rw [run_bsem trivial, binOp_string_eql, bs_toList, bs_toList]; rfl) k
instance : PStep P (bsem .neq t c (.string (bs l)) (.string (bs m))) (.bool (!(l == m))) := .of fun _ k =>
  p_of (fun w => by rw [run_bsem trivial, binOp_string_neq, bs_toList, bs_toList]; rfl) k
instance [h : StrT P t] : PStep P (Builtin.len_ #[t] ty #[.string (bs l)]) (.int .i64 l.length) := .of fun _ k => p_lenStr h.h (by rw [bs_size]; exact k)
/-- the byte at a place -/
def byteAt (l : List UInt8) (n : Nat) : Int := (l.getD n 0).toNat
theorem byteAt_lt (l : List UInt8) (n : Nat) : 0 ≤ byteAt l n ∧ byteAt l n < 256 := ⟨Int.natCast_nonneg _, by have := (l.getD n 0).toNat_lt; unfold byteAt; omega⟩
instance [h : StrT P t] : PCond P (Instr.index t (.string (bs l)) (.int i a)) (.int .u8 (byteAt l a.toNat)) (0 ≤ a ∧ a < l.length) := .of fun x _ k =>
  p_byte h.h x.1 (by rw [bs_size]; omega) (by
    have e : ((bs l)[a.toNat]'(by rw [bs_size]; omega)) = l.getD a.toNat 0 := by
      rw [List.getD_eq_getElem?_getD, List.getElem?_eq_getElem (by omega)]; rfl
    rw [e]; exact k)
instance [h : StrT P t] : PCond P (Instr.sliceAt t (.string (bs l)) (some (.int i a)) none none) (.string (bs (l.drop a.toNat))) (0 ≤ a ∧ a ≤ l.length) := .of fun x _ k =>
  p_strLo h.h x.1 (by rw [bs_size]; exact x.2) (by rw [bs_size, bs_extract, List.take_length]; exact k)
instance [h : StrT P t] : PCond P (Instr.sliceAt t (.string (bs l)) none (some (.int i a)) none) (.string (bs (l.take a.toNat))) (0 ≤ a ∧ a ≤ l.length) := .of fun x _ k =>
  p_strHi h.h x.1 (by rw [bs_size]; exact x.2) (by rw [bs_extract, List.drop_zero]; exact k)
theorem p_strLoHi {s : ByteArray} {K : Value → Prop} (h : strT P t = true) (h0 : 0 ≤ a) (h1 : a ≤ b) (h2 : b ≤ s.size) (k : K (.string (s.extract a.toNat b.toNat))) : opP P (Instr.sliceAt t (.string s) (some (.int i a)) (some (.int j b)) none) K :=
  p_of (fun w => by
    have h3 : 0 ≤ b := by omega
    have h5 : a ≤ max b 0 := by omega
    simp [Instr.sliceAt, Instr.slice, Instr.sliceBounds, Instr.sliceBound, asIntOf, Sem.run_bind, run_underlying' (strT_spec h), Result.andThen, Sem.run, pure, h0, h2, h3, h5]) k
instance [h : StrT P t] : PCond P (Instr.sliceAt t (.string (bs l)) (some (.int i a)) (some (.int j b)) none) (.string (bs ((l.take b.toNat).drop a.toNat))) (0 ≤ a ∧ a ≤ b ∧ b ≤ l.length) := .of fun x _ k =>
  p_strLoHi h.h x.1 x.2.1 (by rw [bs_size]; exact x.2.2) (by rw [bs_extract]; exact k)
/-! ### Interface values -/
def nifT (P : Program) (t : TypeId) : Bool := match P.underlying t with | some (.interface _) => false | some _ => true | none => false
class NIf (P : Program) (t : TypeId) : Prop where
  h : nifT P t = true
class IfT (P : Program) (t : TypeId) : Prop where
  h : P.underlying t = some (.interface (P.methodsAt t))
theorem nifT_spec (h : nifT P t = true) : ∃ d, P.underlying t = some d ∧ ∀ m, d ≠ .interface m := by
  unfold nifT at h
  cases hu : P.underlying t with
  | none => rw [hu] at h; cases h
  | some d => rw [hu] at h; exact ⟨d, rfl, fun m hm => by subst hm; cases h⟩
instance {v : Value} [h : NIf P t] : PStep P (Instr.makeInterface t v) (.iface t v) := .of fun _ k => p_of (fun w => by
  obtain ⟨d, hd, hn⟩ := nifT_spec h.h
  rw [Instr.makeInterface, Sem.run_bind, run_underlying' hd]
  cases d <;> first | rfl | exact absurd rfl (hn _)) k
instance {v : Value} {s : TypeId} [h : NIf P t] : PStep P (Instr.typeAssert (.iface t v) s t true) (.tuple #[v, .bool true]) := .of fun _ k => p_of (fun w => by
  obtain ⟨d, hd, hn⟩ := nifT_spec h.h
  rw [Instr.typeAssert, Sem.run_bind, run_underlying' hd]
  cases d <;> first | exact absurd rfl (hn _) | simp [Result.andThen, pure]) k
instance {v : Value} {s : TypeId} [h : IfT P t] : PStep P (bsem .eql t c (.iface s v) .nilIface) (.bool false) := .of fun _ k => p_of (fun w => by
  rw [run_bsem trivial]; simp only [binOp]; simp [run_equal_held_nil w t s v h.h]) k
instance [h : IfT P t] : PStep P (bsem .eql t true .nilIface .nilIface) (.bool true) := .of fun _ k => p_of (fun w => by
  rw [run_bsem rfl]; simp only [binOp]; simp [run_equal_nil_nil w t h.h]) k
theorem run_panic {v : Value} {w : World} : (Instr.panic (.iface t v)).run P w = .halt (.panic (.iface t v)) w := rfl
/-! ### Structs of two numbers, compared -/
def eq2T (P : Program) (t : TypeId) : Bool :=
  !P.stoodInHeld t && !P.eqGuardType P.depth t && (match P.underlying t with
  | some (.struct fs) => (match fs.toList with
    | [f, g] => f.name != "_" && g.name != "_" && Nat.beq f.offset 0 && Nat.beq g.offset 1 && (match P.underlying f.type with | some (.int _) => true | _ => false) && (match P.underlying g.type with | some (.int _) => true | _ => false)
    | _ => false)
  | _ => false)
class Eq2 (P : Program) (t : TypeId) : Prop where
  h : eq2T P t = true
theorem run_part {x : Value} {k : Nat} {kd : IntKind} {cs : Array Value} (h : P.underlying t = some (.int kd)) (hc : cs[k]? = some x) (w : World) : (part t cs k).run P w = .ok x w := by
  simp [part, isAgg, Sem.run_bind, run_underlying' h, Result.andThen, Sem.run, pure, hc]
theorem run_eq2 {a b a' b' : Int} (h : eq2T P t = true) (w : World) : (Op.equalIn 10000 t (.agg #[.int i a, .int j b]) (.agg #[.int i a', .int j b'])).run P w = .ok (decide (a = a') && decide (b = b')) w := by
  unfold eq2T at h
  simp only [Bool.and_eq_true, Bool.not_eq_true'] at h
  obtain ⟨⟨h1, h2⟩, h3⟩ := h
  cases hu : P.underlying t with
  | none => rw [hu] at h3; cases h3
  | some d =>
    rw [hu] at h3
    cases d <;> first | (cases h3; done) | skip
    rename_i fs
    have hf : P.fieldsOf t = fs := by rw [Program.fieldsOf, hu]
    rw [run_equalIn_struct w 9999 t _ _ (by rw [hf]; exact hu) h1, hf]
    simp only at h3
    split at h3
    · rename_i f g hl
      rw [hl]
      simp only [Bool.and_eq_true, bne_iff_ne, ne_eq] at h3
      obtain ⟨⟨⟨⟨⟨n1, n2⟩, o1⟩, o2⟩, t1⟩, t2⟩ := h3
      have o1 := Nat.eq_of_beq_eq_true o1
      have o2 := Nat.eq_of_beq_eq_true o2
      have s1 : ∃ k, P.underlying f.type = some (.int k) := by
        revert t1; cases P.underlying f.type with
        | none => intro h; cases h
        | some d => cases d <;> first | (intro h; cases h; done) | (intro _; exact ⟨_, rfl⟩)
      have s2 : ∃ k, P.underlying g.type = some (.int k) := by
        revert t2; cases P.underlying g.type with
        | none => intro h; cases h
        | some d => cases d <;> first | (intro h; cases h; done) | (intro _; exact ⟨_, rfl⟩)
      obtain ⟨k1, s1⟩ := s1
      obtain ⟨k2, s2⟩ := s2
      simp only [Op.eqFields, n1, n2, ne_eq, not_false_eq_true, if_true, Sem.run_bind, o1, o2]
      rw [run_part s1 (x := .int i a) rfl, Result.andThen_ok, run_part s1 (x := .int i a') rfl, Result.andThen_ok, run_equalIn_int w 9998 _ i k1 _ _ s1, Result.andThen_ok]
      by_cases ha : a = a'
      · subst ha
        simp only [beq_self_eq_true, Bool.not_true, Bool.false_eq_true, if_false, Sem.run_bind, decide_true, Bool.true_and]
        rw [run_part s2 (x := .int j b) rfl, Result.andThen_ok, run_part s2 (x := .int j b') rfl, Result.andThen_ok, run_equalIn_int w 9998 _ j k2 _ _ s2, Result.andThen_ok]
        by_cases hb : b = b'
        · subst hb; simp [pure]
        · simp [hb, pure]
      · simp [ha, pure]
    · cases h3
theorem eq2_guard (h : eq2T P t = true) : P.eqGuardType P.depth t = false := by
  unfold eq2T at h
  simp only [Bool.and_eq_true, Bool.not_eq_true'] at h
  exact h.1.2
instance {a b a' b' : Int} [h : Eq2 P t] : PStep P (bsem .eql t c (.agg #[.int i a, .int j b]) (.agg #[.int i a', .int j b'])) (.bool (decide (a = a') && decide (b = b'))) := .of fun _ k => p_of (fun w => by
  rw [run_bsem (eq2_guard h.h), run_eql_struct, run_eq2 h.h]; rfl) k
instance {a b a' b' : Int} [h : Eq2 P t] : PStep P (bsem .neq t c (.agg #[.int i a, .int j b]) (.agg #[.int i a', .int j b'])) (.bool (!(decide (a = a') && decide (b = b')))) := .of fun _ k => p_of (fun w => by
  rw [run_bsem (eq2_guard h.h), run_neq_struct, run_eq2 h.h]; rfl) k
end
end Go.Sh
end

section
namespace Go.Proofs
open Go.Sh
set_option maxRecDepth 100000
theorem Tryd.mixed : Tryd.prog.follows .mixedOrders = true := by kernel_rfl
abbrev Tryd.t_ : TypeId := 0
abbrev Tryd.t_func : TypeId := 1
abbrev Tryd.t_int64 : TypeId := 2
abbrev Tryd.t_int : TypeId := 3
abbrev Tryd.t_bool : TypeId := 4
abbrev Tryd.t_uint8 : TypeId := 5
abbrev Tryd.t_abi_BoundsErrorCode : TypeId := 6
abbrev Tryd.t_x7 : TypeId := 7
abbrev Tryd.t_runtime_boundsError : TypeId := 8
abbrev Tryd.t_string : TypeId := 9
abbrev Tryd.t_runtime_errorString : TypeId := 10
abbrev Tryd.t_runtime_plainError : TypeId := 11
abbrev Tryd.t_uintptr : TypeId := 12
abbrev Tryd.t_x13 : TypeId := 13
abbrev Tryd.t_runtime_errorAddressString : TypeId := 14
abbrev Tryd.t_P_runtime_TypeAssertionError : TypeId := 15
abbrev Tryd.t_P_runtime_PanicNilError : TypeId := 16
abbrev Tryd.t_P_abi_Type : TypeId := 17
abbrev Tryd.t_x18 : TypeId := 18
abbrev Tryd.t_maps_unhashableTypeError : TypeId := 19
abbrev Tryd.t_x20 : TypeId := 20
abbrev Tryd.t_int32 : TypeId := 21
abbrev Tryd.t_S_FnCert : TypeId := 22
abbrev Tryd.t_x23 : TypeId := 23
abbrev Tryd.t_Cert : TypeId := 24
abbrev Tryd.t_func_Cert_bool : TypeId := 25
abbrev Tryd.t_func_bool : TypeId := 26
abbrev Tryd.t_func_Cert_Cert : TypeId := 27
abbrev Tryd.t_Errno : TypeId := 28
abbrev Tryd.t_string_Errno : TypeId := 29
abbrev Tryd.t_func_Cert_string_Errno : TypeId := 30
abbrev Tryd.t_Cert_Errno : TypeId := 31
abbrev Tryd.t_func_Cert_Cert_Errno : TypeId := 32
abbrev Tryd.t_func_Cert_Cert_bool : TypeId := 33
abbrev Tryd.t_func_Cert_int : TypeId := 34
abbrev Tryd.t_func_Cert_string : TypeId := 35
abbrev Tryd.t_func_Cert_Cert_Cert_bool : TypeId := 36
abbrev Tryd.t_x37 : TypeId := 37
abbrev Tryd.t_CertHead : TypeId := 38
abbrev Tryd.t_Cert_int_Errno : TypeId := 39
abbrev Tryd.t_func_string_Cert_int_Errno : TypeId := 40
abbrev Tryd.t_Cert_int_int : TypeId := 41
abbrev Tryd.t_func_string_Cert_int_int : TypeId := 42
abbrev Tryd.t_S_CertHead : TypeId := 43
abbrev Tryd.t_S_CertHead_int_Errno : TypeId := 44
abbrev Tryd.t_func_string_S_CertHead_int_Errno : TypeId := 45
abbrev Tryd.t_S_CertHead_int_int : TypeId := 46
abbrev Tryd.t_func_string_S_CertHead_int_int : TypeId := 47
abbrev Tryd.t_S_Row : TypeId := 48
abbrev Tryd.t_x49 : TypeId := 49
abbrev Tryd.t_FnCert : TypeId := 50
abbrev Tryd.t_FnCert_int_Errno : TypeId := 51
abbrev Tryd.t_func_string_CertHead_FnCert_int_Errno : TypeId := 52
abbrev Tryd.t_FnCert_int_int : TypeId := 53
abbrev Tryd.t_func_string_CertHead_FnCert_int_int : TypeId := 54
abbrev Tryd.t_func_FnCert_FnCert_bool : TypeId := 55
abbrev Tryd.t_func_string_CertHead_bool : TypeId := 56
abbrev Tryd.t_S_uint8 : TypeId := 57
abbrev Tryd.t_func_int_bool : TypeId := 58
abbrev Tryd.t_func_Cert_Cert_string_bool : TypeId := 59
abbrev Tryd.t_func_string_string_bool : TypeId := 60
abbrev Tryd.t_func_string_bool : TypeId := 61
abbrev Tryd.t_func_S_Row_bool : TypeId := 62
abbrev Tryd.t_S_uint64 : TypeId := 63
abbrev Tryd.t_x64 : TypeId := 64
abbrev Tryd.t_Row : TypeId := 65
abbrev Tryd.t_func_int_S_int_Row : TypeId := 66
abbrev Tryd.t_S_int : TypeId := 67
abbrev Tryd.t_func_FnCert_FnCert : TypeId := 68
abbrev Tryd.t_func_S_Row_int_bool : TypeId := 69
abbrev Tryd.t_func_string : TypeId := 70
abbrev Tryd.t_uint : TypeId := 71
abbrev Tryd.t_func_int : TypeId := 72
abbrev Tryd.t_P_S_Row : TypeId := 73
abbrev Tryd.t_3_P_S_Row : TypeId := 74
abbrev Tryd.t_func_P_FnCert_3_P_S_Row : TypeId := 75
abbrev Tryd.t_P_FnCert : TypeId := 76
abbrev Tryd.t_func_Row_string_Errno : TypeId := 77
abbrev Tryd.t_func_S_FnCert_func_FnCert_FnCert_S_FnCert : TypeId := 78
abbrev Tryd.t_func_S_Row_S_Row : TypeId := 79
abbrev Tryd.t_3_int : TypeId := 80
abbrev Tryd.t_func_3_int : TypeId := 81
abbrev Tryd.t_func_S_uint8_S_Row_S_uint8 : TypeId := 82
abbrev Tryd.t_func_S_Row : TypeId := 83
abbrev Tryd.t_int_Errno : TypeId := 84
abbrev Tryd.t_func_string_func_P_cert_taker_int_Errno : TypeId := 85
abbrev Tryd.t_P_cert_taker : TypeId := 86
abbrev Tryd.t_func_FnCert : TypeId := 87
abbrev Tryd.t_func_P_cert_taker : TypeId := 88
abbrev Tryd.t_Cert_S_CertHead_int_bool : TypeId := 89
abbrev Tryd.t_func_string_bool_Cert_S_CertHead_int_bool : TypeId := 90
abbrev Tryd.t_P_int : TypeId := 91
abbrev Tryd.t_2_P_int : TypeId := 92
abbrev Tryd.t_3_2_P_int : TypeId := 93
abbrev Tryd.t_S_Row_int_int : TypeId := 94
abbrev Tryd.t_func_int_func_int_Row_S_Row_int_int : TypeId := 95
abbrev Tryd.t_func_int_Row : TypeId := 96
abbrev Tryd.t_func_S_CertHead_CertHead_bool : TypeId := 97
abbrev Tryd.t_func_func_int_Errno : TypeId := 98
abbrev Tryd.t_func_string_string : TypeId := 99
abbrev Tryd.t_x100 : TypeId := 100
abbrev Tryd.t_cert_taker : TypeId := 101
abbrev Tryd.t_P_loanwordref20_reader : TypeId := 102
abbrev Tryd.t_x103 : TypeId := 103
abbrev Tryd.t_loanwordref20_reader : TypeId := 104
abbrev Tryd.t_S_Row_int_int_int : TypeId := 105
abbrev Tryd.t_func_int_S_Row_int_int_int : TypeId := 106
abbrev Tryd.t_func_S_Row_S_Row_bool : TypeId := 107
abbrev Tryd.t_uint64 : TypeId := 108
abbrev Tryd.t_func_Row_bool : TypeId := 109
abbrev Tryd.t_func_func_int_bool : TypeId := 110
abbrev Tryd.t_iter_Seq_int : TypeId := 111
abbrev Tryd.t_func_Row_iter_Seq_int : TypeId := 112
abbrev Tryd.t_func_S_Row_func_Row_Row_S_Row : TypeId := 113
abbrev Tryd.t_Row_Errno : TypeId := 114
abbrev Tryd.t_func_Row_Row_Errno : TypeId := 115
abbrev Tryd.t_func_Row_Row : TypeId := 116
abbrev Tryd.t_func_S_Row_func_Row_bool_bool : TypeId := 117
abbrev Tryd.t_func_int_string : TypeId := 118
abbrev Tryd.t_func_Row_string : TypeId := 119
abbrev Tryd.t_func_int_int_int : TypeId := 120
abbrev Tryd.t_int_int : TypeId := 121
abbrev Tryd.t_func_S_CertHead_CertHead_int : TypeId := 123
abbrev Tryd.t_x124 : TypeId := 124
abbrev Tryd.t_cert_stuck : TypeId := 125
abbrev Tryd.t_func_Row_Row_bool : TypeId := 126
abbrev Tryd.t_func_uint64_int : TypeId := 127
abbrev Tryd.t_func_S_uint64_S_uint64 : TypeId := 128
abbrev Tryd.t_func_S_Row_func_Row_bool_int : TypeId := 129
abbrev Tryd.t_func_Row_int_bool : TypeId := 130
abbrev Tryd.t_Row_int_Errno : TypeId := 131
abbrev Tryd.t_func_int_string_Row_int_Errno : TypeId := 132
abbrev Tryd.t_func_int_int : TypeId := 133
abbrev Tryd.t_P_uint8 : TypeId := 134
abbrev Tryd.t_64_uint8 : TypeId := 135
abbrev Tryd.t_func_int_Row_Errno : TypeId := 136
abbrev Tryd.t_x137 : TypeId := 137
abbrev Tryd.t_runtime_TypeAssertionError : TypeId := 138
abbrev Tryd.t_0_P_runtime_PanicNilError : TypeId := 139
abbrev Tryd.t_x140 : TypeId := 140
abbrev Tryd.t_runtime_PanicNilError : TypeId := 141
abbrev Tryd.t_uint32 : TypeId := 143
abbrev Tryd.t_abi_TFlag : TypeId := 144
abbrev Tryd.t_abi_Kind : TypeId := 145
abbrev Tryd.t_func_unsafe_Pointer_unsafe_Pointer_bool : TypeId := 146
abbrev Tryd.t_abi_NameOff : TypeId := 147
abbrev Tryd.t_abi_TypeOff : TypeId := 148
abbrev Tryd.t_x149 : TypeId := 149
abbrev Tryd.t_abi_Type : TypeId := 150
abbrev Tryd.t_unsafe_Pointer : TypeId := 151
abbrev Tryd.n_bits_Bytes : FuncId := 35
instance : LdN Tryd.prog 65 2 := ⟨by kernel_rfl⟩
instance : SzT Tryd.prog 65 2 := ⟨by kernel_rfl⟩
instance : FldT Tryd.prog 65 0 0 := ⟨by kernel_rfl⟩
instance : Ld1 Tryd.prog 3 := ⟨by kernel_rfl⟩
instance : SzT Tryd.prog 3 1 := ⟨by kernel_rfl⟩
instance : KdT Tryd.prog 3 .i64 := ⟨by kernel_rfl⟩
instance : Ld1 Tryd.prog 57 := ⟨by kernel_rfl⟩
instance : SzT Tryd.prog 57 1 := ⟨by kernel_rfl⟩
instance : SlT Tryd.prog 57 5 1 := ⟨by kernel_rfl⟩
instance : Ld1 Tryd.prog 5 := ⟨by kernel_rfl⟩
instance : SzT Tryd.prog 5 1 := ⟨by kernel_rfl⟩
instance : KdT Tryd.prog 5 .u8 := ⟨by kernel_rfl⟩
instance : ApT Tryd.prog 57 5 1 1 := ⟨by kernel_rfl⟩
instance : ZrT Tryd.prog 5 [(.int .u8 0)] := ⟨by kernel_rfl⟩
instance : ZrT Tryd.prog 57 [(.slice none 0 0)] := ⟨by kernel_rfl⟩
instance : Ld1 Tryd.prog 72 := ⟨by kernel_rfl⟩
instance : SzT Tryd.prog 72 1 := ⟨by kernel_rfl⟩
instance : FnT Tryd.prog 72 := ⟨by kernel_rfl⟩
instance : ZrT Tryd.prog 72 [.nilFunc] := ⟨by kernel_rfl⟩
instance : BytT Tryd.prog 57 := ⟨by kernel_rfl⟩
instance : Ld1 Tryd.prog 9 := ⟨by kernel_rfl⟩
instance : SzT Tryd.prog 9 1 := ⟨by kernel_rfl⟩
instance : StrT Tryd.prog 9 := ⟨by kernel_rfl⟩
abbrev Tryd.n_bits_Read : FuncId := 86
instance : ZrT Tryd.prog 65 [(.int .i64 0), (.slice none 0 0)] := ⟨by kernel_rfl⟩
instance : Ld1 Tryd.prog 28 := ⟨by kernel_rfl⟩
instance : SzT Tryd.prog 28 1 := ⟨by kernel_rfl⟩
instance : KdT Tryd.prog 28 .i64 := ⟨by kernel_rfl⟩
instance : PStep Tryd.prog (Instr.build 65 #[]) (.agg #[(.int .i64 0), (.slice none 0 0)]) := .of fun _ k => p_build (by kernel_rfl) k
instance : FldT Tryd.prog 65 1 1 := ⟨by kernel_rfl⟩
instance : Ld1 Tryd.prog 63 := ⟨by kernel_rfl⟩
instance : SzT Tryd.prog 63 1 := ⟨by kernel_rfl⟩
instance : SlT Tryd.prog 63 108 1 := ⟨by kernel_rfl⟩
instance : Ld1 Tryd.prog 108 := ⟨by kernel_rfl⟩
instance : SzT Tryd.prog 108 1 := ⟨by kernel_rfl⟩
instance : KdT Tryd.prog 108 .u64 := ⟨by kernel_rfl⟩
abbrev Tryd.n_bits_May : FuncId := 59
abbrev Tryd.n_bits_New : FuncId := 88
instance : ApT Tryd.prog 63 108 1 8 := ⟨by kernel_rfl⟩
instance : ZrT Tryd.prog 108 [(.int .u64 0)] := ⟨by kernel_rfl⟩
instance {x0_0 : Int} {x1_0 : Option Addr} {x1_0_l : Nat} {x1_0_c : Nat} : PStep Tryd.prog (Instr.build 65 #[(0, .int .i64 x0_0), (1, .slice x1_0 x1_0_l x1_0_c)]) (.agg #[.int .i64 x0_0, .slice x1_0 x1_0_l x1_0_c]) := .of fun _ k => p_build (by kernel_rfl) k
abbrev Tryd.n_bits_Own : FuncId := 64
abbrev Tryd.n_bits_Each : FuncId := 61
instance : ZrT Tryd.prog 28 [(.int .i64 0)] := ⟨by kernel_rfl⟩
abbrev Tryd.n_bits_Bytes_1 : FuncId := 60
abbrev Tryd.n_slices_Clone_uint64_uint64 : FuncId := 83
abbrev Tryd.n_bits_Each_1 : FuncId := 81
abbrev Tryd.n_math_bits_TrailingZeros64 : FuncId := 82
instance : LdN Tryd.prog 135 64 := ⟨by kernel_rfl⟩
instance : SzT Tryd.prog 135 64 := ⟨by kernel_rfl⟩
instance : ArT Tryd.prog 135 64 5 1 := ⟨by kernel_rfl⟩
abbrev Tryd.n_ref01_May : FuncId := 58
abbrev Tryd.n_ref01_Bytes : FuncId := 68
abbrev Tryd.n_ref01_Is : FuncId := 85
abbrev Tryd.n_ref01_None : FuncId := 56
abbrev Tryd.n_ref01_Same : FuncId := 79
abbrev Tryd.n_ref01_Own : FuncId := 80
instance {x0_0 : Int} : PStep Tryd.prog (Instr.build 65 #[(0, .int .i64 x0_0)]) (.agg #[.int .i64 x0_0, (.slice none 0 0)]) := .of fun _ k => p_build (by kernel_rfl) k
abbrev Tryd.n_ref01_Of : FuncId := 29
instance : Ld1 Tryd.prog 67 := ⟨by kernel_rfl⟩
instance : SzT Tryd.prog 67 1 := ⟨by kernel_rfl⟩
instance : SlT Tryd.prog 67 3 1 := ⟨by kernel_rfl⟩
abbrev Tryd.n_ref01_SameAll : FuncId := 55
instance : Ld1 Tryd.prog 48 := ⟨by kernel_rfl⟩
instance : SzT Tryd.prog 48 1 := ⟨by kernel_rfl⟩
instance : SlT Tryd.prog 48 65 2 := ⟨by kernel_rfl⟩
abbrev Tryd.n_cert_mark : FuncId := 32
abbrev Tryd.n_cert_limits : FuncId := 40
instance : LdN Tryd.prog 80 3 := ⟨by kernel_rfl⟩
instance : SzT Tryd.prog 80 3 := ⟨by kernel_rfl⟩
instance : ArT Tryd.prog 80 3 3 1 := ⟨by kernel_rfl⟩
instance : ZrT Tryd.prog 80 [(.int .i64 0), (.int .i64 0), (.int .i64 0)] := ⟨by kernel_rfl⟩
instance {x0_0 : Int} {x1_0 : Int} {x2_0 : Int} : PStep Tryd.prog (Instr.build 80 #[(0, .int .i64 x0_0), (1, .int .i64 x1_0), (2, .int .i64 x2_0)]) (.agg #[.int .i64 x0_0, .int .i64 x1_0, .int .i64 x2_0]) := .of fun _ k => p_build (by kernel_rfl) k
abbrev Tryd.n_cert_lists : FuncId := 34
instance : LdN Tryd.prog 74 3 := ⟨by kernel_rfl⟩
instance : SzT Tryd.prog 74 3 := ⟨by kernel_rfl⟩
instance : ArT Tryd.prog 74 3 73 1 := ⟨by kernel_rfl⟩
instance : ZrT Tryd.prog 74 [(.pointer none), (.pointer none), (.pointer none)] := ⟨by kernel_rfl⟩
instance : FldT Tryd.prog 50 0 0 := ⟨by kernel_rfl⟩
instance : FldT Tryd.prog 50 1 1 := ⟨by kernel_rfl⟩
instance : FldT Tryd.prog 50 2 2 := ⟨by kernel_rfl⟩
instance {x0_0 : Option Addr} {x1_0 : Option Addr} {x2_0 : Option Addr} : PStep Tryd.prog (Instr.build 74 #[(0, .pointer x0_0), (1, .pointer x1_0), (2, .pointer x2_0)]) (.agg #[.pointer x0_0, .pointer x1_0, .pointer x2_0]) := .of fun _ k => p_build (by kernel_rfl) k
abbrev Tryd.n_cert_good : FuncId := 39
abbrev Tryd.n_cert_good_1 : FuncId := 66
abbrev Tryd.n_cert_May : FuncId := 15
instance : FldT Tryd.prog 24 0 0 := ⟨by kernel_rfl⟩
instance : Ld1 Tryd.prog 22 := ⟨by kernel_rfl⟩
instance : SzT Tryd.prog 22 1 := ⟨by kernel_rfl⟩
instance : SlT Tryd.prog 22 50 3 := ⟨by kernel_rfl⟩
instance : LdN Tryd.prog 50 3 := ⟨by kernel_rfl⟩
instance : SzT Tryd.prog 50 3 := ⟨by kernel_rfl⟩
instance : ZrT Tryd.prog 50 [(.slice none 0 0), (.slice none 0 0), (.slice none 0 0)] := ⟨by kernel_rfl⟩
abbrev Tryd.n_cert_mapped_api_FnCert_api_FnCert : FuncId := 36
instance : ApT Tryd.prog 22 50 3 72 := ⟨by kernel_rfl⟩
abbrev Tryd.n_cert_mapped_api_Row_api_Row : FuncId := 62
instance : ApT Tryd.prog 48 65 2 32 := ⟨by kernel_rfl⟩
abbrev Tryd.n_cert_own : FuncId := 38
abbrev Tryd.n_cert_own_1 : FuncId := 63
abbrev Tryd.n_cert_Own : FuncId := 14
instance : LdN Tryd.prog 24 1 := ⟨by kernel_rfl⟩
instance : SzT Tryd.prog 24 1 := ⟨by kernel_rfl⟩
instance : ZrT Tryd.prog 24 [(.slice none 0 0)] := ⟨by kernel_rfl⟩
instance : PStep Tryd.prog (Instr.build 24 #[]) (.agg #[(.slice none 0 0)]) := .of fun _ k => p_build (by kernel_rfl) k
instance {x0_0 : Option Addr} {x0_0_l : Nat} {x0_0_c : Nat} : PStep Tryd.prog (Instr.build 24 #[(0, .slice x0_0 x0_0_l x0_0_c)]) (.agg #[.slice x0_0 x0_0_l x0_0_c]) := .of fun _ k => p_build (by kernel_rfl) k
abbrev Tryd.n_cert_Own_1 : FuncId := 37
instance {x0_0 : Option Addr} {x0_0_l : Nat} {x0_0_c : Nat} {x1_0 : Option Addr} {x1_0_l : Nat} {x1_0_c : Nat} {x2_0 : Option Addr} {x2_0_l : Nat} {x2_0_c : Nat} : PStep Tryd.prog (Instr.build 50 #[(0, .slice x0_0 x0_0_l x0_0_c), (1, .slice x1_0 x1_0_l x1_0_c), (2, .slice x2_0 x2_0_l x2_0_c)]) (.agg #[.slice x0_0 x0_0_l x0_0_c, .slice x1_0 x1_0_l x1_0_c, .slice x2_0 x2_0_l x2_0_c]) := .of fun _ k => p_build (by kernel_rfl) k
abbrev Tryd.n_cert_Same : FuncId := 16
abbrev Tryd.n_cert_Size : FuncId := 18
abbrev Tryd.n_cert_Bytes : FuncId := 13
abbrev Tryd.n_cert_Bytes_1 : FuncId := 33
abbrev Tryd.n_slices_Contains_api_CertHead_api_CertHead : FuncId := 50
instance : LdN Tryd.prog 38 7 := ⟨by kernel_rfl⟩
instance : SzT Tryd.prog 38 7 := ⟨by kernel_rfl⟩
abbrev Tryd.n_slices_Index_api_CertHead_api_CertHead : FuncId := 75
instance : Ld1 Tryd.prog 43 := ⟨by kernel_rfl⟩
instance : SzT Tryd.prog 43 1 := ⟨by kernel_rfl⟩
instance : SlT Tryd.prog 43 38 7 := ⟨by kernel_rfl⟩
abbrev Tryd.n_slices_ContainsFunc_api_Row_api_Row : FuncId := 65
abbrev Tryd.n_slices_IndexFunc_api_Row_api_Row : FuncId := 84
abbrev Tryd.n_strings_Clone : FuncId := 53
abbrev Tryd.n_internal_stringslite_Clone : FuncId := 77
instance : Ld1 Tryd.prog 134 := ⟨by kernel_rfl⟩
instance : SzT Tryd.prog 134 1 := ⟨by kernel_rfl⟩
abbrev Tryd.n_cert_taker_give : FuncId := 71
instance : FldT Tryd.prog 101 1 1 := ⟨by kernel_rfl⟩
instance {x0_0 : Int} : PStep Tryd.prog (Instr.build 125 #[(0, .int .i64 x0_0)]) (.agg #[.int .i64 x0_0]) := .of fun _ k => p_build (by kernel_rfl) k
instance : NIf Tryd.prog 125 := ⟨by kernel_rfl⟩
abbrev Tryd.n_cert_taker_one : FuncId := 70
instance : FldT Tryd.prog 101 0 0 := ⟨by kernel_rfl⟩
abbrev Tryd.n_cert_taker_number : FuncId := 87
abbrev Tryd.n_cert_taker_head : FuncId := 74
abbrev Tryd.n_cert_taker_list : FuncId := 48
abbrev Tryd.n_cert_taker_row : FuncId := 72
abbrev Tryd.n_cert_taker_skip : FuncId := 49
abbrev Tryd.n_cert_taker_fn : FuncId := 45
abbrev Tryd.n_cert_caught : FuncId := 51
instance : ZrT Tryd.prog 3 [(.int .i64 0)] := ⟨by kernel_rfl⟩
abbrev Tryd.n_cert_caught_1 : FuncId := 76
instance : Ld1 Tryd.prog 20 := ⟨by kernel_rfl⟩
instance : SzT Tryd.prog 20 1 := ⟨by kernel_rfl⟩
instance : IfT Tryd.prog 20 := ⟨by kernel_rfl⟩
instance : LdN Tryd.prog 125 1 := ⟨by kernel_rfl⟩
instance : SzT Tryd.prog 125 1 := ⟨by kernel_rfl⟩
instance : ZrT Tryd.prog 125 [(.int .i64 0)] := ⟨by kernel_rfl⟩
instance : FldT Tryd.prog 125 0 0 := ⟨by kernel_rfl⟩
abbrev Tryd.n_cert_whole : FuncId := 43
abbrev Tryd.n_cert_whole_1 : FuncId := 69
instance {x0_0 : ByteArray} : PStep Tryd.prog (Instr.build 101 #[(0, .string x0_0)]) (.agg #[.string x0_0, (.int .i64 0)]) := .of fun _ k => p_build (by kernel_rfl) k
instance : Ld1 Tryd.prog 88 := ⟨by kernel_rfl⟩
instance : SzT Tryd.prog 88 1 := ⟨by kernel_rfl⟩
instance : FnT Tryd.prog 88 := ⟨by kernel_rfl⟩
abbrev Tryd.n_cert_Read : FuncId := 21
abbrev Tryd.n_cert_Read_1 : FuncId := 44
abbrev Tryd.n_cert_Heads : FuncId := 23
instance : ZrT Tryd.prog 43 [(.slice none 0 0)] := ⟨by kernel_rfl⟩
abbrev Tryd.n_cert_Heads_1 : FuncId := 47
instance : ZrT Tryd.prog 38 [(.int .i64 0), (.int .i64 0), (.int .i64 0), (.int .i64 0), (.int .i64 0), (.int .i64 0), (.int .i64 0)] := ⟨by kernel_rfl⟩
instance : FldT Tryd.prog 38 0 0 := ⟨by kernel_rfl⟩
instance : FldT Tryd.prog 38 1 1 := ⟨by kernel_rfl⟩
instance {x0_0 : Option Addr} {x1_0 : Option Addr} : PStep Tryd.prog (Instr.build 92 #[(0, .pointer x0_0), (1, .pointer x1_0)]) (.agg #[.pointer x0_0, .pointer x1_0]) := .of fun _ k => p_build (by kernel_rfl) k
instance : FldT Tryd.prog 38 2 2 := ⟨by kernel_rfl⟩
instance : FldT Tryd.prog 38 3 3 := ⟨by kernel_rfl⟩
instance : FldT Tryd.prog 38 4 4 := ⟨by kernel_rfl⟩
instance : FldT Tryd.prog 38 5 5 := ⟨by kernel_rfl⟩
instance {x0_0 : Value} {x0_1 : Value} {x1_0 : Value} {x1_1 : Value} {x2_0 : Value} {x2_1 : Value} : PStep Tryd.prog (Instr.build 93 #[(0, .agg #[x0_0, x0_1]), (1, .agg #[x1_0, x1_1]), (2, .agg #[x2_0, x2_1])]) (.agg #[x0_0, x0_1, x1_0, x1_1, x2_0, x2_1]) := .of fun _ k => p_build (by kernel_rfl) k
instance : LdN Tryd.prog 93 6 := ⟨by kernel_rfl⟩
instance : SzT Tryd.prog 93 6 := ⟨by kernel_rfl⟩
instance : ArT Tryd.prog 93 3 92 2 := ⟨by kernel_rfl⟩
instance : LdN Tryd.prog 92 2 := ⟨by kernel_rfl⟩
instance : SzT Tryd.prog 92 2 := ⟨by kernel_rfl⟩
instance : ArT Tryd.prog 92 2 91 1 := ⟨by kernel_rfl⟩
instance : ZrT Tryd.prog 92 [(.pointer none), (.pointer none)] := ⟨by kernel_rfl⟩
instance : Ld1 Tryd.prog 91 := ⟨by kernel_rfl⟩
instance : SzT Tryd.prog 91 1 := ⟨by kernel_rfl⟩
instance : FldT Tryd.prog 38 6 6 := ⟨by kernel_rfl⟩
instance : ApT Tryd.prog 43 38 7 56 := ⟨by kernel_rfl⟩
abbrev Tryd.n_cert_Fn : FuncId := 25
instance : PStep Tryd.prog (Instr.build 50 #[]) (.agg #[(.slice none 0 0), (.slice none 0 0), (.slice none 0 0)]) := .of fun _ k => p_build (by kernel_rfl) k
abbrev Tryd.n_cert_Fn_1 : FuncId := 52
instance {x0_0 : ByteArray} {x1_0 : Int} : PStep Tryd.prog (Instr.build 101 #[(0, .string x0_0), (1, .int .i64 x1_0)]) (.agg #[.string x0_0, .int .i64 x1_0]) := .of fun _ k => p_build (by kernel_rfl) k
abbrev Tryd.n_ref20_list : FuncId := 31
abbrev Tryd.n_ref20_May : FuncId := 12
abbrev Tryd.n_ref20_Equal : FuncId := 17
abbrev Tryd.n_ref20_EqualFn : FuncId := 27
abbrev Tryd.n_ref20_Own : FuncId := 11
abbrev Tryd.n_ref20_OwnFn : FuncId := 30
abbrev Tryd.n_ref20_rows : FuncId := 57
abbrev Tryd.n_ref20_two : FuncId := 67
abbrev Tryd.n_ref20_laid : FuncId := 41
abbrev Tryd.n_ref20_Bytes : FuncId := 19
abbrev Tryd.n_ref20_reader_one : FuncId := 73
instance : FldT Tryd.prog 104 2 2 := ⟨by kernel_rfl⟩
instance : Ld1 Tryd.prog 4 := ⟨by kernel_rfl⟩
instance : SzT Tryd.prog 4 1 := ⟨by kernel_rfl⟩
instance : KdB Tryd.prog 4 := ⟨by kernel_rfl⟩
instance : FldT Tryd.prog 104 1 1 := ⟨by kernel_rfl⟩
instance : FldT Tryd.prog 104 0 0 := ⟨by kernel_rfl⟩
abbrev Tryd.n_ref20_reader_number : FuncId := 78
abbrev Tryd.n_ref20_reader_list : FuncId := 54
instance : FldT Tryd.prog 104 3 3 := ⟨by kernel_rfl⟩
abbrev Tryd.n_ref20_whole : FuncId := 46
instance {x0_0 : ByteArray} {x3_0 : Bool} : PStep Tryd.prog (Instr.build 104 #[(0, .string x0_0), (3, .bool x3_0)]) (.agg #[.string x0_0, (.int .i64 0), (.bool false), .bool x3_0]) := .of fun _ k => p_build (by kernel_rfl) k
instance {x0_0 : Int} {x1_0 : Int} {x2_0 : Int} {x3_0 : Int} {x4_0 : Int} {x5_0 : Int} {x6_0 : Int} : PStep Tryd.prog (Instr.build 38 #[(0, .int .i64 x0_0), (1, .int .i64 x1_0), (2, .int .i64 x2_0), (3, .int .i64 x3_0), (4, .int .i64 x4_0), (5, .int .i64 x5_0), (6, .int .i64 x6_0)]) (.agg #[.int .i64 x0_0, .int .i64 x1_0, .int .i64 x2_0, .int .i64 x3_0, .int .i64 x4_0, .int .i64 x5_0, .int .i64 x6_0]) := .of fun _ k => p_build (by kernel_rfl) k
abbrev Tryd.n_ref20_Read : FuncId := 22
abbrev Tryd.n_ref20_Heads : FuncId := 24
abbrev Tryd.n_ref20_Fn : FuncId := 26
instance {x0_0 : ByteArray} {x1_0 : Int} : PStep Tryd.prog (Instr.build 104 #[(0, .string x0_0), (1, .int .i64 x1_0)]) (.agg #[.string x0_0, .int .i64 x1_0, (.bool false), (.bool false)]) := .of fun _ k => p_build (by kernel_rfl) k
abbrev Tryd.n_law20_CertTells : FuncId := 3
abbrev Tryd.n_law20_CertReads : FuncId := 4
abbrev Tryd.n_law20_CertLong : FuncId := 5
instance : PStep Tryd.prog (Instr.build 38 #[]) (.agg #[(.int .i64 0), (.int .i64 0), (.int .i64 0), (.int .i64 0), (.int .i64 0), (.int .i64 0), (.int .i64 0)]) := .of fun _ k => p_build (by kernel_rfl) k
abbrev Tryd.n_law20_CertBack : FuncId := 6
abbrev Tryd.n_law20_CertGoes : FuncId := 7
abbrev Tryd.n_law20_CertParts : FuncId := 8
abbrev Tryd.n_law20_fits : FuncId := 9
abbrev Tryd.n_law20_awake : FuncId := 10
instance {x0_0 : Option Addr} {x0_0_l : Nat} {x0_0_c : Nat} : PStep Tryd.prog (Instr.build 50 #[(0, .slice x0_0 x0_0_l x0_0_c)]) (.agg #[.slice x0_0 x0_0_l x0_0_c, (.slice none 0 0), (.slice none 0 0)]) := .of fun _ k => p_build (by kernel_rfl) k
abbrev Tryd.n_law20_held : FuncId := 20
abbrev Tryd.n_law20_listFits : FuncId := 28
abbrev Tryd.n_law20_over : FuncId := 42
theorem Tryd.ldB_Row {w : World} {K : Value → Prop} {b : Nat} {c : List Value} {T : TypeId} (B : Blk w b c T) (hc : c.length = 2) (k : K (.agg c.toArray)) : opQ Tryd.prog w (Instr.loadAt 65 (.pointer (some ⟨b, 0, none⟩))) K :=
  q_loadB (by rw [hc]; kernel_rfl) B k
theorem Tryd.ldN_Row {w : World} {K : Value → Prop} {b off : Nat} {vs : List Value} (hc : vs.length = 2) (h : ∀ j v, vs[j]? = some v → w.cell? ⟨b, off + j, none⟩ = some v) (k : K (.agg vs.toArray)) : opQ Tryd.prog w (Instr.loadAt 65 (.pointer (some ⟨b, off, none⟩))) K :=
  q_loadN (by rw [hc]; kernel_rfl) h k
theorem Tryd.fa_Row_0 {K : Value → Prop} {b off : Nat} (k : K (.pointer (some ⟨b, off + 0, none⟩))) : opP Tryd.prog (Instr.fieldAt 65 (.pointer (some ⟨b, off, none⟩)) 0) K :=
  p_field (by kernel_rfl) k
theorem Tryd.ld_int {w : World} {K : Value → Prop} {a : Addr} {v : Value} (h : w.cell? a = some v) (k : K v) : opQ Tryd.prog w (Instr.loadAt 3 (.pointer (some a))) K :=
  q_load (by kernel_rfl) h k
theorem Tryd.ldB_int {w : World} {K : Value → Prop} {b i : Nat} {c : List Value} {v : Value} {T : TypeId} (B : Blk w b c T) (h : c[i]? = some v) (k : K v) : opQ Tryd.prog w (Instr.loadAt 3 (.pointer (some ⟨b, i, none⟩))) K :=
  q_load (by kernel_rfl) ((B.cell i).trans h) k
theorem Tryd.mk_S_uint8 {w : World} {K : Value → World → Prop} {kl : IntKind} {n : Int} (h0 : 0 ≤ n) (hb : (1 : Int) * n ≤ 281474976710656) (h : ∀ b w', b = w.heap.size → Ext w w' → w'.heap.size = w.heap.size + 1 → Blk w' b (List.replicate n.toNat (.int .u8 0)) 5 → K (.slice (some ⟨b, 0, none⟩) n.toNat n.toNat) w') : opW Tryd.prog w (Instr.makeSlice 57 (.int kl n) (.int kl n)) K :=
  w_make (bytes := 1) (by kernel_rfl) (by kernel_rfl) h0 hb h
theorem Tryd.al_S_uint8 {w : World} {K : Value → World → Prop} (h : ∀ b w', b = w.heap.size → Ext w w' → w'.heap.size = w.heap.size + 1 → Blk w' b [(.slice none 0 0)] 57 → K (.pointer (some ⟨b, 0, none⟩)) w') : opW Tryd.prog w (Instr.alloc 57 true (.tuple #[])) K :=
  w_alloc (by kernel_rfl) h
theorem Tryd.st_S_uint8 {w : World} {K : World → Prop} {v : Value} {b off : Nat} {c : List Value} {T : TypeId} (B : Blk w b c T) (hl : off < c.length) (h1 : v.oneCell' = true) (h : ∀ w', ExtBut (· = b) w w' → w'.heap.size = w.heap.size → Blk w' b (c.set off v) T → K w') : opU Tryd.prog w (Instr.storeAt 57 (.pointer (some ⟨b, off, none⟩)) v) K :=
  w_store1 (by kernel_rfl) B hl h1 h
theorem Tryd.al_func_int {w : World} {K : Value → World → Prop} (h : ∀ b w', b = w.heap.size → Ext w w' → w'.heap.size = w.heap.size + 1 → Blk w' b [.nilFunc] 72 → K (.pointer (some ⟨b, 0, none⟩)) w') : opW Tryd.prog w (Instr.alloc 72 true (.tuple #[])) K :=
  w_alloc (by kernel_rfl) h
theorem Tryd.st_func_int {w : World} {K : World → Prop} {v : Value} {b off : Nat} {c : List Value} {T : TypeId} (B : Blk w b c T) (hl : off < c.length) (h1 : v.oneCell' = true) (h : ∀ w', ExtBut (· = b) w w' → w'.heap.size = w.heap.size → Blk w' b (c.set off v) T → K w') : opU Tryd.prog w (Instr.storeAt 72 (.pointer (some ⟨b, off, none⟩)) v) K :=
  w_store1 (by kernel_rfl) B hl h1 h
theorem Tryd.ld_func_int {w : World} {K : Value → Prop} {a : Addr} {v : Value} (h : w.cell? a = some v) (k : K v) : opQ Tryd.prog w (Instr.loadAt 72 (.pointer (some a))) K :=
  q_load (by kernel_rfl) h k
theorem Tryd.ldB_func_int {w : World} {K : Value → Prop} {b i : Nat} {c : List Value} {v : Value} {T : TypeId} (B : Blk w b c T) (h : c[i]? = some v) (k : K v) : opQ Tryd.prog w (Instr.loadAt 72 (.pointer (some ⟨b, i, none⟩))) K :=
  q_load (by kernel_rfl) ((B.cell i).trans h) k
theorem Tryd.ld_S_uint8 {w : World} {K : Value → Prop} {a : Addr} {v : Value} (h : w.cell? a = some v) (k : K v) : opQ Tryd.prog w (Instr.loadAt 57 (.pointer (some a))) K :=
  q_load (by kernel_rfl) h k
theorem Tryd.ldB_S_uint8 {w : World} {K : Value → Prop} {b i : Nat} {c : List Value} {v : Value} {T : TypeId} (B : Blk w b c T) (h : c[i]? = some v) (k : K v) : opQ Tryd.prog w (Instr.loadAt 57 (.pointer (some ⟨b, i, none⟩))) K :=
  q_load (by kernel_rfl) ((B.cell i).trans h) k
theorem Tryd.ce_Row {w : World} {K : Value → Prop} {b : Nat} {c : List Value} {T : TypeId} (B : Blk w b c T) (hc : c.length = 2) (k : K (.agg c.toArray)) : opQ Tryd.prog w (cellSem 65 (.pointer (some ⟨b, 0, none⟩))) K :=
  q_cellB (by rw [hc]; kernel_rfl) B k
theorem Tryd.al_Row {w : World} {K : Value → World → Prop} (h : ∀ b w', b = w.heap.size → Ext w w' → w'.heap.size = w.heap.size + 1 → Blk w' b [(.int .i64 0), (.slice none 0 0)] 65 → K (.pointer (some ⟨b, 0, none⟩)) w') : opW Tryd.prog w (Instr.alloc 65 true (.tuple #[])) K :=
  w_alloc (by kernel_rfl) h
theorem Tryd.stB_Row {w : World} {K : World → Prop} {cs : Array Value} {b : Nat} {c : List Value} {T : TypeId} (B : Blk w b c T) (hl : c.length = 2) (hc : cs.size = 2) (h1 : ∀ u ∈ cs.toList, u.oneCell' = true) (h : ∀ w', ExtBut (· = b) w w' → w'.heap.size = w.heap.size → Blk w' b cs.toList T → K w') : opU Tryd.prog w (Instr.storeAt 65 (.pointer (some ⟨b, 0, none⟩)) (.agg cs)) K :=
  w_storeB (v := .agg cs) (by rw [show (Value.agg cs).cells.size = 2 from hc]; kernel_rfl) B (by rw [hl]; exact hc) h1 h
theorem Tryd.st_Row {w : World} {K : World → Prop} {cs : Array Value} {b off : Nat} {c : List Value} {T : TypeId} (B : Blk w b c T) (hl : off + 2 ≤ c.length) (hc : cs.size = 2) (h1 : ∀ u ∈ cs.toList, u.oneCell' = true) (h : ∀ w', ExtBut (· = b) w w' → w'.heap.size = w.heap.size → Blk w' b (c.take off ++ cs.toList ++ c.drop (off + 2)) T → K w') : opU Tryd.prog w (Instr.storeAt 65 (.pointer (some ⟨b, off, none⟩)) (.agg cs)) K :=
  w_store (v := .agg cs) (by rw [show (Value.agg cs).cells.size = 2 from hc]; kernel_rfl) B (by rw [show (Value.agg cs).cells.size = 2 from hc]; exact hl) h1 (by rw [show (Value.agg cs).cells.size = 2 from hc]; exact h)
theorem Tryd.len_string {K : Value → Prop} {s : ByteArray} (k : K (.int .i64 s.size)) : opP Tryd.prog (Builtin.len_ #[9] 3 #[.string s]) K :=
  p_lenStr (by kernel_rfl) k
theorem Tryd.by_string {K : Value → Prop} {s : ByteArray} {kd : IntKind} {i : Int} (h0 : 0 ≤ i) (h1 : i.toNat < s.size) (k : K (.int .u8 (s[i.toNat].toNat : Int))) : opP Tryd.prog (Instr.index 9 (.string s) (.int kd i)) K :=
  p_byte (by kernel_rfl) h0 h1 k
theorem Tryd.fa_Row_1 {K : Value → Prop} {b off : Nat} (k : K (.pointer (some ⟨b, off + 1, none⟩))) : opP Tryd.prog (Instr.fieldAt 65 (.pointer (some ⟨b, off, none⟩)) 1) K :=
  p_field (by kernel_rfl) k
theorem Tryd.ld_S_uint64 {w : World} {K : Value → Prop} {a : Addr} {v : Value} (h : w.cell? a = some v) (k : K v) : opQ Tryd.prog w (Instr.loadAt 63 (.pointer (some a))) K :=
  q_load (by kernel_rfl) h k
theorem Tryd.ldB_S_uint64 {w : World} {K : Value → Prop} {b i : Nat} {c : List Value} {v : Value} {T : TypeId} (B : Blk w b c T) (h : c[i]? = some v) (k : K v) : opQ Tryd.prog w (Instr.loadAt 63 (.pointer (some ⟨b, i, none⟩))) K :=
  q_load (by kernel_rfl) ((B.cell i).trans h) k
theorem Tryd.ix_S_uint64 {K : Value → Prop} {b off len cap : Nat} {kd : IntKind} {i : Int} (h0 : 0 ≤ i) (h1 : i < len) (k : K (.pointer (some ⟨b, off + i.toNat, none⟩))) : opP Tryd.prog (Instr.indexAt 63 (.slice (some ⟨b, off, none⟩) len cap) (.int kd i)) K :=
  p_index (e := 108) (n := 1) (by kernel_rfl) h0 h1 (by rw [Nat.mul_one]; exact k)
theorem Tryd.ld_uint64 {w : World} {K : Value → Prop} {a : Addr} {v : Value} (h : w.cell? a = some v) (k : K v) : opQ Tryd.prog w (Instr.loadAt 108 (.pointer (some a))) K :=
  q_load (by kernel_rfl) h k
theorem Tryd.ldB_uint64 {w : World} {K : Value → Prop} {b i : Nat} {c : List Value} {v : Value} {T : TypeId} (B : Blk w b c T) (h : c[i]? = some v) (k : K v) : opQ Tryd.prog w (Instr.loadAt 108 (.pointer (some ⟨b, i, none⟩))) K :=
  q_load (by kernel_rfl) ((B.cell i).trans h) k
theorem Tryd.st_uint64 {w : World} {K : World → Prop} {v : Value} {b off : Nat} {c : List Value} {T : TypeId} (B : Blk w b c T) (hl : off < c.length) (h1 : v.oneCell' = true) (h : ∀ w', ExtBut (· = b) w w' → w'.heap.size = w.heap.size → Blk w' b (c.set off v) T → K w') : opU Tryd.prog w (Instr.storeAt 108 (.pointer (some ⟨b, off, none⟩)) v) K :=
  w_store1 (by kernel_rfl) B hl h1 h
theorem Tryd.len_S_uint64 {K : Value → Prop} {p : Option Addr} {len cap : Nat} (k : K (.int .i64 len)) : opP Tryd.prog (Builtin.len_ #[63] 3 #[.slice p len cap]) K :=
  p_lenS (e := 108) (n := 1) (by kernel_rfl) k
theorem Tryd.mk_S_uint64 {w : World} {K : Value → World → Prop} {kl : IntKind} {n : Int} (h0 : 0 ≤ n) (hb : (8 : Int) * n ≤ 281474976710656) (h : ∀ b w', b = w.heap.size → Ext w w' → w'.heap.size = w.heap.size + 1 → Blk w' b (List.replicate n.toNat (.int .u64 0)) 108 → K (.slice (some ⟨b, 0, none⟩) n.toNat n.toNat) w') : opW Tryd.prog w (Instr.makeSlice 63 (.int kl n) (.int kl n)) K :=
  w_make (bytes := 8) (by kernel_rfl) (by kernel_rfl) h0 hb h
theorem Tryd.al_Errno {w : World} {K : Value → World → Prop} (h : ∀ b w', b = w.heap.size → Ext w w' → w'.heap.size = w.heap.size + 1 → Blk w' b [(.int .i64 0)] 28 → K (.pointer (some ⟨b, 0, none⟩)) w') : opW Tryd.prog w (Instr.alloc 28 true (.tuple #[])) K :=
  w_alloc (by kernel_rfl) h
theorem Tryd.st_Errno {w : World} {K : World → Prop} {v : Value} {b off : Nat} {c : List Value} {T : TypeId} (B : Blk w b c T) (hl : off < c.length) (h1 : v.oneCell' = true) (h : ∀ w', ExtBut (· = b) w w' → w'.heap.size = w.heap.size → Blk w' b (c.set off v) T → K w') : opU Tryd.prog w (Instr.storeAt 28 (.pointer (some ⟨b, off, none⟩)) v) K :=
  w_store1 (by kernel_rfl) B hl h1 h
theorem Tryd.ix_S_uint8 {K : Value → Prop} {b off len cap : Nat} {kd : IntKind} {i : Int} (h0 : 0 ≤ i) (h1 : i < len) (k : K (.pointer (some ⟨b, off + i.toNat, none⟩))) : opP Tryd.prog (Instr.indexAt 57 (.slice (some ⟨b, off, none⟩) len cap) (.int kd i)) K :=
  p_index (e := 5) (n := 1) (by kernel_rfl) h0 h1 (by rw [Nat.mul_one]; exact k)
theorem Tryd.ld_uint8 {w : World} {K : Value → Prop} {a : Addr} {v : Value} (h : w.cell? a = some v) (k : K v) : opQ Tryd.prog w (Instr.loadAt 5 (.pointer (some a))) K :=
  q_load (by kernel_rfl) h k
theorem Tryd.ldB_uint8 {w : World} {K : Value → Prop} {b i : Nat} {c : List Value} {v : Value} {T : TypeId} (B : Blk w b c T) (h : c[i]? = some v) (k : K v) : opQ Tryd.prog w (Instr.loadAt 5 (.pointer (some ⟨b, i, none⟩))) K :=
  q_load (by kernel_rfl) ((B.cell i).trans h) k
theorem Tryd.st_uint8 {w : World} {K : World → Prop} {v : Value} {b off : Nat} {c : List Value} {T : TypeId} (B : Blk w b c T) (hl : off < c.length) (h1 : v.oneCell' = true) (h : ∀ w', ExtBut (· = b) w w' → w'.heap.size = w.heap.size → Blk w' b (c.set off v) T → K w') : opU Tryd.prog w (Instr.storeAt 5 (.pointer (some ⟨b, off, none⟩)) v) K :=
  w_store1 (by kernel_rfl) B hl h1 h
theorem Tryd.ap_S_uint64 {w : World} {K : Value → World → Prop} {base : Nat} {v : Value} {n : Nat} {xs : List Value} {p : Option Addr} {m c : Nat} {news : List Value} (hown : w.ownsRow base 108 1 v n xs) (hs : Sl w p news) (hl : news.length = m * 1) (hp : p = none → c = 0) (h1 : ∀ u ∈ news, u.oneCell' = true) (hb : (n + m) * 8 ≤ 140737488355328) (hbase : base ≤ w.heap.size) (h : ∀ v' w', w'.ownsRow base 108 1 v' (n + m) (xs ++ news) → ExtBut (fun k => v.ownBlock = some k) w w' → (v'.ownBlock = v.ownBlock ∨ v'.ownBlock = some w.heap.size) → (v' = .slice none 0 0 ↔ v = .slice none 0 0 ∧ m = 0) → K v' w') : opW Tryd.prog w (Builtin.append_ #[63, 63] 63 #[v, .slice p m c]) K :=
  w_append (by kernel_rfl) hown hs hl hp h1 hb hbase h
theorem Tryd.ld_Errno {w : World} {K : Value → Prop} {a : Addr} {v : Value} (h : w.cell? a = some v) (k : K v) : opQ Tryd.prog w (Instr.loadAt 28 (.pointer (some a))) K :=
  q_load (by kernel_rfl) h k
theorem Tryd.ldB_Errno {w : World} {K : Value → Prop} {b i : Nat} {c : List Value} {v : Value} {T : TypeId} (B : Blk w b c T) (h : c[i]? = some v) (k : K v) : opQ Tryd.prog w (Instr.loadAt 28 (.pointer (some ⟨b, i, none⟩))) K :=
  q_load (by kernel_rfl) ((B.cell i).trans h) k
theorem Tryd.st_S_uint64 {w : World} {K : World → Prop} {v : Value} {b off : Nat} {c : List Value} {T : TypeId} (B : Blk w b c T) (hl : off < c.length) (h1 : v.oneCell' = true) (h : ∀ w', ExtBut (· = b) w w' → w'.heap.size = w.heap.size → Blk w' b (c.set off v) T → K w') : opU Tryd.prog w (Instr.storeAt 63 (.pointer (some ⟨b, off, none⟩)) v) K :=
  w_store1 (by kernel_rfl) B hl h1 h
theorem Tryd.len_S_int {K : Value → Prop} {p : Option Addr} {len cap : Nat} (k : K (.int .i64 len)) : opP Tryd.prog (Builtin.len_ #[67] 3 #[.slice p len cap]) K :=
  p_lenS (e := 3) (n := 1) (by kernel_rfl) k
theorem Tryd.ix_S_int {K : Value → Prop} {b off len cap : Nat} {kd : IntKind} {i : Int} (h0 : 0 ≤ i) (h1 : i < len) (k : K (.pointer (some ⟨b, off + i.toNat, none⟩))) : opP Tryd.prog (Instr.indexAt 67 (.slice (some ⟨b, off, none⟩) len cap) (.int kd i)) K :=
  p_index (e := 3) (n := 1) (by kernel_rfl) h0 h1 (by rw [Nat.mul_one]; exact k)
theorem Tryd.len_S_Row {K : Value → Prop} {p : Option Addr} {len cap : Nat} (k : K (.int .i64 len)) : opP Tryd.prog (Builtin.len_ #[48] 3 #[.slice p len cap]) K :=
  p_lenS (e := 65) (n := 2) (by kernel_rfl) k
theorem Tryd.ix_S_Row {K : Value → Prop} {b off len cap : Nat} {kd : IntKind} {i : Int} (h0 : 0 ≤ i) (h1 : i < len) (k : K (.pointer (some ⟨b, off + i.toNat * 2, none⟩))) : opP Tryd.prog (Instr.indexAt 48 (.slice (some ⟨b, off, none⟩) len cap) (.int kd i)) K :=
  p_index (e := 65) (n := 2) (by kernel_rfl) h0 h1 k
theorem Tryd.ce_3_int {w : World} {K : Value → Prop} {b : Nat} {c : List Value} {T : TypeId} (B : Blk w b c T) (hc : c.length = 3) (k : K (.agg c.toArray)) : opQ Tryd.prog w (cellSem 80 (.pointer (some ⟨b, 0, none⟩))) K :=
  q_cellB (by rw [hc]; kernel_rfl) B k
theorem Tryd.al_3_int {w : World} {K : Value → World → Prop} (h : ∀ b w', b = w.heap.size → Ext w w' → w'.heap.size = w.heap.size + 1 → Blk w' b [(.int .i64 0), (.int .i64 0), (.int .i64 0)] 80 → K (.pointer (some ⟨b, 0, none⟩)) w') : opW Tryd.prog w (Instr.alloc 80 true (.tuple #[])) K :=
  w_alloc (by kernel_rfl) h
theorem Tryd.stB_3_int {w : World} {K : World → Prop} {cs : Array Value} {b : Nat} {c : List Value} {T : TypeId} (B : Blk w b c T) (hl : c.length = 3) (hc : cs.size = 3) (h1 : ∀ u ∈ cs.toList, u.oneCell' = true) (h : ∀ w', ExtBut (· = b) w w' → w'.heap.size = w.heap.size → Blk w' b cs.toList T → K w') : opU Tryd.prog w (Instr.storeAt 80 (.pointer (some ⟨b, 0, none⟩)) (.agg cs)) K :=
  w_storeB (v := .agg cs) (by rw [show (Value.agg cs).cells.size = 3 from hc]; kernel_rfl) B (by rw [hl]; exact hc) h1 h
theorem Tryd.st_3_int {w : World} {K : World → Prop} {cs : Array Value} {b off : Nat} {c : List Value} {T : TypeId} (B : Blk w b c T) (hl : off + 3 ≤ c.length) (hc : cs.size = 3) (h1 : ∀ u ∈ cs.toList, u.oneCell' = true) (h : ∀ w', ExtBut (· = b) w w' → w'.heap.size = w.heap.size → Blk w' b (c.take off ++ cs.toList ++ c.drop (off + 3)) T → K w') : opU Tryd.prog w (Instr.storeAt 80 (.pointer (some ⟨b, off, none⟩)) (.agg cs)) K :=
  w_store (v := .agg cs) (by rw [show (Value.agg cs).cells.size = 3 from hc]; kernel_rfl) B (by rw [show (Value.agg cs).cells.size = 3 from hc]; exact hl) h1 (by rw [show (Value.agg cs).cells.size = 3 from hc]; exact h)
theorem Tryd.ce_3_P_S_Row {w : World} {K : Value → Prop} {b : Nat} {c : List Value} {T : TypeId} (B : Blk w b c T) (hc : c.length = 3) (k : K (.agg c.toArray)) : opQ Tryd.prog w (cellSem 74 (.pointer (some ⟨b, 0, none⟩))) K :=
  q_cellB (by rw [hc]; kernel_rfl) B k
theorem Tryd.al_3_P_S_Row {w : World} {K : Value → World → Prop} (h : ∀ b w', b = w.heap.size → Ext w w' → w'.heap.size = w.heap.size + 1 → Blk w' b [(.pointer none), (.pointer none), (.pointer none)] 74 → K (.pointer (some ⟨b, 0, none⟩)) w') : opW Tryd.prog w (Instr.alloc 74 true (.tuple #[])) K :=
  w_alloc (by kernel_rfl) h
theorem Tryd.fa_FnCert_0 {K : Value → Prop} {b off : Nat} (k : K (.pointer (some ⟨b, off + 0, none⟩))) : opP Tryd.prog (Instr.fieldAt 50 (.pointer (some ⟨b, off, none⟩)) 0) K :=
  p_field (by kernel_rfl) k
theorem Tryd.fa_FnCert_1 {K : Value → Prop} {b off : Nat} (k : K (.pointer (some ⟨b, off + 1, none⟩))) : opP Tryd.prog (Instr.fieldAt 50 (.pointer (some ⟨b, off, none⟩)) 1) K :=
  p_field (by kernel_rfl) k
theorem Tryd.fa_FnCert_2 {K : Value → Prop} {b off : Nat} (k : K (.pointer (some ⟨b, off + 2, none⟩))) : opP Tryd.prog (Instr.fieldAt 50 (.pointer (some ⟨b, off, none⟩)) 2) K :=
  p_field (by kernel_rfl) k
theorem Tryd.stB_3_P_S_Row {w : World} {K : World → Prop} {cs : Array Value} {b : Nat} {c : List Value} {T : TypeId} (B : Blk w b c T) (hl : c.length = 3) (hc : cs.size = 3) (h1 : ∀ u ∈ cs.toList, u.oneCell' = true) (h : ∀ w', ExtBut (· = b) w w' → w'.heap.size = w.heap.size → Blk w' b cs.toList T → K w') : opU Tryd.prog w (Instr.storeAt 74 (.pointer (some ⟨b, 0, none⟩)) (.agg cs)) K :=
  w_storeB (v := .agg cs) (by rw [show (Value.agg cs).cells.size = 3 from hc]; kernel_rfl) B (by rw [hl]; exact hc) h1 h
theorem Tryd.st_3_P_S_Row {w : World} {K : World → Prop} {cs : Array Value} {b off : Nat} {c : List Value} {T : TypeId} (B : Blk w b c T) (hl : off + 3 ≤ c.length) (hc : cs.size = 3) (h1 : ∀ u ∈ cs.toList, u.oneCell' = true) (h : ∀ w', ExtBut (· = b) w w' → w'.heap.size = w.heap.size → Blk w' b (c.take off ++ cs.toList ++ c.drop (off + 3)) T → K w') : opU Tryd.prog w (Instr.storeAt 74 (.pointer (some ⟨b, off, none⟩)) (.agg cs)) K :=
  w_store (v := .agg cs) (by rw [show (Value.agg cs).cells.size = 3 from hc]; kernel_rfl) B (by rw [show (Value.agg cs).cells.size = 3 from hc]; exact hl) h1 (by rw [show (Value.agg cs).cells.size = 3 from hc]; exact h)
theorem Tryd.ld_S_Row {w : World} {K : Value → Prop} {a : Addr} {v : Value} (h : w.cell? a = some v) (k : K v) : opQ Tryd.prog w (Instr.loadAt 48 (.pointer (some a))) K :=
  q_load (by kernel_rfl) h k
theorem Tryd.ldB_S_Row {w : World} {K : Value → Prop} {b i : Nat} {c : List Value} {v : Value} {T : TypeId} (B : Blk w b c T) (h : c[i]? = some v) (k : K v) : opQ Tryd.prog w (Instr.loadAt 48 (.pointer (some ⟨b, i, none⟩))) K :=
  q_load (by kernel_rfl) ((B.cell i).trans h) k
theorem Tryd.fa_Cert_0 {K : Value → Prop} {b off : Nat} (k : K (.pointer (some ⟨b, off + 0, none⟩))) : opP Tryd.prog (Instr.fieldAt 24 (.pointer (some ⟨b, off, none⟩)) 0) K :=
  p_field (by kernel_rfl) k
theorem Tryd.ld_S_FnCert {w : World} {K : Value → Prop} {a : Addr} {v : Value} (h : w.cell? a = some v) (k : K v) : opQ Tryd.prog w (Instr.loadAt 22 (.pointer (some a))) K :=
  q_load (by kernel_rfl) h k
theorem Tryd.ldB_S_FnCert {w : World} {K : Value → Prop} {b i : Nat} {c : List Value} {v : Value} {T : TypeId} (B : Blk w b c T) (h : c[i]? = some v) (k : K v) : opQ Tryd.prog w (Instr.loadAt 22 (.pointer (some ⟨b, i, none⟩))) K :=
  q_load (by kernel_rfl) ((B.cell i).trans h) k
theorem Tryd.len_S_FnCert {K : Value → Prop} {p : Option Addr} {len cap : Nat} (k : K (.int .i64 len)) : opP Tryd.prog (Builtin.len_ #[22] 3 #[.slice p len cap]) K :=
  p_lenS (e := 50) (n := 3) (by kernel_rfl) k
theorem Tryd.ix_S_FnCert {K : Value → Prop} {b off len cap : Nat} {kd : IntKind} {i : Int} (h0 : 0 ≤ i) (h1 : i < len) (k : K (.pointer (some ⟨b, off + i.toNat * 3, none⟩))) : opP Tryd.prog (Instr.indexAt 22 (.slice (some ⟨b, off, none⟩) len cap) (.int kd i)) K :=
  p_index (e := 50) (n := 3) (by kernel_rfl) h0 h1 k
theorem Tryd.ldB_FnCert {w : World} {K : Value → Prop} {b : Nat} {c : List Value} {T : TypeId} (B : Blk w b c T) (hc : c.length = 3) (k : K (.agg c.toArray)) : opQ Tryd.prog w (Instr.loadAt 50 (.pointer (some ⟨b, 0, none⟩))) K :=
  q_loadB (by rw [hc]; kernel_rfl) B k
theorem Tryd.ldN_FnCert {w : World} {K : Value → Prop} {b off : Nat} {vs : List Value} (hc : vs.length = 3) (h : ∀ j v, vs[j]? = some v → w.cell? ⟨b, off + j, none⟩ = some v) (k : K (.agg vs.toArray)) : opQ Tryd.prog w (Instr.loadAt 50 (.pointer (some ⟨b, off, none⟩))) K :=
  q_loadN (by rw [hc]; kernel_rfl) h k
theorem Tryd.al_FnCert {w : World} {K : Value → World → Prop} (h : ∀ b w', b = w.heap.size → Ext w w' → w'.heap.size = w.heap.size + 1 → Blk w' b [(.slice none 0 0), (.slice none 0 0), (.slice none 0 0)] 50 → K (.pointer (some ⟨b, 0, none⟩)) w') : opW Tryd.prog w (Instr.alloc 50 true (.tuple #[])) K :=
  w_alloc (by kernel_rfl) h
theorem Tryd.stB_FnCert {w : World} {K : World → Prop} {cs : Array Value} {b : Nat} {c : List Value} {T : TypeId} (B : Blk w b c T) (hl : c.length = 3) (hc : cs.size = 3) (h1 : ∀ u ∈ cs.toList, u.oneCell' = true) (h : ∀ w', ExtBut (· = b) w w' → w'.heap.size = w.heap.size → Blk w' b cs.toList T → K w') : opU Tryd.prog w (Instr.storeAt 50 (.pointer (some ⟨b, 0, none⟩)) (.agg cs)) K :=
  w_storeB (v := .agg cs) (by rw [show (Value.agg cs).cells.size = 3 from hc]; kernel_rfl) B (by rw [hl]; exact hc) h1 h
theorem Tryd.st_FnCert {w : World} {K : World → Prop} {cs : Array Value} {b off : Nat} {c : List Value} {T : TypeId} (B : Blk w b c T) (hl : off + 3 ≤ c.length) (hc : cs.size = 3) (h1 : ∀ u ∈ cs.toList, u.oneCell' = true) (h : ∀ w', ExtBut (· = b) w w' → w'.heap.size = w.heap.size → Blk w' b (c.take off ++ cs.toList ++ c.drop (off + 3)) T → K w') : opU Tryd.prog w (Instr.storeAt 50 (.pointer (some ⟨b, off, none⟩)) (.agg cs)) K :=
  w_store (v := .agg cs) (by rw [show (Value.agg cs).cells.size = 3 from hc]; kernel_rfl) B (by rw [show (Value.agg cs).cells.size = 3 from hc]; exact hl) h1 (by rw [show (Value.agg cs).cells.size = 3 from hc]; exact h)
theorem Tryd.ap_S_FnCert {w : World} {K : Value → World → Prop} {base : Nat} {v : Value} {n : Nat} {xs : List Value} {p : Option Addr} {m c : Nat} {news : List Value} (hown : w.ownsRow base 50 3 v n xs) (hs : Sl w p news) (hl : news.length = m * 3) (hp : p = none → c = 0) (h1 : ∀ u ∈ news, u.oneCell' = true) (hb : (n + m) * 72 ≤ 140737488355328) (hbase : base ≤ w.heap.size) (h : ∀ v' w', w'.ownsRow base 50 3 v' (n + m) (xs ++ news) → ExtBut (fun k => v.ownBlock = some k) w w' → (v'.ownBlock = v.ownBlock ∨ v'.ownBlock = some w.heap.size) → (v' = .slice none 0 0 ↔ v = .slice none 0 0 ∧ m = 0) → K v' w') : opW Tryd.prog w (Builtin.append_ #[22, 22] 22 #[v, .slice p m c]) K :=
  w_append (by kernel_rfl) hown hs hl hp h1 hb hbase h
theorem Tryd.ap_S_Row {w : World} {K : Value → World → Prop} {base : Nat} {v : Value} {n : Nat} {xs : List Value} {p : Option Addr} {m c : Nat} {news : List Value} (hown : w.ownsRow base 65 2 v n xs) (hs : Sl w p news) (hl : news.length = m * 2) (hp : p = none → c = 0) (h1 : ∀ u ∈ news, u.oneCell' = true) (hb : (n + m) * 32 ≤ 140737488355328) (hbase : base ≤ w.heap.size) (h : ∀ v' w', w'.ownsRow base 65 2 v' (n + m) (xs ++ news) → ExtBut (fun k => v.ownBlock = some k) w w' → (v'.ownBlock = v.ownBlock ∨ v'.ownBlock = some w.heap.size) → (v' = .slice none 0 0 ↔ v = .slice none 0 0 ∧ m = 0) → K v' w') : opW Tryd.prog w (Builtin.append_ #[48, 48] 48 #[v, .slice p m c]) K :=
  w_append (by kernel_rfl) hown hs hl hp h1 hb hbase h
theorem Tryd.ce_Cert {w : World} {K : Value → Prop} {b : Nat} {c : List Value} {T : TypeId} (B : Blk w b c T) (hc : c.length = 1) (k : K (.agg c.toArray)) : opQ Tryd.prog w (cellSem 24 (.pointer (some ⟨b, 0, none⟩))) K :=
  q_cellB (by rw [hc]; kernel_rfl) B k
theorem Tryd.al_Cert {w : World} {K : Value → World → Prop} (h : ∀ b w', b = w.heap.size → Ext w w' → w'.heap.size = w.heap.size + 1 → Blk w' b [(.slice none 0 0)] 24 → K (.pointer (some ⟨b, 0, none⟩)) w') : opW Tryd.prog w (Instr.alloc 24 true (.tuple #[])) K :=
  w_alloc (by kernel_rfl) h
theorem Tryd.ldB_Cert {w : World} {K : Value → Prop} {b : Nat} {c : List Value} {T : TypeId} (B : Blk w b c T) (hc : c.length = 1) (k : K (.agg c.toArray)) : opQ Tryd.prog w (Instr.loadAt 24 (.pointer (some ⟨b, 0, none⟩))) K :=
  q_loadB (by rw [hc]; kernel_rfl) B k
theorem Tryd.ldN_Cert {w : World} {K : Value → Prop} {b off : Nat} {vs : List Value} (hc : vs.length = 1) (h : ∀ j v, vs[j]? = some v → w.cell? ⟨b, off + j, none⟩ = some v) (k : K (.agg vs.toArray)) : opQ Tryd.prog w (Instr.loadAt 24 (.pointer (some ⟨b, off, none⟩))) K :=
  q_loadN (by rw [hc]; kernel_rfl) h k
theorem Tryd.stB_Cert {w : World} {K : World → Prop} {cs : Array Value} {b : Nat} {c : List Value} {T : TypeId} (B : Blk w b c T) (hl : c.length = 1) (hc : cs.size = 1) (h1 : ∀ u ∈ cs.toList, u.oneCell' = true) (h : ∀ w', ExtBut (· = b) w w' → w'.heap.size = w.heap.size → Blk w' b cs.toList T → K w') : opU Tryd.prog w (Instr.storeAt 24 (.pointer (some ⟨b, 0, none⟩)) (.agg cs)) K :=
  w_storeB (v := .agg cs) (by rw [show (Value.agg cs).cells.size = 1 from hc]; kernel_rfl) B (by rw [hl]; exact hc) h1 h
theorem Tryd.st_Cert {w : World} {K : World → Prop} {cs : Array Value} {b off : Nat} {c : List Value} {T : TypeId} (B : Blk w b c T) (hl : off + 1 ≤ c.length) (hc : cs.size = 1) (h1 : ∀ u ∈ cs.toList, u.oneCell' = true) (h : ∀ w', ExtBut (· = b) w w' → w'.heap.size = w.heap.size → Blk w' b (c.take off ++ cs.toList ++ c.drop (off + 1)) T → K w') : opU Tryd.prog w (Instr.storeAt 24 (.pointer (some ⟨b, off, none⟩)) (.agg cs)) K :=
  w_store (v := .agg cs) (by rw [show (Value.agg cs).cells.size = 1 from hc]; kernel_rfl) B (by rw [show (Value.agg cs).cells.size = 1 from hc]; exact hl) h1 (by rw [show (Value.agg cs).cells.size = 1 from hc]; exact h)
theorem Tryd.ce_FnCert {w : World} {K : Value → Prop} {b : Nat} {c : List Value} {T : TypeId} (B : Blk w b c T) (hc : c.length = 3) (k : K (.agg c.toArray)) : opQ Tryd.prog w (cellSem 50 (.pointer (some ⟨b, 0, none⟩))) K :=
  q_cellB (by rw [hc]; kernel_rfl) B k
theorem Tryd.ap_S_uint8 {w : World} {K : Value → World → Prop} {base : Nat} {v : Value} {n : Nat} {xs : List Value} {p : Option Addr} {m c : Nat} {news : List Value} (hown : w.ownsRow base 5 1 v n xs) (hs : Sl w p news) (hl : news.length = m * 1) (hp : p = none → c = 0) (h1 : ∀ u ∈ news, u.oneCell' = true) (hb : (n + m) * 1 ≤ 140737488355328) (hbase : base ≤ w.heap.size) (h : ∀ v' w', w'.ownsRow base 5 1 v' (n + m) (xs ++ news) → ExtBut (fun k => v.ownBlock = some k) w w' → (v'.ownBlock = v.ownBlock ∨ v'.ownBlock = some w.heap.size) → (v' = .slice none 0 0 ↔ v = .slice none 0 0 ∧ m = 0) → K v' w') : opW Tryd.prog w (Builtin.append_ #[57, 57] 57 #[v, .slice p m c]) K :=
  w_append (by kernel_rfl) hown hs hl hp h1 hb hbase h
theorem Tryd.ldB_CertHead {w : World} {K : Value → Prop} {b : Nat} {c : List Value} {T : TypeId} (B : Blk w b c T) (hc : c.length = 7) (k : K (.agg c.toArray)) : opQ Tryd.prog w (Instr.loadAt 38 (.pointer (some ⟨b, 0, none⟩))) K :=
  q_loadB (by rw [hc]; kernel_rfl) B k
theorem Tryd.ldN_CertHead {w : World} {K : Value → Prop} {b off : Nat} {vs : List Value} (hc : vs.length = 7) (h : ∀ j v, vs[j]? = some v → w.cell? ⟨b, off + j, none⟩ = some v) (k : K (.agg vs.toArray)) : opQ Tryd.prog w (Instr.loadAt 38 (.pointer (some ⟨b, off, none⟩))) K :=
  q_loadN (by rw [hc]; kernel_rfl) h k
theorem Tryd.len_S_CertHead {K : Value → Prop} {p : Option Addr} {len cap : Nat} (k : K (.int .i64 len)) : opP Tryd.prog (Builtin.len_ #[43] 3 #[.slice p len cap]) K :=
  p_lenS (e := 38) (n := 7) (by kernel_rfl) k
theorem Tryd.ix_S_CertHead {K : Value → Prop} {b off len cap : Nat} {kd : IntKind} {i : Int} (h0 : 0 ≤ i) (h1 : i < len) (k : K (.pointer (some ⟨b, off + i.toNat * 7, none⟩))) : opP Tryd.prog (Instr.indexAt 43 (.slice (some ⟨b, off, none⟩) len cap) (.int kd i)) K :=
  p_index (e := 38) (n := 7) (by kernel_rfl) h0 h1 k
theorem Tryd.len_S_uint8 {K : Value → Prop} {p : Option Addr} {len cap : Nat} (k : K (.int .i64 len)) : opP Tryd.prog (Builtin.len_ #[57] 3 #[.slice p len cap]) K :=
  p_lenS (e := 5) (n := 1) (by kernel_rfl) k
theorem Tryd.fa_cert_taker_1 {K : Value → Prop} {b off : Nat} (k : K (.pointer (some ⟨b, off + 1, none⟩))) : opP Tryd.prog (Instr.fieldAt 101 (.pointer (some ⟨b, off, none⟩)) 1) K :=
  p_field (by kernel_rfl) k
theorem Tryd.fa_cert_taker_0 {K : Value → Prop} {b off : Nat} (k : K (.pointer (some ⟨b, off + 0, none⟩))) : opP Tryd.prog (Instr.fieldAt 101 (.pointer (some ⟨b, off, none⟩)) 0) K :=
  p_field (by kernel_rfl) k
theorem Tryd.ld_string {w : World} {K : Value → Prop} {a : Addr} {v : Value} (h : w.cell? a = some v) (k : K v) : opQ Tryd.prog w (Instr.loadAt 9 (.pointer (some a))) K :=
  q_load (by kernel_rfl) h k
theorem Tryd.ldB_string {w : World} {K : Value → Prop} {b i : Nat} {c : List Value} {v : Value} {T : TypeId} (B : Blk w b c T) (h : c[i]? = some v) (k : K v) : opQ Tryd.prog w (Instr.loadAt 9 (.pointer (some ⟨b, i, none⟩))) K :=
  q_load (by kernel_rfl) ((B.cell i).trans h) k
theorem Tryd.st_int {w : World} {K : World → Prop} {v : Value} {b off : Nat} {c : List Value} {T : TypeId} (B : Blk w b c T) (hl : off < c.length) (h1 : v.oneCell' = true) (h : ∀ w', ExtBut (· = b) w w' → w'.heap.size = w.heap.size → Blk w' b (c.set off v) T → K w') : opU Tryd.prog w (Instr.storeAt 3 (.pointer (some ⟨b, off, none⟩)) v) K :=
  w_store1 (by kernel_rfl) B hl h1 h
theorem Tryd.slHi_string {K : Value → Prop} {s : ByteArray} {kd : IntKind} {i : Int} (h0 : 0 ≤ i) (h1 : i ≤ s.size) (k : K (.string (s.extract 0 i.toNat))) : opP Tryd.prog (Instr.sliceAt 9 (.string s) none (some (.int kd i)) none) K :=
  p_strHi (by kernel_rfl) h0 h1 k
theorem Tryd.slLo_string {K : Value → Prop} {s : ByteArray} {kd : IntKind} {i : Int} (h0 : 0 ≤ i) (h1 : i ≤ s.size) (k : K (.string (s.extract i.toNat s.size))) : opP Tryd.prog (Instr.sliceAt 9 (.string s) (some (.int kd i)) none none) K :=
  p_strLo (by kernel_rfl) h0 h1 k
theorem Tryd.st_S_Row {w : World} {K : World → Prop} {v : Value} {b off : Nat} {c : List Value} {T : TypeId} (B : Blk w b c T) (hl : off < c.length) (h1 : v.oneCell' = true) (h : ∀ w', ExtBut (· = b) w w' → w'.heap.size = w.heap.size → Blk w' b (c.set off v) T → K w') : opU Tryd.prog w (Instr.storeAt 48 (.pointer (some ⟨b, off, none⟩)) v) K :=
  w_store1 (by kernel_rfl) B hl h1 h
theorem Tryd.ce_int {w : World} {K : Value → Prop} {b : Nat} {v : Value} {T : TypeId} (B : Blk w b [v] T) (k : K v) : opQ Tryd.prog w (cellSem 3 (.pointer (some ⟨b, 0, none⟩))) K :=
  q_cell1 (by kernel_rfl) (by rw [B.cell]; rfl) k
theorem Tryd.ce_Errno {w : World} {K : Value → Prop} {b : Nat} {v : Value} {T : TypeId} (B : Blk w b [v] T) (k : K v) : opQ Tryd.prog w (cellSem 28 (.pointer (some ⟨b, 0, none⟩))) K :=
  q_cell1 (by kernel_rfl) (by rw [B.cell]; rfl) k
theorem Tryd.al_int {w : World} {K : Value → World → Prop} (h : ∀ b w', b = w.heap.size → Ext w w' → w'.heap.size = w.heap.size + 1 → Blk w' b [(.int .i64 0)] 3 → K (.pointer (some ⟨b, 0, none⟩)) w') : opW Tryd.prog w (Instr.alloc 3 true (.tuple #[])) K :=
  w_alloc (by kernel_rfl) h
theorem Tryd.al_cert_stuck {w : World} {K : Value → World → Prop} (h : ∀ b w', b = w.heap.size → Ext w w' → w'.heap.size = w.heap.size + 1 → Blk w' b [(.int .i64 0)] 125 → K (.pointer (some ⟨b, 0, none⟩)) w') : opW Tryd.prog w (Instr.alloc 125 true (.tuple #[])) K :=
  w_alloc (by kernel_rfl) h
theorem Tryd.stB_cert_stuck {w : World} {K : World → Prop} {cs : Array Value} {b : Nat} {c : List Value} {T : TypeId} (B : Blk w b c T) (hl : c.length = 1) (hc : cs.size = 1) (h1 : ∀ u ∈ cs.toList, u.oneCell' = true) (h : ∀ w', ExtBut (· = b) w w' → w'.heap.size = w.heap.size → Blk w' b cs.toList T → K w') : opU Tryd.prog w (Instr.storeAt 125 (.pointer (some ⟨b, 0, none⟩)) (.agg cs)) K :=
  w_storeB (v := .agg cs) (by rw [show (Value.agg cs).cells.size = 1 from hc]; kernel_rfl) B (by rw [hl]; exact hc) h1 h
theorem Tryd.st_cert_stuck {w : World} {K : World → Prop} {cs : Array Value} {b off : Nat} {c : List Value} {T : TypeId} (B : Blk w b c T) (hl : off + 1 ≤ c.length) (hc : cs.size = 1) (h1 : ∀ u ∈ cs.toList, u.oneCell' = true) (h : ∀ w', ExtBut (· = b) w w' → w'.heap.size = w.heap.size → Blk w' b (c.take off ++ cs.toList ++ c.drop (off + 1)) T → K w') : opU Tryd.prog w (Instr.storeAt 125 (.pointer (some ⟨b, off, none⟩)) (.agg cs)) K :=
  w_store (v := .agg cs) (by rw [show (Value.agg cs).cells.size = 1 from hc]; kernel_rfl) B (by rw [show (Value.agg cs).cells.size = 1 from hc]; exact hl) h1 (by rw [show (Value.agg cs).cells.size = 1 from hc]; exact h)
theorem Tryd.fa_cert_stuck_0 {K : Value → Prop} {b off : Nat} (k : K (.pointer (some ⟨b, off + 0, none⟩))) : opP Tryd.prog (Instr.fieldAt 125 (.pointer (some ⟨b, off, none⟩)) 0) K :=
  p_field (by kernel_rfl) k
theorem Tryd.ld_func_P_cert_taker {w : World} {K : Value → Prop} {a : Addr} {v : Value} (h : w.cell? a = some v) (k : K v) : opQ Tryd.prog w (Instr.loadAt 88 (.pointer (some a))) K :=
  q_load (by kernel_rfl) h k
theorem Tryd.ldB_func_P_cert_taker {w : World} {K : Value → Prop} {b i : Nat} {c : List Value} {v : Value} {T : TypeId} (B : Blk w b c T) (h : c[i]? = some v) (k : K v) : opQ Tryd.prog w (Instr.loadAt 88 (.pointer (some ⟨b, i, none⟩))) K :=
  q_load (by kernel_rfl) ((B.cell i).trans h) k
theorem Tryd.st_S_FnCert {w : World} {K : World → Prop} {v : Value} {b off : Nat} {c : List Value} {T : TypeId} (B : Blk w b c T) (hl : off < c.length) (h1 : v.oneCell' = true) (h : ∀ w', ExtBut (· = b) w w' → w'.heap.size = w.heap.size → Blk w' b (c.set off v) T → K w') : opU Tryd.prog w (Instr.storeAt 22 (.pointer (some ⟨b, off, none⟩)) v) K :=
  w_store1 (by kernel_rfl) B hl h1 h
theorem Tryd.ce_S_CertHead {w : World} {K : Value → Prop} {b : Nat} {v : Value} {T : TypeId} (B : Blk w b [v] T) (k : K v) : opQ Tryd.prog w (cellSem 43 (.pointer (some ⟨b, 0, none⟩))) K :=
  q_cell1 (by kernel_rfl) (by rw [B.cell]; rfl) k
theorem Tryd.al_S_CertHead {w : World} {K : Value → World → Prop} (h : ∀ b w', b = w.heap.size → Ext w w' → w'.heap.size = w.heap.size + 1 → Blk w' b [(.slice none 0 0)] 43 → K (.pointer (some ⟨b, 0, none⟩)) w') : opW Tryd.prog w (Instr.alloc 43 true (.tuple #[])) K :=
  w_alloc (by kernel_rfl) h
theorem Tryd.st_S_CertHead {w : World} {K : World → Prop} {v : Value} {b off : Nat} {c : List Value} {T : TypeId} (B : Blk w b c T) (hl : off < c.length) (h1 : v.oneCell' = true) (h : ∀ w', ExtBut (· = b) w w' → w'.heap.size = w.heap.size → Blk w' b (c.set off v) T → K w') : opU Tryd.prog w (Instr.storeAt 43 (.pointer (some ⟨b, off, none⟩)) v) K :=
  w_store1 (by kernel_rfl) B hl h1 h
theorem Tryd.ld_S_CertHead {w : World} {K : Value → Prop} {a : Addr} {v : Value} (h : w.cell? a = some v) (k : K v) : opQ Tryd.prog w (Instr.loadAt 43 (.pointer (some a))) K :=
  q_load (by kernel_rfl) h k
theorem Tryd.ldB_S_CertHead {w : World} {K : Value → Prop} {b i : Nat} {c : List Value} {v : Value} {T : TypeId} (B : Blk w b c T) (h : c[i]? = some v) (k : K v) : opQ Tryd.prog w (Instr.loadAt 43 (.pointer (some ⟨b, i, none⟩))) K :=
  q_load (by kernel_rfl) ((B.cell i).trans h) k
theorem Tryd.al_CertHead {w : World} {K : Value → World → Prop} (h : ∀ b w', b = w.heap.size → Ext w w' → w'.heap.size = w.heap.size + 1 → Blk w' b [(.int .i64 0), (.int .i64 0), (.int .i64 0), (.int .i64 0), (.int .i64 0), (.int .i64 0), (.int .i64 0)] 38 → K (.pointer (some ⟨b, 0, none⟩)) w') : opW Tryd.prog w (Instr.alloc 38 true (.tuple #[])) K :=
  w_alloc (by kernel_rfl) h
theorem Tryd.fa_CertHead_0 {K : Value → Prop} {b off : Nat} (k : K (.pointer (some ⟨b, off + 0, none⟩))) : opP Tryd.prog (Instr.fieldAt 38 (.pointer (some ⟨b, off, none⟩)) 0) K :=
  p_field (by kernel_rfl) k
theorem Tryd.fa_CertHead_1 {K : Value → Prop} {b off : Nat} (k : K (.pointer (some ⟨b, off + 1, none⟩))) : opP Tryd.prog (Instr.fieldAt 38 (.pointer (some ⟨b, off, none⟩)) 1) K :=
  p_field (by kernel_rfl) k
theorem Tryd.fa_CertHead_2 {K : Value → Prop} {b off : Nat} (k : K (.pointer (some ⟨b, off + 2, none⟩))) : opP Tryd.prog (Instr.fieldAt 38 (.pointer (some ⟨b, off, none⟩)) 2) K :=
  p_field (by kernel_rfl) k
theorem Tryd.fa_CertHead_3 {K : Value → Prop} {b off : Nat} (k : K (.pointer (some ⟨b, off + 3, none⟩))) : opP Tryd.prog (Instr.fieldAt 38 (.pointer (some ⟨b, off, none⟩)) 3) K :=
  p_field (by kernel_rfl) k
theorem Tryd.fa_CertHead_4 {K : Value → Prop} {b off : Nat} (k : K (.pointer (some ⟨b, off + 4, none⟩))) : opP Tryd.prog (Instr.fieldAt 38 (.pointer (some ⟨b, off, none⟩)) 4) K :=
  p_field (by kernel_rfl) k
theorem Tryd.fa_CertHead_5 {K : Value → Prop} {b off : Nat} (k : K (.pointer (some ⟨b, off + 5, none⟩))) : opP Tryd.prog (Instr.fieldAt 38 (.pointer (some ⟨b, off, none⟩)) 5) K :=
  p_field (by kernel_rfl) k
theorem Tryd.al_2_P_int {w : World} {K : Value → World → Prop} (h : ∀ b w', b = w.heap.size → Ext w w' → w'.heap.size = w.heap.size + 1 → Blk w' b [(.pointer none), (.pointer none)] 92 → K (.pointer (some ⟨b, 0, none⟩)) w') : opW Tryd.prog w (Instr.alloc 92 true (.tuple #[])) K :=
  w_alloc (by kernel_rfl) h
theorem Tryd.stB_2_P_int {w : World} {K : World → Prop} {cs : Array Value} {b : Nat} {c : List Value} {T : TypeId} (B : Blk w b c T) (hl : c.length = 2) (hc : cs.size = 2) (h1 : ∀ u ∈ cs.toList, u.oneCell' = true) (h : ∀ w', ExtBut (· = b) w w' → w'.heap.size = w.heap.size → Blk w' b cs.toList T → K w') : opU Tryd.prog w (Instr.storeAt 92 (.pointer (some ⟨b, 0, none⟩)) (.agg cs)) K :=
  w_storeB (v := .agg cs) (by rw [show (Value.agg cs).cells.size = 2 from hc]; kernel_rfl) B (by rw [hl]; exact hc) h1 h
theorem Tryd.st_2_P_int {w : World} {K : World → Prop} {cs : Array Value} {b off : Nat} {c : List Value} {T : TypeId} (B : Blk w b c T) (hl : off + 2 ≤ c.length) (hc : cs.size = 2) (h1 : ∀ u ∈ cs.toList, u.oneCell' = true) (h : ∀ w', ExtBut (· = b) w w' → w'.heap.size = w.heap.size → Blk w' b (c.take off ++ cs.toList ++ c.drop (off + 2)) T → K w') : opU Tryd.prog w (Instr.storeAt 92 (.pointer (some ⟨b, off, none⟩)) (.agg cs)) K :=
  w_store (v := .agg cs) (by rw [show (Value.agg cs).cells.size = 2 from hc]; kernel_rfl) B (by rw [show (Value.agg cs).cells.size = 2 from hc]; exact hl) h1 (by rw [show (Value.agg cs).cells.size = 2 from hc]; exact h)
theorem Tryd.ld_P_int {w : World} {K : Value → Prop} {a : Addr} {v : Value} (h : w.cell? a = some v) (k : K v) : opQ Tryd.prog w (Instr.loadAt 91 (.pointer (some a))) K :=
  q_load (by kernel_rfl) h k
theorem Tryd.ldB_P_int {w : World} {K : Value → Prop} {b i : Nat} {c : List Value} {v : Value} {T : TypeId} (B : Blk w b c T) (h : c[i]? = some v) (k : K v) : opQ Tryd.prog w (Instr.loadAt 91 (.pointer (some ⟨b, i, none⟩))) K :=
  q_load (by kernel_rfl) ((B.cell i).trans h) k
theorem Tryd.fa_CertHead_6 {K : Value → Prop} {b off : Nat} (k : K (.pointer (some ⟨b, off + 6, none⟩))) : opP Tryd.prog (Instr.fieldAt 38 (.pointer (some ⟨b, off, none⟩)) 6) K :=
  p_field (by kernel_rfl) k
theorem Tryd.ap_S_CertHead {w : World} {K : Value → World → Prop} {base : Nat} {v : Value} {n : Nat} {xs : List Value} {p : Option Addr} {m c : Nat} {news : List Value} (hown : w.ownsRow base 38 7 v n xs) (hs : Sl w p news) (hl : news.length = m * 7) (hp : p = none → c = 0) (h1 : ∀ u ∈ news, u.oneCell' = true) (hb : (n + m) * 56 ≤ 140737488355328) (hbase : base ≤ w.heap.size) (h : ∀ v' w', w'.ownsRow base 38 7 v' (n + m) (xs ++ news) → ExtBut (fun k => v.ownBlock = some k) w w' → (v'.ownBlock = v.ownBlock ∨ v'.ownBlock = some w.heap.size) → (v' = .slice none 0 0 ↔ v = .slice none 0 0 ∧ m = 0) → K v' w') : opW Tryd.prog w (Builtin.append_ #[43, 43] 43 #[v, .slice p m c]) K :=
  w_append (by kernel_rfl) hown hs hl hp h1 hb hbase h
theorem Tryd.fa_loanwordref20_reader_2 {K : Value → Prop} {b off : Nat} (k : K (.pointer (some ⟨b, off + 2, none⟩))) : opP Tryd.prog (Instr.fieldAt 104 (.pointer (some ⟨b, off, none⟩)) 2) K :=
  p_field (by kernel_rfl) k
theorem Tryd.ld_bool {w : World} {K : Value → Prop} {a : Addr} {v : Value} (h : w.cell? a = some v) (k : K v) : opQ Tryd.prog w (Instr.loadAt 4 (.pointer (some a))) K :=
  q_load (by kernel_rfl) h k
theorem Tryd.ldB_bool {w : World} {K : Value → Prop} {b i : Nat} {c : List Value} {v : Value} {T : TypeId} (B : Blk w b c T) (h : c[i]? = some v) (k : K v) : opQ Tryd.prog w (Instr.loadAt 4 (.pointer (some ⟨b, i, none⟩))) K :=
  q_load (by kernel_rfl) ((B.cell i).trans h) k
theorem Tryd.fa_loanwordref20_reader_1 {K : Value → Prop} {b off : Nat} (k : K (.pointer (some ⟨b, off + 1, none⟩))) : opP Tryd.prog (Instr.fieldAt 104 (.pointer (some ⟨b, off, none⟩)) 1) K :=
  p_field (by kernel_rfl) k
theorem Tryd.fa_loanwordref20_reader_0 {K : Value → Prop} {b off : Nat} (k : K (.pointer (some ⟨b, off + 0, none⟩))) : opP Tryd.prog (Instr.fieldAt 104 (.pointer (some ⟨b, off, none⟩)) 0) K :=
  p_field (by kernel_rfl) k
theorem Tryd.st_bool {w : World} {K : World → Prop} {v : Value} {b off : Nat} {c : List Value} {T : TypeId} (B : Blk w b c T) (hl : off < c.length) (h1 : v.oneCell' = true) (h : ∀ w', ExtBut (· = b) w w' → w'.heap.size = w.heap.size → Blk w' b (c.set off v) T → K w') : opU Tryd.prog w (Instr.storeAt 4 (.pointer (some ⟨b, off, none⟩)) v) K :=
  w_store1 (by kernel_rfl) B hl h1 h
theorem Tryd.fa_loanwordref20_reader_3 {K : Value → Prop} {b off : Nat} (k : K (.pointer (some ⟨b, off + 3, none⟩))) : opP Tryd.prog (Instr.fieldAt 104 (.pointer (some ⟨b, off, none⟩)) 3) K :=
  p_field (by kernel_rfl) k

end Go.Proofs
end

section
namespace Go.Proofs
open Go.Sh
set_option maxRecDepth 100000
/- 71: (*loanword/cert.taker).give -/
def Tryd.A_cert_taker_give : Ann := .r (.op 0 .p (.op 1 .p (.op 2 .p (.op 3 .q (.op 4 .p (.op 5 .p (.op 6 .l (.nil))))))))
def Tryd.F_cert_taker_give (t0 : Value) (w : World) (_K : Value → World → Prop) (Kp : List PanicEntry → World → Prop) : Prop :=
 oNil t0 fun t3 =>
 opP Tryd.prog (Instr.fieldAt 101 t3 1) fun t4 =>
 opQ Tryd.prog w (Instr.loadAt 3 t4) fun t5 =>
 opP Tryd.prog (Instr.build 125 #[(0, t5)]) fun t6 =>
 opP Tryd.prog (Instr.makeInterface 125 t6) fun t7 =>
 ∃ v w1, (Instr.panic t7).run Tryd.prog w = .halt (.panic v) w1 ∧ (false = true → NC w w1) ∧ Kp [{ v, recovered := false }] w1
theorem Tryd.E_cert_taker_give (t0 : Value) (w : World) (K : Value → World → Prop) (Kp : List PanicEntry → World → Prop) : sw ⟨false, true⟩ Tryd.prog Kp Tryd.A_cert_taker_give (bodyOf Tryd.f71) [t0, undef, undef, undef, undef, undef, undef, undef] w (topQ false Tryd.prog Tryd.f71 w K) = Tryd.F_cert_taker_give t0 w K Kp := by kernel_rfl
theorem Tryd.C_cert_taker_give : chk ⟨false, true⟩ Tryd.prog false Tryd.A_cert_taker_give (bodyOf Tryd.f71) = true := by kernel_rfl
theorem Tryd.ok_cert_taker_give {t0 : Value} {w : World} {K : Value → World → Prop} {Kp : List PanicEntry → World → Prop} (h : Tryd.F_cert_taker_give t0 w K Kp) : oCallP Tryd.prog Tryd.n_cert_taker_give #[t0] w K Kp :=
  callsP_of_sw (cf := ⟨false, true⟩) (Kp0 := Kp) (fun _ _ h => h) Tryd.mixed Tryd.func71 rfl Tryd.C_cert_taker_give ((Tryd.E_cert_taker_give t0 w K Kp).mpr h)

/- 70: (*loanword/cert.taker).one -/
def Tryd.A_cert_taker_one : Ann := .s (.r (.op 0 .p (.nil))) (.j [] (.s (.r (.op 0 .p (.op 1 .p (.op 2 .p (.op 3 .q (.op 4 .p (.op 5 .p (.op 6 .p (.op 7 .q (.op 8 .p (.op 9 .p (.op 10 .p (.grp 17 false [(11, .p), (12, .p), (13, .p), (14, .q), (15, .p), (16, .p), (17, .p), (18, .q), (19, .p), (20, .p), (21, .p), (22, .p)] [29] (.op 23 .p (.op 24 .p (.grp 31 false [(25, .p), (26, .p), (27, .p), (28, .q), (29, .p), (30, .p), (31, .p), (32, .q), (33, .p), (34, .p), (35, .p), (36, .p)] [43] (.op 37 .p (.nil)))))))))))))))))) (.c (.r (.op 0 .p (.op 1 .l (.nil)))) (.n))) (.s (.r (.op 0 .p (.op 1 .p (.op 2 .p (.op 3 .q (.op 4 .p (.op 5 .p (.op 6 .p (.op 7 .l (.nil)))))))))) (.s (.r (.op 0 .p (.op 1 .p (.op 2 .p (.op 3 .q (.op 4 .p (.op 5 .p (.op 6 .p (.op 7 .q (.op 8 .p (.op 9 .p (.op 10 .p (.op 11 .p (.nil)))))))))))))) (.n))))
def Tryd.F_cert_taker_one (t0 : Value) (t1 : Value) (t2 : Value) (w : World) (K : Value → World → Prop) (Kp : List PanicEntry → World → Prop) : Prop :=
 sJoin (fun K1 =>
 oNil t0 fun t8 =>
 opP Tryd.prog (Instr.fieldAt 101 t8 1) fun t9 =>
 opQ Tryd.prog w.drew (Instr.loadAt 3 t9) fun t10 =>
 oNil t0 fun t12 =>
 opP Tryd.prog (Instr.fieldAt 101 t12 0) fun t13 =>
 opQ Tryd.prog w.drew (Instr.loadAt 9 t13) fun t14 =>
 opP Tryd.prog (Builtin.len_ #[9] 3 #[t14]) fun t15 =>
 opP Tryd.prog (bsem .geq 3 false t10 t15) fun t16 =>
 sJoin (fun K5 => gIf t16 false (oNil t0 fun t19 =>
 opP Tryd.prog (Instr.fieldAt 101 t19 0) fun t20 =>
 opQ Tryd.prog w.drew (Instr.loadAt 9 t20) fun t21 =>
 oNil t0 fun t23 =>
 opP Tryd.prog (Instr.fieldAt 101 t23 1) fun t24 =>
 opQ Tryd.prog w.drew (Instr.loadAt 3 t24) fun t25 =>
 opP Tryd.prog (Instr.index 9 t21 t25) fun t26 =>
 opP Tryd.prog (convert 5 3 t26) fun t27 =>
 opP Tryd.prog (bsem .lss 3 false t27 t1) fun t29 =>
 K5 [t29] w.drew) (K5 [undef] w.drew)) (fun s6 _d7 w8 =>
 oPick t16 (Value.bool true) (s6.getD 0 undef) fun t30 =>
 sJoin (fun K9 => gIf t30 false (oNil t0 fun t33 =>
 opP Tryd.prog (Instr.fieldAt 101 t33 0) fun t34 =>
 opQ Tryd.prog w8 (Instr.loadAt 9 t34) fun t35 =>
 oNil t0 fun t37 =>
 opP Tryd.prog (Instr.fieldAt 101 t37 1) fun t38 =>
 opQ Tryd.prog w8 (Instr.loadAt 3 t38) fun t39 =>
 opP Tryd.prog (Instr.index 9 t35 t39) fun t40 =>
 opP Tryd.prog (convert 5 3 t40) fun t41 =>
 opP Tryd.prog (bsem .gtr 3 false t41 t2) fun t43 =>
 K9 [t43] w8) (K9 [undef] w8)) (fun s10 _d11 w12 =>
 oPick t30 (Value.bool true) (s10.getD 0 undef) fun t44 =>
 oCond t44 (oCallP Tryd.prog Tryd.n_cert_taker_give #[t0] w12 (fun _t46 w13 =>
 K1 [] w13) (fun c w13 => (false = true → NC w12 w13) ∧ Kp c w13)) (K1 [] w12)))) (fun _s2 _d3 w4 =>
 oNil t0 fun t48 =>
 opP Tryd.prog (Instr.fieldAt 101 t48 1) fun t49 =>
 opQ Tryd.prog w4 (Instr.loadAt 3 t49) fun t50 =>
 opP Tryd.prog (bsem .add 3 true t50 (Value.int .i64 1)) fun t51 =>
 oNil t0 fun t52 =>
 opP Tryd.prog (Instr.fieldAt 101 t52 1) fun t53 =>
 opU Tryd.prog w4 (Instr.storeAt 3 t53 t51) fun w14 =>
 oNil t0 fun t55 =>
 opP Tryd.prog (Instr.fieldAt 101 t55 0) fun t56 =>
 opQ Tryd.prog w14.drew (Instr.loadAt 9 t56) fun t57 =>
 oNil t0 fun t59 =>
 opP Tryd.prog (Instr.fieldAt 101 t59 1) fun t60 =>
 opQ Tryd.prog w14.drew (Instr.loadAt 3 t60) fun t61 =>
 opP Tryd.prog (bsem .sub 3 true t61 (Value.int .i64 1)) fun t62 =>
 opP Tryd.prog (Instr.index 9 t57 t62) fun t63 =>
 opP Tryd.prog (convert 5 3 t63) fun t64 =>
 K t64 w14.drew)
theorem Tryd.E_cert_taker_one (t0 t1 t2 : Value) (w : World) (K : Value → World → Prop) (Kp : List PanicEntry → World → Prop) : sw ⟨false, true⟩ Tryd.prog Kp Tryd.A_cert_taker_one (bodyOf Tryd.f70) [t0, t1, t2, undef, undef, undef, undef, undef, undef, undef, undef, undef, undef, undef, undef, undef, undef, undef, undef, undef, undef, undef, undef, undef, undef, undef, undef, undef, undef, undef, undef, undef, undef, undef, undef, undef, undef, undef, undef, undef, undef, undef, undef, undef, undef, undef, undef, undef, undef, undef, undef, undef, undef, undef, undef, undef, undef, undef, undef, undef, undef, undef, undef, undef, undef] w (topQ false Tryd.prog Tryd.f70 w K) = Tryd.F_cert_taker_one t0 t1 t2 w K Kp := by kernel_rfl
theorem Tryd.C_cert_taker_one : chk ⟨false, true⟩ Tryd.prog false Tryd.A_cert_taker_one (bodyOf Tryd.f70) = true := by kernel_rfl
theorem Tryd.ok_cert_taker_one {t0 t1 t2 : Value} {w : World} {K : Value → World → Prop} {Kp : List PanicEntry → World → Prop} (h : Tryd.F_cert_taker_one t0 t1 t2 w K Kp) : oCallP Tryd.prog Tryd.n_cert_taker_one #[t0, t1, t2] w K Kp :=
  callsP_of_sw (cf := ⟨false, true⟩) (Kp0 := Kp) (fun _ _ h => h) Tryd.mixed Tryd.func70 rfl Tryd.C_cert_taker_one ((Tryd.E_cert_taker_one t0 t1 t2 w K Kp).mpr h)

/- 87: (*loanword/cert.taker).number -/
def Tryd.A_cert_taker_number : Ann := .s (.r (.op 0 .p (.nil))) (.s (.r (.op 0 .p (.op 1 .p (.op 2 .p (.op 3 .l (.op 4 .p (.op 5 .p (.nil)))))))) (.s (.r (.op 0 .p (.nil))) (.j [6] (.s (.r (.op 0 .p (.op 1 .p (.op 2 .p (.op 3 .p (.op 4 .p (.nil))))))) (.c (.r (.op 0 .p (.op 1 .p (.op 2 .p (.nil))))) (.n))) (.s (.r (.op 0 .p (.op 1 .p (.op 2 .p (.op 3 .l (.op 4 .p (.op 5 .p (.nil)))))))) (.s (.r (.op 0 .p (.op 1 .p (.nil)))) (.n))))))
def Tryd.F_cert_taker_number (t0 : Value) (t1 : Value) (w : World) (K : Value → World → Prop) (Kp : List PanicEntry → World → Prop) : Prop :=
 opP Tryd.prog (bsem .shr 3 true t1 (Value.int .u64 8)) fun t9 =>
 oCallP Tryd.prog Tryd.n_cert_taker_one #[t0, (Value.int .i64 0), t9] w (fun t10 w1 =>
 opP Tryd.prog (bsem .shl 3 true t10 (Value.int .u64 8)) fun t11 =>
 sJoin (fun K2 =>
 opP Tryd.prog (bsem .shr 3 true t11 (Value.int .u64 8)) fun t13 =>
 opP Tryd.prog (bsem .shr 3 true t1 (Value.int .u64 8)) fun t15 =>
 opP Tryd.prog (bsem .eql 3 false t13 t15) fun t16 =>
 oCond t16 (opP Tryd.prog (bsem .and 3 true t1 (Value.int .i64 255)) fun t18 =>
 K2 [t18] w1) (K2 [(Value.int .i64 255)] w1)) (fun s3 _d4 w5 =>
 oCallP Tryd.prog Tryd.n_cert_taker_one #[t0, (Value.int .i64 0), (s3.getD 0 undef)] w5 (fun t22 w6 =>
 opP Tryd.prog (bsem .or 3 false t11 t22) fun t23 =>
 K t23 w6) (fun c w6 => (false = true → NC w5 w6) ∧ Kp c w6))) (fun c w1 => (false = true → NC w w1) ∧ Kp c w1)
theorem Tryd.E_cert_taker_number (t0 t1 : Value) (w : World) (K : Value → World → Prop) (Kp : List PanicEntry → World → Prop) : sw ⟨false, true⟩ Tryd.prog Kp Tryd.A_cert_taker_number (bodyOf Tryd.f87) [t0, t1, undef, undef, undef, undef, undef, undef, undef, undef, undef, undef, undef, undef, undef, undef, undef, undef, undef, undef, undef, undef, undef, undef, undef] w (topQ false Tryd.prog Tryd.f87 w K) = Tryd.F_cert_taker_number t0 t1 w K Kp := by kernel_rfl
theorem Tryd.C_cert_taker_number : chk ⟨false, true⟩ Tryd.prog false Tryd.A_cert_taker_number (bodyOf Tryd.f87) = true := by kernel_rfl
theorem Tryd.ok_cert_taker_number {t0 t1 : Value} {w : World} {K : Value → World → Prop} {Kp : List PanicEntry → World → Prop} (h : Tryd.F_cert_taker_number t0 t1 w K Kp) : oCallP Tryd.prog Tryd.n_cert_taker_number #[t0, t1] w K Kp :=
  callsP_of_sw (cf := ⟨false, true⟩) (Kp0 := Kp) (fun _ _ h => h) Tryd.mixed Tryd.func87 rfl Tryd.C_cert_taker_number ((Tryd.E_cert_taker_number t0 t1 w K Kp).mpr h)

/- 74: (*loanword/cert.taker).head -/
def Tryd.A_cert_taker_head : Ann := .s (.r (.op 0 .p (.op 1 .p (.nil)))) (.s (.r (.op 0 .p (.op 1 .p (.op 2 .l (.op 3 .p (.nil)))))) (.j [1] (.s (.r (.op 0 .p (.op 1 .p (.nil)))) (.c (.r (.op 0 .p (.nil))) (.r (.op 0 .p (.nil))))) (.s (.r (.op 0 .p (.op 1 .p (.op 2 .p (.op 3 .l (.op 4 .p (.op 5 .p (.nil)))))))) (.n))))
def Tryd.F_cert_taker_head (t0 : Value) (t1 : Value) (w : World) (K : Value → World → Prop) (Kp : List PanicEntry → World → Prop) : Prop :=
 oCallP Tryd.prog Tryd.n_cert_taker_number #[t0, t1] w (fun t8 w1 =>
 sJoin (fun K2 =>
 opP Tryd.prog (bsem .gtr 3 true t8 (Value.int .i64 0)) fun t10 =>
 oCond t10 (K2 [(Value.int .i64 1032)] w1) (K2 [(Value.int .i64 0)] w1)) (fun s3 _d4 w5 =>
 oCallP Tryd.prog Tryd.n_cert_taker_number #[t0, (s3.getD 0 undef)] w5 (fun t14 w6 =>
 K (.tuple #[t8, t14]) w6) (fun c w6 => (false = true → NC w5 w6) ∧ Kp c w6))) (fun c w1 => (false = true → NC w w1) ∧ Kp c w1)
theorem Tryd.E_cert_taker_head (t0 t1 : Value) (w : World) (K : Value → World → Prop) (Kp : List PanicEntry → World → Prop) : sw ⟨false, true⟩ Tryd.prog Kp Tryd.A_cert_taker_head (bodyOf Tryd.f74) [t0, t1, undef, undef, undef, undef, undef, undef, undef, undef, undef, undef, undef, undef, undef] w (topQ false Tryd.prog Tryd.f74 w K) = Tryd.F_cert_taker_head t0 t1 w K Kp := by kernel_rfl
theorem Tryd.C_cert_taker_head : chk ⟨false, true⟩ Tryd.prog false Tryd.A_cert_taker_head (bodyOf Tryd.f74) = true := by kernel_rfl
theorem Tryd.ok_cert_taker_head {t0 t1 : Value} {w : World} {K : Value → World → Prop} {Kp : List PanicEntry → World → Prop} (h : Tryd.F_cert_taker_head t0 t1 w K Kp) : oCallP Tryd.prog Tryd.n_cert_taker_head #[t0, t1] w K Kp :=
  callsP_of_sw (cf := ⟨false, true⟩) (Kp0 := Kp) (fun _ _ h => h) Tryd.mixed Tryd.func74 rfl Tryd.C_cert_taker_head ((Tryd.E_cert_taker_head t0 t1 w K Kp).mpr h)

/- 48: (*loanword/cert.taker).list -/
def Tryd.A_cert_taker_list : Ann := .s (.r (.op 0 .p (.op 1 .p (.op 2 .p (.nil))))) (.s (.r (.op 0 .p (.op 1 .p (.op 2 .l (.op 3 .p (.op 4 .p (.op 5 .p (.op 6 .p (.op 7 .p (.nil)))))))))) (.s (.r (.op 0 .p (.op 1 .p (.op 2 .p (.op 3 .q (.op 4 .p (.nil))))))) (.s (.s (.r (.op 0 .p (.op 1 .p (.nil)))) (.b (.lp [6, 21] (.s (.r (.op 0 .p (.nil))) (.s (.c (.n) (.n)) (.s (.b (.r (.op 0 .p (.op 1 .p (.op 2 .p (.op 3 .l (.op 4 .l (.op 5 .l (.op 6 .p (.nil)))))))))) (.r (.op 0 .p (.op 1 .p (.nil)))))))))) (.s (.r (.op 0 .p (.op 1 .p (.op 2 .p (.op 3 .p (.op 4 .p (.op 5 .p (.nil)))))))) (.n)))))
def Tryd.F_cert_taker_list (t0 : Value) (t1 : Value) (t2 : Value) (w : World) (K : Value → World → Prop) (Kp : List PanicEntry → World → Prop) : Prop :=
 oCallP Tryd.prog Tryd.n_cert_taker_head #[t0, t1] w (fun t13 w1 =>
 opP Tryd.prog (Instr.extract t13 0) fun t14 =>
 opP Tryd.prog (Instr.extract t13 1) fun t15 =>
 oNil t0 fun t17 =>
 opP Tryd.prog (Instr.fieldAt 101 t17 1) fun t18 =>
 opQ Tryd.prog w1 (Instr.loadAt 3 t18) fun t19 =>
 sLoop [(Value.slice Option.none 0 0), (Value.int .i64 0)] w1 (fun s3 _d4 w5 K2 =>
 opP Tryd.prog (bsem .lss 3 false (s3.getD 1 undef) t14) fun t22 =>
 oCond t22 (oCallVP Tryd.prog t2 #[t15] w5 (fun t26 w6 =>
 opW Tryd.prog w6 (Instr.buildSlice 48 1 #[(0, t26)]) fun t27 w7 =>
 opW Tryd.prog w7 (Builtin.append_ #[48, 48] 48 #[(s3.getD 0 undef), t27]) fun t28 w8 =>
 opP Tryd.prog (bsem .add 3 true (s3.getD 1 undef) (Value.int .i64 1)) fun t29 =>
 K2 [t28, t29] w8) (fun c w6 => (false = true → NC w5 w6) ∧ Kp c w6)) (K (.tuple #[(s3.getD 0 undef), t15, t19]) w5))) (fun c w1 => (false = true → NC w w1) ∧ Kp c w1)
theorem Tryd.E_cert_taker_list (t0 t1 t2 : Value) (w : World) (K : Value → World → Prop) (Kp : List PanicEntry → World → Prop) : sw ⟨false, true⟩ Tryd.prog Kp Tryd.A_cert_taker_list (bodyOf Tryd.f48) [t0, t1, t2, undef, undef, undef, undef, undef, undef, undef, undef, undef, undef, undef, undef, undef, undef, undef, undef, undef, undef, undef, undef, undef, undef, undef, undef, undef, undef, undef, undef, undef, undef] w (topQ false Tryd.prog Tryd.f48 w K) = Tryd.F_cert_taker_list t0 t1 t2 w K Kp := by kernel_rfl
theorem Tryd.C_cert_taker_list : chk ⟨false, true⟩ Tryd.prog false Tryd.A_cert_taker_list (bodyOf Tryd.f48) = true := by kernel_rfl
theorem Tryd.ok_cert_taker_list {t0 t1 t2 : Value} {w : World} {K : Value → World → Prop} {Kp : List PanicEntry → World → Prop} (h : Tryd.F_cert_taker_list t0 t1 t2 w K Kp) : oCallP Tryd.prog Tryd.n_cert_taker_list #[t0, t1, t2] w K Kp :=
  callsP_of_sw (cf := ⟨false, true⟩) (Kp0 := Kp) (fun _ _ h => h) Tryd.mixed Tryd.func48 rfl Tryd.C_cert_taker_list ((Tryd.E_cert_taker_list t0 t1 t2 w K Kp).mpr h)

/- 72: (*loanword/cert.taker).row -/
def Tryd.A_cert_taker_row : Ann := .s (.r (.op 0 .l (.nil))) (.s (.r (.op 0 .p (.op 1 .p (.op 2 .p (.op 3 .p (.nil)))))) (.j [6, 7, 8] (.r (.op 0 .p (.op 1 .p (.op 2 .p (.op 3 .p (.op 4 .q (.op 5 .p (.op 6 .p (.op 7 .p (.op 8 .q (.op 9 .p (.op 10 .p (.op 11 .p (.op 12 .q (.op 13 .p (.op 14 .p (.op 15 .p (.op 16 .p (.op 17 .q (.op 18 .p (.op 19 .p (.op 20 .p (.op 21 .p (.alt 22 .l (.op 23 .p (.op 24 .p (.op 25 .p (.op 26 .p (.op 27 .u (.op 28 .l (.op 29 .p (.op 30 .p (.nil))))))))) (.op 27 .u (.op 22 .l (.op 23 .p (.op 24 .p (.op 25 .p (.op 26 .p (.op 28 .l (.op 29 .p (.op 30 .p (.nil)))))))))))))))))))))))))))))))))) (.j [] (.s (.r (.op 0 .p (.op 1 .p (.nil)))) (.c (.s (.r (.op 0 .p (.op 1 .p (.op 2 .p (.op 3 .q (.op 4 .p (.op 5 .p (.op 6 .p (.op 7 .p (.op 8 .l (.nil))))))))))) (.r (.op 0 .p (.op 1 .l (.nil))))) (.n))) (.s (.r (.op 0 .p (.op 1 .p (.op 2 .p (.op 3 .q (.op 4 .p (.op 5 .p (.op 6 .p (.op 7 .p (.op 8 .l (.nil))))))))))) (.s (.r (.op 0 .q (.op 1 .l (.nil)))) (.n))))))
def Tryd.F_cert_taker_row (t0 : Value) (t1 : Value) (w : World) (K : Value → World → Prop) (Kp : List PanicEntry → World → Prop) : Prop :=
 opW Tryd.prog w (Instr.alloc 65 true (.tuple #[])) fun t4 w1 =>
 opP Tryd.prog (bsem .add 3 true t1 (Value.int .i64 7)) fun t10 =>
 opP Tryd.prog (bsem .quo 3 true t10 (Value.int .i64 8)) fun t11 =>
 sJoin (fun K2 =>
 oNil t0 fun t15 =>
 opP Tryd.prog (Instr.fieldAt 101 t15 0) fun t16 =>
 opQ Tryd.prog w1.drew (Instr.loadAt 9 t16) fun t17 =>
 oNil t0 fun t19 =>
 opP Tryd.prog (Instr.fieldAt 101 t19 1) fun t20 =>
 opQ Tryd.prog w1.drew (Instr.loadAt 3 t20) fun t21 =>
 oNil t0 fun t23 =>
 opP Tryd.prog (Instr.fieldAt 101 t23 0) fun t24 =>
 opQ Tryd.prog w1.drew (Instr.loadAt 9 t24) fun t25 =>
 opP Tryd.prog (Builtin.len_ #[9] 3 #[t25]) fun t26 =>
 oNil t0 fun t28 =>
 opP Tryd.prog (Instr.fieldAt 101 t28 1) fun t29 =>
 opQ Tryd.prog w1.drew (Instr.loadAt 3 t29) fun t30 =>
 opP Tryd.prog (bsem .add 3 false t30 t11) fun t32 =>
 opP Tryd.prog (Builtin.min_ #[3, 3] 3 #[t26, t32]) fun t33 =>
 opP Tryd.prog (Instr.sliceAt 9 t17 (some t21) (some t33) none) fun t34 =>
 ((oCallP Tryd.prog Tryd.n_bits_Read #[t1, t34] w1.drew (fun t35 w6 =>
 opP Tryd.prog (Instr.extract t35 0) fun t36 =>
 opP Tryd.prog (Instr.extract t35 1) fun t37 =>
 opP Tryd.prog (Instr.extract t35 2) fun t38 =>
 opW Tryd.prog w6 (Instr.alloc 65 true (.tuple #[])) fun t6 w7 =>
 Ext w6 w7 ∧
 opU Tryd.prog w7 (Instr.storeAt 65 t6 t36) fun w8 =>
 K2 [t6, t37, t38] w8) (fun c w6 => (false = true → NC w1.drew w6) ∧ Kp c w6)) ∧
 (opW Tryd.prog w1.drew (Instr.alloc 65 true (.tuple #[])) fun t6_10 w9 =>
 Ext w1.drew w9 ∧
 oCallP Tryd.prog Tryd.n_bits_Read #[t1, t34] w9 (fun t35_12 w11 =>
 opP Tryd.prog (Instr.extract t35_12 0) fun t36_13 =>
 opP Tryd.prog (Instr.extract t35_12 1) fun t37_14 =>
 opP Tryd.prog (Instr.extract t35_12 2) fun t38_15 =>
 opU Tryd.prog w11 (Instr.storeAt 65 t6_10 t36_13) fun w16 =>
 K2 [t6_10, t37_14, t38_15] w16) (fun c w11 => (false = true → NC w9 w11) ∧ Kp c w11)))) (fun s3 _d4 w5 =>
 sJoin (fun K17 =>
 opP Tryd.prog (bsem .neq 28 true (s3.getD 2 undef) (Value.int .i64 0)) fun t40 =>
 oCond t40 (oNil t0 fun t42 =>
 opP Tryd.prog (Instr.fieldAt 101 t42 1) fun t43 =>
 opQ Tryd.prog w5 (Instr.loadAt 3 t43) fun t44 =>
 opP Tryd.prog (bsem .add 3 false t44 (s3.getD 1 undef)) fun t46 =>
 oNil t0 fun t47 =>
 opP Tryd.prog (Instr.fieldAt 101 t47 1) fun t48 =>
 opU Tryd.prog w5 (Instr.storeAt 3 t48 t46) fun w21 =>
 oCallP Tryd.prog Tryd.n_cert_taker_give #[t0] w21 (fun _t50 w22 =>
 K17 [] w22) (fun c w22 => (false = true → NC w21 w22) ∧ Kp c w22)) (K17 [] w5)) (fun _s18 _d19 w20 =>
 oNil t0 fun t52 =>
 opP Tryd.prog (Instr.fieldAt 101 t52 1) fun t53 =>
 opQ Tryd.prog w20 (Instr.loadAt 3 t53) fun t54 =>
 opP Tryd.prog (bsem .add 3 false t54 t11) fun t56 =>
 oNil t0 fun t57 =>
 opP Tryd.prog (Instr.fieldAt 101 t57 1) fun t58 =>
 opU Tryd.prog w20 (Instr.storeAt 3 t58 t56) fun w23 =>
 opQ Tryd.prog w23 (Instr.loadAt 65 (s3.getD 0 undef)) fun t59 =>
 opU Tryd.prog w23 (Instr.storeAt 65 t4 t59) fun w24 =>
 opQ Tryd.prog w24 (cellSem 65 t4) fun r25 =>
 K r25 w24))
theorem Tryd.E_cert_taker_row (t0 t1 : Value) (w : World) (K : Value → World → Prop) (Kp : List PanicEntry → World → Prop) : sw ⟨false, true⟩ Tryd.prog Kp Tryd.A_cert_taker_row (bodyOf Tryd.f72) [t0, t1, undef, undef, undef, undef, undef, undef, undef, undef, undef, undef, undef, undef, undef, undef, undef, undef, undef, undef, undef, undef, undef, undef, undef, undef, undef, undef, undef, undef, undef, undef, undef, undef, undef, undef, undef, undef, undef, undef, undef, undef, undef, undef, undef, undef, undef, undef, undef, undef, undef, undef, undef, undef, undef, undef, undef, undef, undef, undef] w (topQ false Tryd.prog Tryd.f72 w K) = Tryd.F_cert_taker_row t0 t1 w K Kp := by kernel_rfl
theorem Tryd.C_cert_taker_row : chk ⟨false, true⟩ Tryd.prog false Tryd.A_cert_taker_row (bodyOf Tryd.f72) = true := by kernel_rfl
theorem Tryd.ok_cert_taker_row {t0 t1 : Value} {w : World} {K : Value → World → Prop} {Kp : List PanicEntry → World → Prop} (h : Tryd.F_cert_taker_row t0 t1 w K Kp) : oCallP Tryd.prog Tryd.n_cert_taker_row #[t0, t1] w K Kp :=
  callsP_of_sw (cf := ⟨false, true⟩) (Kp0 := Kp) (fun _ _ h => h) Tryd.mixed Tryd.func72 rfl Tryd.C_cert_taker_row ((Tryd.E_cert_taker_row t0 t1 w K Kp).mpr h)

/- 49: (*loanword/cert.taker).skip -/
def Tryd.A_cert_taker_skip : Ann := .s (.r (.op 0 .l (.nil))) (.s (.r (.op 0 .p (.op 1 .p (.op 2 .p (.op 3 .p (.nil)))))) (.j [] (.s (.r (.op 0 .p (.op 1 .p (.op 2 .p (.op 3 .q (.op 4 .p (.op 5 .p (.op 6 .p (.op 7 .p (.op 8 .p (.op 9 .q (.op 10 .p (.op 11 .p (.nil)))))))))))))) (.c (.s (.r (.op 0 .p (.op 1 .p (.op 2 .p (.op 3 .p (.op 4 .q (.op 5 .p (.op 6 .p (.op 7 .p (.op 8 .l (.nil))))))))))) (.r (.op 0 .p (.op 1 .l (.nil))))) (.n))) (.s (.r (.op 0 .p (.op 1 .p (.op 2 .p (.op 3 .q (.op 4 .p (.op 5 .p (.op 6 .p (.op 7 .p (.op 8 .l (.nil))))))))))) (.s (.r (.op 0 .p (.op 1 .l (.nil)))) (.n)))))
def Tryd.F_cert_taker_skip (t0 : Value) (t1 : Value) (w : World) (K : Value → World → Prop) (Kp : List PanicEntry → World → Prop) : Prop :=
 opW Tryd.prog w (Instr.alloc 65 true (.tuple #[])) fun t4 w1 =>
 opP Tryd.prog (bsem .add 3 true t1 (Value.int .i64 7)) fun t7 =>
 opP Tryd.prog (bsem .quo 3 true t7 (Value.int .i64 8)) fun t8 =>
 sJoin (fun K2 =>
 oNil t0 fun t10 =>
 opP Tryd.prog (Instr.fieldAt 101 t10 1) fun t11 =>
 opQ Tryd.prog w1.drew (Instr.loadAt 3 t11) fun t12 =>
 opP Tryd.prog (bsem .add 3 false t12 t8) fun t14 =>
 oNil t0 fun t16 =>
 opP Tryd.prog (Instr.fieldAt 101 t16 0) fun t17 =>
 opQ Tryd.prog w1.drew (Instr.loadAt 9 t17) fun t18 =>
 opP Tryd.prog (Builtin.len_ #[9] 3 #[t18]) fun t19 =>
 opP Tryd.prog (bsem .gtr 3 false t14 t19) fun t20 =>
 oCond t20 (oNil t0 fun t23 =>
 opP Tryd.prog (Instr.fieldAt 101 t23 0) fun t24 =>
 opQ Tryd.prog w1.drew (Instr.loadAt 9 t24) fun t25 =>
 opP Tryd.prog (Builtin.len_ #[9] 3 #[t25]) fun t26 =>
 oNil t0 fun t27 =>
 opP Tryd.prog (Instr.fieldAt 101 t27 1) fun t28 =>
 opU Tryd.prog w1.drew (Instr.storeAt 3 t28 t26) fun w6 =>
 oCallP Tryd.prog Tryd.n_cert_taker_give #[t0] w6 (fun _t30 w7 =>
 K2 [] w7) (fun c w7 => (false = true → NC w6 w7) ∧ Kp c w7)) (K2 [] w1.drew)) (fun _s3 _d4 w5 =>
 oNil t0 fun t32 =>
 opP Tryd.prog (Instr.fieldAt 101 t32 1) fun t33 =>
 opQ Tryd.prog w5 (Instr.loadAt 3 t33) fun t34 =>
 opP Tryd.prog (bsem .add 3 false t34 t8) fun t36 =>
 oNil t0 fun t37 =>
 opP Tryd.prog (Instr.fieldAt 101 t37 1) fun t38 =>
 opU Tryd.prog w5 (Instr.storeAt 3 t38 t36) fun w8 =>
 opP Tryd.prog (Instr.build 65 #[]) fun t39 =>
 opU Tryd.prog w8 (Instr.storeAt 65 t4 t39) fun w9 =>
 opQ Tryd.prog w9 (cellSem 65 t4) fun r10 =>
 K r10 w9)
theorem Tryd.E_cert_taker_skip (t0 t1 : Value) (w : World) (K : Value → World → Prop) (Kp : List PanicEntry → World → Prop) : sw ⟨false, true⟩ Tryd.prog Kp Tryd.A_cert_taker_skip (bodyOf Tryd.f49) [t0, t1, undef, undef, undef, undef, undef, undef, undef, undef, undef, undef, undef, undef, undef, undef, undef, undef, undef, undef, undef, undef, undef, undef, undef, undef, undef, undef, undef, undef, undef, undef, undef, undef, undef, undef, undef, undef, undef, undef] w (topQ false Tryd.prog Tryd.f49 w K) = Tryd.F_cert_taker_skip t0 t1 w K Kp := by kernel_rfl
theorem Tryd.C_cert_taker_skip : chk ⟨false, true⟩ Tryd.prog false Tryd.A_cert_taker_skip (bodyOf Tryd.f49) = true := by kernel_rfl
theorem Tryd.ok_cert_taker_skip {t0 t1 : Value} {w : World} {K : Value → World → Prop} {Kp : List PanicEntry → World → Prop} (h : Tryd.F_cert_taker_skip t0 t1 w K Kp) : oCallP Tryd.prog Tryd.n_cert_taker_skip #[t0, t1] w K Kp :=
  callsP_of_sw (cf := ⟨false, true⟩) (Kp0 := Kp) (fun _ _ h => h) Tryd.mixed Tryd.func49 rfl Tryd.C_cert_taker_skip ((Tryd.E_cert_taker_skip t0 t1 w K Kp).mpr h)

/- 45: (*loanword/cert.taker).fn -/
def Tryd.A_cert_taker_fn : Ann := .s (.r (.op 0 .l (.nil))) (.s (.r (.op 0 .l (.nil))) (.s (.s (.r (.op 0 .l (.op 1 .p (.nil)))) (.b (.lp [7] (.s (.r (.op 0 .p (.nil))) (.s (.c (.n) (.n)) (.s (.b (.s (.r (.op 0 .p (.op 1 .p (.op 2 .p (.op 3 .p (.nil)))))) (.r (.op 0 .p (.op 1 .p (.op 2 .l (.op 3 .p (.op 4 .p (.op 5 .p (.op 6 .p (.op 7 .l (.op 8 .p (.op 9 .p (.op 10 .p (.op 11 .p (.op 12 .p (.op 13 .l (.nil)))))))))))))))))) (.r (.op 0 .p (.op 1 .p (.nil)))))))))) (.s (.r (.op 0 .q (.op 1 .l (.nil)))) (.n))))
def Tryd.F_cert_taker_fn (t0 : Value) (w : World) (K : Value → World → Prop) (Kp : List PanicEntry → World → Prop) : Prop :=
 opW Tryd.prog w (Instr.alloc 50 true (.tuple #[])) fun t2 w1 =>
 opW Tryd.prog w1 (Instr.alloc 50 true (.tuple #[])) fun t3 w2 =>
 oCallP Tryd.prog Tryd.n_cert_lists #[t3] w2 (fun t6 w3 =>
 sLoop [(Value.int .i64 0)] w3 (fun s5 _d6 w7 K4 =>
 opP Tryd.prog (bsem .lss 3 true (s5.getD 0 undef) (Value.int .i64 3)) fun t8 =>
 oCond t8 (opP Tryd.prog (Instr.index 74 t6 (s5.getD 0 undef)) fun t10 =>
 oCallP Tryd.prog Tryd.n_cert_limits #[] w7 (fun t14 w8 =>
 opP Tryd.prog (Instr.index 80 t14 (s5.getD 0 undef)) fun t16 =>
 opP Tryd.prog (Instr.makeFunc (.func 72) #[t0] #[]) fun t18 =>
 oCallP Tryd.prog Tryd.n_cert_taker_list #[t0, t16, t18] w8 (fun t19 w9 =>
 opP Tryd.prog (Instr.extract t19 0) fun t20 =>
 opP Tryd.prog (Instr.extract t19 1) fun _t21 =>
 opP Tryd.prog (Instr.extract t19 2) fun _t22 =>
 oNil t10 fun t23 =>
 opU Tryd.prog w9 (Instr.storeAt 48 t23 t20) fun w10 =>
 opP Tryd.prog (bsem .add 3 true (s5.getD 0 undef) (Value.int .i64 1)) fun t24 =>
 K4 [t24] w10) (fun c w9 => (false = true → NC w8 w9) ∧ Kp c w9)) (fun c w8 => (false = true → NC w7 w8) ∧ Kp c w8)) (opQ Tryd.prog w7 (Instr.loadAt 50 t3) fun t25 =>
 opU Tryd.prog w7 (Instr.storeAt 50 t2 t25) fun w11 =>
 opQ Tryd.prog w11 (cellSem 50 t2) fun r12 =>
 K r12 w11))) (fun c w3 => (false = true → NC w2 w3) ∧ Kp c w3)
theorem Tryd.E_cert_taker_fn (t0 : Value) (w : World) (K : Value → World → Prop) (Kp : List PanicEntry → World → Prop) : sw ⟨false, true⟩ Tryd.prog Kp Tryd.A_cert_taker_fn (bodyOf Tryd.f45) [t0, undef, undef, undef, undef, undef, undef, undef, undef, undef, undef, undef, undef, undef, undef, undef, undef, undef, undef, undef, undef, undef, undef, undef, undef, undef] w (topQ false Tryd.prog Tryd.f45 w K) = Tryd.F_cert_taker_fn t0 w K Kp := by kernel_rfl
theorem Tryd.C_cert_taker_fn : chk ⟨false, true⟩ Tryd.prog false Tryd.A_cert_taker_fn (bodyOf Tryd.f45) = true := by kernel_rfl
theorem Tryd.ok_cert_taker_fn {t0 : Value} {w : World} {K : Value → World → Prop} {Kp : List PanicEntry → World → Prop} (h : Tryd.F_cert_taker_fn t0 w K Kp) : oCallP Tryd.prog Tryd.n_cert_taker_fn #[t0] w K Kp :=
  callsP_of_sw (cf := ⟨false, true⟩) (Kp0 := Kp) (fun _ _ h => h) Tryd.mixed Tryd.func45 rfl Tryd.C_cert_taker_fn ((Tryd.E_cert_taker_fn t0 w K Kp).mpr h)

/- 51: loanword/cert.caught -/
def Tryd.A_cert_caught : DAnn := .s (.r (.op 0 .l (.op 1 .l (.nil)))) (.d (.s (.r (.op 0 .p (.op 1 .l (.nil)))) (.s (.r (.op 0 .l (.op 1 .l (.nil)))) (.n))))
def Tryd.B_cert_caught (t0 : Value) (t2 : Value) (t3 : Value) (w : World) (Kd : FrameMode → World → Prop) : Prop :=
 oCallVP Tryd.prog t0 #[] w (fun _t6 w3 =>
 opU Tryd.prog w3 (Instr.storeAt 3 t2 (Value.int .i64 0)) fun w4 =>
 opU Tryd.prog w4 (Instr.storeAt 28 t3 (Value.int .i64 0)) fun w5 =>
 Kd .returning w5) (fun c w3 => (false = true → NC w w3) ∧ Kd (.panicking c) w3)
def Tryd.F_cert_caught (t0 : Value) (w : World) (K : Value → World → Prop) (Kp : List PanicEntry → World → Prop) : Prop :=
 opW Tryd.prog w (Instr.alloc 3 true (.tuple #[])) fun t2 w1 =>
 opW Tryd.prog w1 (Instr.alloc 28 true (.tuple #[])) fun t3 w2 =>
 Tryd.B_cert_caught t0 t2 t3 w2 fun u w => oDef Tryd.prog Tryd.n_cert_caught_1 #[t2, t3] u w (fun u w => eEnd (fun w => opQ Tryd.prog w (cellSem 3 t2) fun r6 => opQ Tryd.prog w (cellSem 28 t3) fun r7 => K (.tuple #[r6, r7]) w) Kp (settle u) w) (fun c u w => eEnd (fun w => opQ Tryd.prog w (cellSem 3 t2) fun r6 => opQ Tryd.prog w (cellSem 28 t3) fun r7 => K (.tuple #[r6, r7]) w) Kp (raised u c) w)
theorem Tryd.E_cert_caught (t0 : Value) (w : World) (K : Value → World → Prop) (Kp : List PanicEntry → World → Prop) : swD Tryd.prog Tryd.f51 K Kp Tryd.A_cert_caught (bodyOf Tryd.f51) [t0, undef, undef, undef, undef, undef, undef] w = Tryd.F_cert_caught t0 w K Kp := by kernel_rfl
theorem Tryd.C_cert_caught : chkD Tryd.prog Tryd.f51 Tryd.A_cert_caught (bodyOf Tryd.f51) = true := by kernel_rfl
theorem Tryd.ok_cert_caught {t0 : Value} {w : World} {K : Value → World → Prop} (h : Tryd.F_cert_caught t0 w K fun _ _ => False) : oCall Tryd.prog Tryd.n_cert_caught #[t0] w K :=
  calls_of_swD Tryd.mixed Tryd.func51 rfl Tryd.C_cert_caught ((Tryd.E_cert_caught t0 w K _).mpr h)
theorem Tryd.okP_cert_caught {t0 : Value} {w : World} {K : Value → World → Prop} {Kp : List PanicEntry → World → Prop} (h : Tryd.F_cert_caught t0 w K Kp) : oCallP Tryd.prog Tryd.n_cert_caught #[t0] w K Kp :=
  callsP_of_swD Tryd.mixed Tryd.func51 rfl Tryd.C_cert_caught ((Tryd.E_cert_caught t0 w K Kp).mpr h)

/- 76: loanword/cert.caught$1 -/
def Tryd.A_cert_caught_1 : Ann := .b (.s (.r (.op 0 .q (.nil))) (.c (.r (.op 0 .p (.nil))) (.s (.r (.op 0 .p (.op 1 .p (.op 2 .p (.nil))))) (.c (.s (.r (.op 0 .l (.op 1 .l (.nil)))) (.r (.op 0 .p (.op 1 .q (.op 2 .l (.op 3 .l (.nil))))))) (.s (.r (.op 0 .p (.nil))) (.r (.op 0 .p (.op 1 .l (.nil)))))))))
def Tryd.F_cert_caught_1 (t0 : Value) (t1 : Value) (tr : Value) (w : World) (R : World → Prop) (Kp : List PanicEntry → World → Prop) : Prop :=
 opQ Tryd.prog w (bsem .eql 20 true tr Value.nilIface) fun t7 =>
 oCond t7 (R w) (opP Tryd.prog (Instr.typeAssert tr 20 125 true) fun t8 =>
 opP Tryd.prog (Instr.extract t8 1) fun t9 =>
 opP Tryd.prog (Instr.extract t8 0) fun t10 =>
 oCond t9 (opW Tryd.prog w (Instr.alloc 125 true (.tuple #[])) fun t3 w1 =>
 opU Tryd.prog w1 (Instr.storeAt 125 t3 t10) fun w2 =>
 opP Tryd.prog (Instr.fieldAt 125 t3 0) fun t11 =>
 opQ Tryd.prog w2 (Instr.loadAt 3 t11) fun t12 =>
 opU Tryd.prog w2 (Instr.storeAt 3 t0 t12) fun w3 =>
 opU Tryd.prog w3 (Instr.storeAt 28 t1 (Value.int .i64 200)) fun w4 =>
 R w4) (∃ v w5, (Instr.panic tr).run Tryd.prog w = .halt (.panic v) w5 ∧ (false = true → NC w w5) ∧ Kp [{ v, recovered := false }] w5))
theorem Tryd.E_cert_caught_1 (t0 t1 : Value) (tr : Value) (w : World) (R : World → Prop) (Kp : List PanicEntry → World → Prop) : sw ⟨false, true⟩ Tryd.prog Kp Tryd.A_cert_caught_1 (codeTail (bodyOf Tryd.f76)) (st [t0, t1, undef, undef, undef, undef, undef, undef, undef, undef, undef, undef, undef] (some 5) tr) w (fun
  | .normal, _, w' => R w'
  | .ret, _, w' => R w'
  | _, _, _ => False) = Tryd.F_cert_caught_1 t0 t1 tr w R Kp := by kernel_rfl
theorem Tryd.C_cert_caught_1 : chk ⟨false, true⟩ Tryd.prog false Tryd.A_cert_caught_1 (codeTail (bodyOf Tryd.f76)) = true := by kernel_rfl
theorem Tryd.ok_cert_caught_1 {t0 t1 : Value} {u : FrameMode} {w : World} {R : FrameMode → World → Prop} {Rp : List PanicEntry → FrameMode → World → Prop} (h : Tryd.F_cert_caught_1 t0 t1 (recov u).1 w (R (recov u).2) fun c w' => Rp c (recov u).2 w') : oDef Tryd.prog Tryd.n_cert_caught_1 #[t0, t1] u w R Rp :=
  oDef_of (pan := true) Tryd.mixed Tryd.func76 rfl (by kernel_rfl) rfl Tryd.C_cert_caught_1 ((Tryd.E_cert_caught_1 t0 t1 _ w _ _).mpr h)

/- 43: loanword/cert.whole -/
def Tryd.A_cert_whole : Ann := .s (.r (.op 0 .l (.op 1 .l (.op 2 .p (.op 3 .p (.nil)))))) (.s (.s (.r (.op 0 .q (.op 1 .p (.op 2 .p (.nil))))) (.c (.s (.r (.op 0 .p (.op 1 .p (.nil)))) (.n)) (.n))) (.s (.r (.op 0 .p (.op 1 .l (.op 2 .p (.op 3 .p (.op 4 .p (.op 5 .p (.nil)))))))) (.n)))
def Tryd.F_cert_whole (t0 : Value) (t1 : Value) (w : World) (K : Value → World → Prop) : Prop :=
 opW Tryd.prog w (Instr.box 9 t0) fun t2 w1 =>
 opW Tryd.prog w1 (Instr.box 88 t1) fun t3 w2 =>
 opQ Tryd.prog w2 (Instr.loadAt 9 t2) fun t6 =>
 opP Tryd.prog (Builtin.len_ #[9] 3 #[t6]) fun t7 =>
 opP Tryd.prog (bsem .gtr 3 true t7 (Value.int .i64 8388608)) fun t8 =>
 oCond t8 (K (.tuple #[(Value.int .i64 0), (Value.int .i64 3)]) w2) (opP Tryd.prog (Instr.makeFunc (.func 69) #[] #[t2, t3]) fun t9 =>
 oCall Tryd.prog Tryd.n_cert_caught #[t9] w2 fun t10 w3 =>
 opP Tryd.prog (Instr.extract t10 0) fun t11 =>
 opP Tryd.prog (Instr.extract t10 1) fun t12 =>
 K (.tuple #[t11, t12]) w3)
theorem Tryd.E_cert_whole (t0 t1 : Value) (w : World) (K : Value → World → Prop) : sw ⟨false, false⟩ Tryd.prog (fun _ _ => False) Tryd.A_cert_whole (bodyOf Tryd.f43) [t0, t1, undef, undef, undef, undef, undef, undef, undef, undef, undef, undef, undef] w (topQ false Tryd.prog Tryd.f43 w K) = Tryd.F_cert_whole t0 t1 w K := by kernel_rfl
theorem Tryd.C_cert_whole : chk ⟨false, false⟩ Tryd.prog false Tryd.A_cert_whole (bodyOf Tryd.f43) = true := by kernel_rfl
theorem Tryd.ok_cert_whole {t0 t1 : Value} {w : World} {K : Value → World → Prop} (h : Tryd.F_cert_whole t0 t1 w K) : oCall Tryd.prog Tryd.n_cert_whole #[t0, t1] w K :=
  calls_of_sw (cf := ⟨false, false⟩) Tryd.mixed Tryd.func43 rfl Tryd.C_cert_whole ((Tryd.E_cert_whole t0 t1 w K).mpr h)

/- 69: loanword/cert.whole$1 -/
def Tryd.A_cert_whole_1 : Ann := .s (.r (.op 0 .q (.op 1 .p (.op 2 .l (.op 3 .p (.nil)))))) (.s (.s (.r (.op 0 .l (.op 1 .p (.op 2 .p (.nil))))) (.b (.lp [9] (.s (.r (.op 0 .p (.nil))) (.s (.c (.n) (.n)) (.s (.b (.s (.r (.op 0 .p (.op 1 .p (.nil)))) (.r (.op 0 .p (.op 2 .p (.op 6 .p (.op 1 .l (.op 3 .p (.op 4 .p (.op 5 .l (.op 7 .p (.op 8 .p (.op 9 .l (.nil)))))))))))))) (.r (.op 0 .p (.op 1 .p (.nil)))))))))) (.s (.s (.r (.op 0 .p (.op 1 .l (.op 2 .p (.nil))))) (.b (.lp [25] (.s (.r (.op 0 .p (.nil))) (.s (.c (.n) (.n)) (.s (.b (.r (.op 0 .q (.op 1 .p (.op 2 .l (.nil)))))) (.r (.op 0 .p (.op 1 .p (.nil)))))))))) (.s (.r (.op 0 .p (.op 1 .p (.op 2 .p (.op 3 .q (.op 4 .q (.op 5 .p (.op 6 .p (.nil))))))))) (.c (.r (.op 0 .p (.op 1 .l (.nil)))) (.n)))))
def Tryd.F_cert_whole_1 (t0 : Value) (t1 : Value) (w : World) (K : Value → World → Prop) (Kp : List PanicEntry → World → Prop) : Prop :=
 opQ Tryd.prog w (Instr.loadAt 9 t0) fun t4 =>
 opP Tryd.prog (Instr.build 101 #[(0, t4)]) fun t5 =>
 opW Tryd.prog w (Instr.box 101 t5) fun t6 w1 =>
 oCallP Tryd.prog Tryd.n_cert_mark #[] w1 (fun t7 w2 =>
 opP Tryd.prog (Builtin.len_ #[9] 3 #[t7]) fun t8 =>
 sLoop [(Value.int .i64 0)] w2 (fun s4 _d5 w6 K3 =>
 opP Tryd.prog (bsem .lss 3 false (s4.getD 0 undef) t8) fun t10 =>
 oCond t10 (oCallP Tryd.prog Tryd.n_cert_mark #[] w6.drew (fun t13 w7 =>
 opP Tryd.prog (Instr.index 9 t13 (s4.getD 0 undef)) fun t15 =>
 opP Tryd.prog (convert 5 3 t15) fun t16 =>
 oCallP Tryd.prog Tryd.n_cert_mark #[] w7 (fun t17 w8 =>
 opP Tryd.prog (Instr.index 9 t17 (s4.getD 0 undef)) fun t19 =>
 opP Tryd.prog (convert 5 3 t19) fun t20 =>
 oCallP Tryd.prog Tryd.n_cert_taker_one #[t6, t16, t20] w8 (fun _t21 w9 =>
 opP Tryd.prog (bsem .add 3 true (s4.getD 0 undef) (Value.int .i64 1)) fun t22 =>
 K3 [t22] w9) (fun c w9 => (false = true → NC w8 w9) ∧ Kp c w9)) (fun c w8 => (false = true → NC w7 w8) ∧ Kp c w8)) (fun c w7 => (false = true → NC w6.drew w7) ∧ Kp c w7)) (oCallP Tryd.prog Tryd.n_cert_taker_one #[t6, (Value.int .i64 1), (Value.int .i64 32)] w6 (fun t24 w10 =>
 sLoop [(Value.int .i64 0)] w10 (fun s12 _d13 w14 K11 =>
 opP Tryd.prog (bsem .lss 3 false (s12.getD 0 undef) t24) fun t26 =>
 oCond t26 (opQ Tryd.prog w14 (Instr.loadAt 88 t1) fun t27 =>
 oCallVP Tryd.prog t27 #[t6] w14 (fun _t29 w15 =>
 opP Tryd.prog (bsem .add 3 true (s12.getD 0 undef) (Value.int .i64 1)) fun t30 =>
 K11 [t30] w15) (fun c w15 => (false = true → NC w14 w15) ∧ Kp c w15)) (oNil t6 fun t32 =>
 opP Tryd.prog (Instr.fieldAt 101 t32 1) fun t33 =>
 opQ Tryd.prog w14.drew (Instr.loadAt 3 t33) fun t34 =>
 opQ Tryd.prog w14.drew (Instr.loadAt 9 t0) fun t35 =>
 opP Tryd.prog (Builtin.len_ #[9] 3 #[t35]) fun t36 =>
 opP Tryd.prog (bsem .lss 3 false t34 t36) fun t37 =>
 oCond t37 (oCallP Tryd.prog Tryd.n_cert_taker_give #[t6] w14.drew (fun _t39 w16 =>
 K (.tuple #[]) w16) (fun c w16 => (false = true → NC w14.drew w16) ∧ Kp c w16)) (K (.tuple #[]) w14.drew)))) (fun c w10 => (false = true → NC w6 w10) ∧ Kp c w10)))) (fun c w2 => (false = true → NC w1 w2) ∧ Kp c w2)
theorem Tryd.E_cert_whole_1 (t0 t1 : Value) (w : World) (K : Value → World → Prop) (Kp : List PanicEntry → World → Prop) : sw ⟨false, true⟩ Tryd.prog Kp Tryd.A_cert_whole_1 (bodyOf Tryd.f69) [t0, t1, undef, undef, undef, undef, undef, undef, undef, undef, undef, undef, undef, undef, undef, undef, undef, undef, undef, undef, undef, undef, undef, undef, undef, undef, undef, undef, undef, undef, undef, undef, undef, undef, undef, undef, undef, undef, undef, undef] w (topQ false Tryd.prog Tryd.f69 w K) = Tryd.F_cert_whole_1 t0 t1 w K Kp := by kernel_rfl
theorem Tryd.C_cert_whole_1 : chk ⟨false, true⟩ Tryd.prog false Tryd.A_cert_whole_1 (bodyOf Tryd.f69) = true := by kernel_rfl
theorem Tryd.ok_cert_whole_1 {t0 t1 : Value} {w : World} {K : Value → World → Prop} {Kp : List PanicEntry → World → Prop} (h : Tryd.F_cert_whole_1 t0 t1 w K Kp) : oCallP Tryd.prog Tryd.n_cert_whole_1 #[t0, t1] w K Kp :=
  callsP_of_sw (cf := ⟨false, true⟩) (Kp0 := Kp) (fun _ _ h => h) Tryd.mixed Tryd.func69 rfl Tryd.C_cert_whole_1 ((Tryd.E_cert_whole_1 t0 t1 w K Kp).mpr h)

/- 21: loanword/cert.Read -/
def Tryd.A_cert_Read : Ann := .s (.r (.op 0 .l (.op 1 .p (.op 2 .p (.nil))))) (.s (.r (.op 0 .p (.op 1 .p (.op 2 .l (.op 3 .p (.op 4 .p (.op 5 .p (.op 6 .p (.op 7 .p (.nil)))))))))) (.s (.s (.r (.op 0 .p (.op 1 .p (.nil)))) (.c (.s (.r (.op 0 .p (.op 1 .p (.op 2 .p (.op 3 .l (.op 4 .p (.op 5 .p (.nil)))))))) (.n)) (.n))) (.s (.r (.op 0 .q (.op 1 .p (.op 2 .l (.op 3 .p (.op 4 .p (.nil))))))) (.n))))
def Tryd.F_cert_Read (t0 : Value) (w : World) (K : Value → World → Prop) : Prop :=
 opW Tryd.prog w (Instr.alloc 24 true (.tuple #[])) fun t2 w1 =>
 opP Tryd.prog (Instr.makeFunc (.func 44) #[] #[t2]) fun t7 =>
 oCall Tryd.prog Tryd.n_cert_whole #[t0, t7] w1 fun t8 w2 =>
 opP Tryd.prog (Instr.extract t8 0) fun t9 =>
 opP Tryd.prog (Instr.extract t8 1) fun t10 =>
 opP Tryd.prog (bsem .neq 28 true t10 (Value.int .i64 0)) fun t12 =>
 oCond t12 (opP Tryd.prog (Instr.build 24 #[]) fun t13 =>
 opU Tryd.prog w2 (Instr.storeAt 24 t2 t13) fun w3 =>
 opQ Tryd.prog w3 (cellSem 24 t2) fun r4 =>
 K (.tuple #[r4, t9, t10]) w3) (opQ Tryd.prog w2 (Instr.loadAt 24 t2) fun t16 =>
 opU Tryd.prog w2 (Instr.storeAt 24 t2 t16) fun w5 =>
 opQ Tryd.prog w5 (cellSem 24 t2) fun r6 =>
 K (.tuple #[r6, (Value.int .i64 0), t10]) w5)
theorem Tryd.E_cert_Read (t0 : Value) (w : World) (K : Value → World → Prop) : sw ⟨false, false⟩ Tryd.prog (fun _ _ => False) Tryd.A_cert_Read (bodyOf Tryd.f21) [t0, undef, undef, undef, undef, undef, undef, undef, undef, undef, undef, undef, undef, undef, undef, undef, undef, undef] w (topQ false Tryd.prog Tryd.f21 w K) = Tryd.F_cert_Read t0 w K := by kernel_rfl
theorem Tryd.C_cert_Read : chk ⟨false, false⟩ Tryd.prog false Tryd.A_cert_Read (bodyOf Tryd.f21) = true := by kernel_rfl
theorem Tryd.ok_cert_Read {t0 : Value} {w : World} {K : Value → World → Prop} (h : Tryd.F_cert_Read t0 w K) : oCall Tryd.prog Tryd.n_cert_Read #[t0] w K :=
  calls_of_sw (cf := ⟨false, false⟩) Tryd.mixed Tryd.func21 rfl Tryd.C_cert_Read ((Tryd.E_cert_Read t0 w K).mpr h)

/- 44: loanword/cert.Read$1 -/
def Tryd.A_cert_Read_1 : Ann := .r (.op 0 .p (.op 2 .p (.alt 1 .l (.op 3 .l (.op 4 .l (.op 5 .l (.op 6 .p (.op 7 .l (.nil)))))) (.op 3 .l (.alt 1 .l (.op 4 .l (.op 5 .l (.op 6 .p (.op 7 .l (.nil))))) (.op 4 .l (.op 1 .l (.op 5 .l (.op 6 .p (.op 7 .l (.nil)))))))))))
def Tryd.F_cert_Read_1 (t0 : Value) (t1 : Value) (w : World) (K : Value → World → Prop) (Kp : List PanicEntry → World → Prop) : Prop :=
 opP Tryd.prog (Instr.fieldAt 24 t1 0) fun t3 =>
 ((opW Tryd.prog w.drew (Instr.loadAt 22 t3) fun t4 w1 =>
 oCallP Tryd.prog Tryd.n_cert_taker_fn #[t0] w1 (fun t6 w2 =>
 opW Tryd.prog w2 (Instr.buildSlice 22 1 #[(0, t6)]) fun t7 w3 =>
 opW Tryd.prog w3 (Builtin.append_ #[22, 22] 22 #[t4, t7]) fun t8 w4 =>
 opP Tryd.prog (Instr.fieldAt 24 t1 0) fun t9 =>
 opU Tryd.prog w4 (Instr.storeAt 22 t9 t8) fun w5 =>
 K (.tuple #[]) w5) (fun c w2 => (false = true → NC w1 w2) ∧ Kp c w2)) ∧
 (oCallP Tryd.prog Tryd.n_cert_taker_fn #[t0] w.drew (fun t6_7 w6 =>
 ((opW Tryd.prog w6 (Instr.loadAt 22 t3) fun t4_9 w8 =>
 opW Tryd.prog w8 (Instr.buildSlice 22 1 #[(0, t6_7)]) fun t7_11 w10 =>
 opW Tryd.prog w10 (Builtin.append_ #[22, 22] 22 #[t4_9, t7_11]) fun t8_13 w12 =>
 opP Tryd.prog (Instr.fieldAt 24 t1 0) fun t9_14 =>
 opU Tryd.prog w12 (Instr.storeAt 22 t9_14 t8_13) fun w15 =>
 K (.tuple #[]) w15) ∧
 (opW Tryd.prog w6 (Instr.buildSlice 22 1 #[(0, t6_7)]) fun t7_17 w16 =>
 opW Tryd.prog w16 (Instr.loadAt 22 t3) fun t4_19 w18 =>
 opW Tryd.prog w18 (Builtin.append_ #[22, 22] 22 #[t4_19, t7_17]) fun t8_21 w20 =>
 opP Tryd.prog (Instr.fieldAt 24 t1 0) fun t9_22 =>
 opU Tryd.prog w20 (Instr.storeAt 22 t9_22 t8_21) fun w23 =>
 K (.tuple #[]) w23))) (fun c w6 => (false = true → NC w.drew w6) ∧ Kp c w6)))
theorem Tryd.E_cert_Read_1 (t0 t1 : Value) (w : World) (K : Value → World → Prop) (Kp : List PanicEntry → World → Prop) : sw ⟨false, true⟩ Tryd.prog Kp Tryd.A_cert_Read_1 (bodyOf Tryd.f44) [t0, t1, undef, undef, undef, undef, undef, undef, undef, undef] w (topQ false Tryd.prog Tryd.f44 w K) = Tryd.F_cert_Read_1 t0 t1 w K Kp := by kernel_rfl
theorem Tryd.C_cert_Read_1 : chk ⟨false, true⟩ Tryd.prog false Tryd.A_cert_Read_1 (bodyOf Tryd.f44) = true := by kernel_rfl
theorem Tryd.ok_cert_Read_1 {t0 t1 : Value} {w : World} {K : Value → World → Prop} {Kp : List PanicEntry → World → Prop} (h : Tryd.F_cert_Read_1 t0 t1 w K Kp) : oCallP Tryd.prog Tryd.n_cert_Read_1 #[t0, t1] w K Kp :=
  callsP_of_sw (cf := ⟨false, true⟩) (Kp0 := Kp) (fun _ _ h => h) Tryd.mixed Tryd.func44 rfl Tryd.C_cert_Read_1 ((Tryd.E_cert_Read_1 t0 t1 w K Kp).mpr h)

/- 23: loanword/cert.Heads -/
def Tryd.A_cert_Heads : Ann := .s (.r (.op 0 .l (.op 1 .p (.op 2 .p (.nil))))) (.s (.r (.op 0 .p (.op 1 .p (.op 2 .l (.op 3 .p (.op 4 .p (.op 5 .p (.op 6 .p (.op 7 .p (.nil)))))))))) (.s (.s (.r (.op 0 .p (.op 1 .p (.nil)))) (.c (.s (.r (.op 0 .p (.op 1 .p (.op 2 .l (.op 3 .p (.op 4 .p (.nil))))))) (.n)) (.n))) (.s (.r (.op 0 .q (.op 1 .p (.op 2 .l (.op 3 .p (.op 4 .p (.nil))))))) (.n))))
def Tryd.F_cert_Heads (t0 : Value) (w : World) (K : Value → World → Prop) : Prop :=
 opW Tryd.prog w (Instr.alloc 43 true (.tuple #[])) fun t2 w1 =>
 opP Tryd.prog (Instr.makeFunc (.func 47) #[] #[t2]) fun t7 =>
 oCall Tryd.prog Tryd.n_cert_whole #[t0, t7] w1 fun t8 w2 =>
 opP Tryd.prog (Instr.extract t8 0) fun t9 =>
 opP Tryd.prog (Instr.extract t8 1) fun t10 =>
 opP Tryd.prog (bsem .neq 28 true t10 (Value.int .i64 0)) fun t12 =>
 oCond t12 (opU Tryd.prog w2 (Instr.storeAt 43 t2 (Value.slice Option.none 0 0)) fun w3 =>
 opQ Tryd.prog w3 (cellSem 43 t2) fun r4 =>
 K (.tuple #[r4, t9, t10]) w3) (opQ Tryd.prog w2 (Instr.loadAt 43 t2) fun t15 =>
 opU Tryd.prog w2 (Instr.storeAt 43 t2 t15) fun w5 =>
 opQ Tryd.prog w5 (cellSem 43 t2) fun r6 =>
 K (.tuple #[r6, (Value.int .i64 0), t10]) w5)
theorem Tryd.E_cert_Heads (t0 : Value) (w : World) (K : Value → World → Prop) : sw ⟨false, false⟩ Tryd.prog (fun _ _ => False) Tryd.A_cert_Heads (bodyOf Tryd.f23) [t0, undef, undef, undef, undef, undef, undef, undef, undef, undef, undef, undef, undef, undef, undef, undef, undef] w (topQ false Tryd.prog Tryd.f23 w K) = Tryd.F_cert_Heads t0 w K := by kernel_rfl
theorem Tryd.C_cert_Heads : chk ⟨false, false⟩ Tryd.prog false Tryd.A_cert_Heads (bodyOf Tryd.f23) = true := by kernel_rfl
theorem Tryd.ok_cert_Heads {t0 : Value} {w : World} {K : Value → World → Prop} (h : Tryd.F_cert_Heads t0 w K) : oCall Tryd.prog Tryd.n_cert_Heads #[t0] w K :=
  calls_of_sw (cf := ⟨false, false⟩) Tryd.mixed Tryd.func23 rfl Tryd.C_cert_Heads ((Tryd.E_cert_Heads t0 w K).mpr h)

/- 47: loanword/cert.Heads$1 -/
def Tryd.A_cert_Heads_1 : Ann := .s (.r (.op 0 .l (.nil))) (.s (.s (.r (.op 0 .p (.op 1 .p (.op 2 .p (.op 3 .p (.op 4 .p (.op 5 .p (.op 6 .p (.op 7 .p (.op 8 .p (.op 9 .p (.op 10 .p (.nil))))))))))))) (.b (.lp [19] (.s (.r (.op 0 .p (.nil))) (.s (.c (.n) (.n)) (.j [] (.b (.s (.r (.op 0 .p (.op 1 .p (.op 2 .l (.op 3 .p (.op 4 .l (.nil))))))) (.s (.r (.op 0 .p (.op 1 .l (.op 2 .p (.op 3 .p (.op 4 .p (.op 5 .p (.op 6 .l (.op 7 .p (.op 8 .p (.op 9 .p (.op 10 .p (.op 11 .p (.op 12 .p (.op 13 .p (.nil)))))))))))))))) (.j [] (.r (.op 0 .p (.op 1 .q (.op 2 .p (.op 4 .p (.op 5 .p (.op 6 .p (.op 7 .p (.alt 3 .u (.op 8 .l (.op 9 .p (.op 10 .l (.nil)))) (.op 8 .l (.op 3 .u (.op 9 .p (.op 10 .l (.nil)))))))))))))) (.s (.r (.op 0 .p (.op 1 .p (.nil)))) (.c (.r (.op 0 .p (.op 1 .p (.op 2 .l (.nil))))) (.n))))))) (.r (.op 0 .p (.op 1 .p (.nil)))))))))) (.r (.op 0 .q (.op 1 .q (.op 2 .l (.op 3 .l (.op 4 .l (.nil))))))))
def Tryd.F_cert_Heads_1 (t0 : Value) (t1 : Value) (w : World) (K : Value → World → Prop) (Kp : List PanicEntry → World → Prop) : Prop :=
 opW Tryd.prog w (Instr.alloc 38 true (.tuple #[])) fun t3 w1 =>
 opP Tryd.prog (Instr.fieldAt 38 t3 0) fun t9 =>
 opP Tryd.prog (Instr.fieldAt 38 t3 1) fun t10 =>
 opP Tryd.prog (Instr.build 92 #[(0, t9), (1, t10)]) fun t11 =>
 opP Tryd.prog (Instr.fieldAt 38 t3 2) fun t12 =>
 opP Tryd.prog (Instr.fieldAt 38 t3 3) fun t13 =>
 opP Tryd.prog (Instr.build 92 #[(0, t12), (1, t13)]) fun t14 =>
 opP Tryd.prog (Instr.fieldAt 38 t3 4) fun t15 =>
 opP Tryd.prog (Instr.fieldAt 38 t3 5) fun t16 =>
 opP Tryd.prog (Instr.build 92 #[(0, t15), (1, t16)]) fun t17 =>
 opP Tryd.prog (Instr.build 93 #[(0, t11), (1, t14), (2, t17)]) fun t18 =>
 sLoop [(Value.int .i64 0)] w1 (fun s3 _d4 w5 K2 =>
 opP Tryd.prog (bsem .lss 3 true (s3.getD 0 undef) (Value.int .i64 3)) fun t20 =>
 oCond t20 (sJoin (fun K6 =>
 opP Tryd.prog (Instr.index 93 t18 (s3.getD 0 undef)) fun t22 =>
 opW Tryd.prog w5 (Instr.alloc 92 true (.tuple #[])) fun t5 w10 =>
 opU Tryd.prog w10 (Instr.storeAt 92 t5 t22) fun w11 =>
 oCallP Tryd.prog Tryd.n_cert_limits #[] w11 (fun t25 w12 =>
 opP Tryd.prog (Instr.index 80 t25 (s3.getD 0 undef)) fun t27 =>
 opP Tryd.prog (Instr.makeFunc (.func 49) #[t0] #[]) fun t29 =>
 oCallP Tryd.prog Tryd.n_cert_taker_list #[t0, t27, t29] w12 (fun t30 w13 =>
 opP Tryd.prog (Instr.extract t30 0) fun t31 =>
 opP Tryd.prog (Instr.extract t30 1) fun t32 =>
 opP Tryd.prog (Instr.extract t30 2) fun t33 =>
 sJoin (fun K14 =>
 opP Tryd.prog (Instr.indexAt 92 t5 (Value.int .i64 0)) fun t34 =>
 opQ Tryd.prog w13.drew (Instr.loadAt 91 t34) fun t35 =>
 opP Tryd.prog (Instr.indexAt 92 t5 (Value.int .i64 1)) fun t36 =>
 opP Tryd.prog (Builtin.len_ #[48] 3 #[t31]) fun t39 =>
 oNil t35 fun t41 =>
 ((opW Tryd.prog w13.drew (Instr.loadAt 91 t36) fun t37 w18 =>
 Ext w13.drew w18 ∧
 opU Tryd.prog w18 (Instr.storeAt 3 t41 t39) fun w19 =>
 oNil t37 fun t42 =>
 opU Tryd.prog w19 (Instr.storeAt 3 t42 t32) fun w20 =>
 K14 [] w20) ∧
 (opU Tryd.prog w13.drew (Instr.storeAt 3 t41 t39) fun w21 =>
 opW Tryd.prog w21 (Instr.loadAt 91 t36) fun t37_23 w22 =>
 Ext w21 w22 ∧
 oNil t37_23 fun t42_24 =>
 opU Tryd.prog w22 (Instr.storeAt 3 t42_24 t32) fun w25 =>
 K14 [] w25))) (fun _s15 _d16 w17 =>
 opP Tryd.prog (bsem .eql 3 true (s3.getD 0 undef) (Value.int .i64 0)) fun t44 =>
 oCond t44 (opP Tryd.prog (Instr.fieldAt 38 t3 6) fun t46 =>
 opU Tryd.prog w17 (Instr.storeAt 3 t46 t33) fun w26 =>
 K6 [] w26) (K6 [] w17))) (fun c w13 => (false = true → NC w12 w13) ∧ Kp c w13)) (fun c w12 => (false = true → NC w11 w12) ∧ Kp c w12)) (fun _s7 _d8 w9 =>
 opP Tryd.prog (bsem .add 3 true (s3.getD 0 undef) (Value.int .i64 1)) fun t47 =>
 K2 [t47] w9)) (opQ Tryd.prog w5 (Instr.loadAt 43 t1) fun t48 =>
 opQ Tryd.prog w5 (Instr.loadAt 38 t3) fun t49 =>
 opW Tryd.prog w5 (Instr.buildSlice 43 1 #[(0, t49)]) fun t50 w27 =>
 opW Tryd.prog w27 (Builtin.append_ #[43, 43] 43 #[t48, t50]) fun t51 w28 =>
 opU Tryd.prog w28 (Instr.storeAt 43 t1 t51) fun w29 =>
 K (.tuple #[]) w29))
theorem Tryd.E_cert_Heads_1 (t0 t1 : Value) (w : World) (K : Value → World → Prop) (Kp : List PanicEntry → World → Prop) : sw ⟨false, true⟩ Tryd.prog Kp Tryd.A_cert_Heads_1 (bodyOf Tryd.f47) [t0, t1, undef, undef, undef, undef, undef, undef, undef, undef, undef, undef, undef, undef, undef, undef, undef, undef, undef, undef, undef, undef, undef, undef, undef, undef, undef, undef, undef, undef, undef, undef, undef, undef, undef, undef, undef, undef, undef, undef, undef, undef, undef, undef, undef, undef, undef, undef, undef, undef, undef, undef] w (topQ false Tryd.prog Tryd.f47 w K) = Tryd.F_cert_Heads_1 t0 t1 w K Kp := by kernel_rfl
theorem Tryd.C_cert_Heads_1 : chk ⟨false, true⟩ Tryd.prog false Tryd.A_cert_Heads_1 (bodyOf Tryd.f47) = true := by kernel_rfl
theorem Tryd.ok_cert_Heads_1 {t0 t1 : Value} {w : World} {K : Value → World → Prop} {Kp : List PanicEntry → World → Prop} (h : Tryd.F_cert_Heads_1 t0 t1 w K Kp) : oCallP Tryd.prog Tryd.n_cert_Heads_1 #[t0, t1] w K Kp :=
  callsP_of_sw (cf := ⟨false, true⟩) (Kp0 := Kp) (fun _ _ h => h) Tryd.mixed Tryd.func47 rfl Tryd.C_cert_Heads_1 ((Tryd.E_cert_Heads_1 t0 t1 w K Kp).mpr h)

/- 25: loanword/cert.Fn -/
def Tryd.A_cert_Fn : Ann := .s (.r (.op 0 .l (.op 1 .l (.op 2 .l (.op 3 .p (.op 4 .p (.nil))))))) (.s (.r (.op 0 .q (.op 1 .l (.op 2 .p (.op 3 .p (.op 4 .p (.op 5 .p (.op 6 .p (.op 7 .p (.op 8 .p (.nil))))))))))) (.s (.b (.s (.r (.op 0 .p (.op 1 .p (.op 2 .p (.nil))))) (.c (.s (.r (.op 0 .q (.op 1 .p (.op 2 .l (.op 3 .p (.op 4 .p (.nil))))))) (.n)) (.s (.r (.op 0 .p (.op 1 .q (.op 2 .l (.op 3 .p (.op 4 .p (.nil))))))) (.c (.s (.r (.op 0 .q (.op 1 .l (.op 2 .p (.op 3 .p (.nil)))))) (.n)) (.n)))))) (.s (.r (.op 0 .p (.op 1 .l (.op 2 .p (.op 3 .p (.op 4 .p (.op 5 .p (.op 6 .p (.nil))))))))) (.s (.s (.r (.op 0 .p (.op 1 .p (.nil)))) (.c (.s (.r (.op 0 .p (.op 1 .p (.op 2 .p (.op 3 .l (.op 4 .p (.op 5 .p (.nil)))))))) (.n)) (.n))) (.s (.r (.op 0 .q (.op 1 .p (.op 2 .l (.op 3 .p (.op 4 .p (.nil))))))) (.n))))))
def Tryd.F_cert_Fn (t0 : Value) (t1 : Value) (w : World) (K : Value → World → Prop) : Prop :=
 opW Tryd.prog w (Instr.box 9 t0) fun t2 w1 =>
 opW Tryd.prog w1 (Instr.box 38 t1) fun t3 w2 =>
 opW Tryd.prog w2 (Instr.alloc 50 true (.tuple #[])) fun t4 w3 =>
 opQ Tryd.prog w3 (Instr.loadAt 9 t2) fun t10 =>
 oCall Tryd.prog Tryd.n_cert_Heads #[t10] w3 fun t11 w4 =>
 opP Tryd.prog (Instr.extract t11 0) fun t12 =>
 opP Tryd.prog (Instr.extract t11 1) fun _t13 =>
 opP Tryd.prog (Instr.extract t11 2) fun t14 =>
 opP Tryd.prog (bsem .eql 28 true t14 (Value.int .i64 3)) fun t17 =>
 oCond t17 (opQ Tryd.prog w4 (Instr.loadAt 50 t4) fun t18 =>
 opU Tryd.prog w4 (Instr.storeAt 50 t4 t18) fun w5 =>
 opQ Tryd.prog w5 (cellSem 50 t4) fun r6 =>
 K (.tuple #[r6, (Value.int .i64 0), t14]) w5) (opQ Tryd.prog w4 (Instr.loadAt 38 t3) fun t22 =>
 oCall Tryd.prog Tryd.n_slices_Contains_api_CertHead_api_CertHead #[t12, t22] w4 fun t23 w7 =>
 opP Tryd.prog (Op.unary .not t23) fun t24 =>
 oCond t24 (opQ Tryd.prog w7 (Instr.loadAt 50 t4) fun t25 =>
 opU Tryd.prog w7 (Instr.storeAt 50 t4 t25) fun w8 =>
 opQ Tryd.prog w8 (cellSem 50 t4) fun r9 =>
 K (.tuple #[r9, (Value.int .i64 0), (Value.int .i64 2)]) w8) (opP Tryd.prog (Instr.makeFunc (.func 52) #[] #[t2, t3, t4]) fun t27 =>
 oCall Tryd.prog Tryd.n_cert_caught #[t27] w7 fun t28 w10 =>
 opP Tryd.prog (Instr.extract t28 0) fun t29 =>
 opP Tryd.prog (Instr.extract t28 1) fun t30 =>
 opP Tryd.prog (bsem .neq 28 true t30 (Value.int .i64 0)) fun t32 =>
 oCond t32 (opP Tryd.prog (Instr.build 50 #[]) fun t33 =>
 opU Tryd.prog w10 (Instr.storeAt 50 t4 t33) fun w11 =>
 opQ Tryd.prog w11 (cellSem 50 t4) fun r12 =>
 K (.tuple #[r12, t29, t30]) w11) (opQ Tryd.prog w10 (Instr.loadAt 50 t4) fun t36 =>
 opU Tryd.prog w10 (Instr.storeAt 50 t4 t36) fun w13 =>
 opQ Tryd.prog w13 (cellSem 50 t4) fun r14 =>
 K (.tuple #[r14, (Value.int .i64 0), t30]) w13)))
theorem Tryd.E_cert_Fn (t0 t1 : Value) (w : World) (K : Value → World → Prop) : sw ⟨false, false⟩ Tryd.prog (fun _ _ => False) Tryd.A_cert_Fn (bodyOf Tryd.f25) [t0, t1, undef, undef, undef, undef, undef, undef, undef, undef, undef, undef, undef, undef, undef, undef, undef, undef, undef, undef, undef, undef, undef, undef, undef, undef, undef, undef, undef, undef, undef, undef, undef, undef, undef, undef, undef, undef] w (topQ false Tryd.prog Tryd.f25 w K) = Tryd.F_cert_Fn t0 t1 w K := by kernel_rfl
theorem Tryd.C_cert_Fn : chk ⟨false, false⟩ Tryd.prog false Tryd.A_cert_Fn (bodyOf Tryd.f25) = true := by kernel_rfl
theorem Tryd.ok_cert_Fn {t0 t1 : Value} {w : World} {K : Value → World → Prop} (h : Tryd.F_cert_Fn t0 t1 w K) : oCall Tryd.prog Tryd.n_cert_Fn #[t0, t1] w K :=
  calls_of_sw (cf := ⟨false, false⟩) Tryd.mixed Tryd.func25 rfl Tryd.C_cert_Fn ((Tryd.E_cert_Fn t0 t1 w K).mpr h)

/- 52: loanword/cert.Fn$1 -/
def Tryd.A_cert_Fn_1 : Ann := .s (.r (.op 0 .q (.op 2 .p (.op 3 .q (.op 4 .p (.op 1 .u (.op 5 .p (.op 6 .l (.op 7 .p (.nil)))))))))) (.r (.op 0 .p (.op 1 .l (.op 2 .l (.nil)))))
def Tryd.F_cert_Fn_1 (t0 : Value) (t1 : Value) (t2 : Value) (w : World) (K : Value → World → Prop) (Kp : List PanicEntry → World → Prop) : Prop :=
 opQ Tryd.prog w.drew (Instr.loadAt 9 t0) fun t4 =>
 opP Tryd.prog (Instr.fieldAt 38 t1 6) fun t6 =>
 opQ Tryd.prog w.drew (Instr.loadAt 3 t6) fun t7 =>
 opP Tryd.prog (bsem .sub 3 true t7 (Value.int .i64 4)) fun t8 =>
 oCallP Tryd.prog Tryd.n_strings_Clone #[t4] w.drew (fun t5 w1 =>
 Ext w.drew w1 ∧
 opP Tryd.prog (Instr.build 101 #[(0, t5), (1, t8)]) fun t9 =>
 opW Tryd.prog w1 (Instr.box 101 t9) fun t10 w2 =>
 oCallP Tryd.prog Tryd.n_cert_taker_fn #[t10] w2 (fun t12 w3 =>
 opU Tryd.prog w3 (Instr.storeAt 50 t2 t12) fun w4 =>
 K (.tuple #[]) w4) (fun c w3 => (false = true → NC w2 w3) ∧ Kp c w3)) (fun c w1 => (false = true → NC w.drew w1) ∧ Kp c w1)
theorem Tryd.E_cert_Fn_1 (t0 t1 t2 : Value) (w : World) (K : Value → World → Prop) (Kp : List PanicEntry → World → Prop) : sw ⟨false, true⟩ Tryd.prog Kp Tryd.A_cert_Fn_1 (bodyOf Tryd.f52) [t0, t1, t2, undef, undef, undef, undef, undef, undef, undef, undef, undef, undef] w (topQ false Tryd.prog Tryd.f52 w K) = Tryd.F_cert_Fn_1 t0 t1 t2 w K Kp := by kernel_rfl
theorem Tryd.C_cert_Fn_1 : chk ⟨false, true⟩ Tryd.prog false Tryd.A_cert_Fn_1 (bodyOf Tryd.f52) = true := by kernel_rfl
theorem Tryd.ok_cert_Fn_1 {t0 t1 t2 : Value} {w : World} {K : Value → World → Prop} {Kp : List PanicEntry → World → Prop} (h : Tryd.F_cert_Fn_1 t0 t1 t2 w K Kp) : oCallP Tryd.prog Tryd.n_cert_Fn_1 #[t0, t1, t2] w K Kp :=
  callsP_of_sw (cf := ⟨false, true⟩) (Kp0 := Kp) (fun _ _ h => h) Tryd.mixed Tryd.func52 rfl Tryd.C_cert_Fn_1 ((Tryd.E_cert_Fn_1 t0 t1 t2 w K Kp).mpr h)

end Go.Proofs
end

section
namespace Go.Proofs
open Go.Sh
set_option linter.unusedVariables false
set_option linter.unusedSimpArgs false
/-- how far it went, and what came of it, if it did not get stuck -/
abbrev Rd' (α : Type) := Nat × Option α
def bd {α β : Type} : Rd' α → (α → Nat → Rd' β) → Rd' β
  | (a, some x), k => k x a
  | (a, none), _ => (a, none)
/-- a reader: it is done; it takes a byte; it looks where it stands -/
inductive Gr (α : Type) : Type where
  | ret (v : α)
  | byte (p : UInt8 → Bool) (k : UInt8 → Gr α)
  | pos (k : Nat → Gr α)
namespace Gr
variable {α β : Type}
def bind : Gr α → (α → Gr β) → Gr β
  | ret v, f => f v
  | byte p k, f => byte p fun c => (k c).bind f
  | pos k, f => pos fun a => (k a).bind f
def run : Gr α → List UInt8 → Nat → Rd' α
  | ret v, _, a => (a, some v)
  | byte _ _, [], a => (a, none)
  | byte p k, c :: l, a => if p c then run (k c) l (a + 1) else (a, none)
  | pos k, l, a => run (k a) l a
theorem run_le : ∀ (G : Gr α) (l : List UInt8) (a : Nat), a ≤ (G.run l a).1 ∧ (G.run l a).1 ≤ a + l.length
  | ret _, l, a => ⟨Nat.le_refl _, Nat.le_add_right _ _⟩
  | byte _ _, [], a => ⟨Nat.le_refl _, Nat.le_add_right _ _⟩
  | byte p k, c :: l, a => by
    rw [run]; split
    · have := run_le (k c) l (a + 1)
      simp only [List.length_cons]; omega
    · simp
  | pos k, l, a => by rw [run]; exact run_le (k a) l a
theorem run_bind (f : α → Gr β) : ∀ (G : Gr α) (l : List UInt8) (a : Nat), (G.bind f).run l a = bd (G.run l a) fun v b => (f v).run (l.drop (b - a)) b
  | ret v, l, a => by simp [bind, run, bd]
  | byte _ _, [], a => by simp [bind, run, bd]
  | byte p k, c :: l, a => by
    rw [bind, run, run]; split
    · rw [run_bind f (k c) l (a + 1)]
      have h := run_le (k c) l (a + 1)
      generalize (k c).run l (a + 1) = x at h
      obtain ⟨b, o⟩ := x
      cases o with
      | none => rfl
      | some v =>
        simp only [bd]
        congr 1
        rw [show b - a = (b - (a + 1)) + 1 by omega, List.drop_succ_cons]
    · rfl
  | pos k, l, a => by rw [bind, run, run]; exact run_bind f (k a) l a
/-- what was read well is read so, whatever stands behind -/
theorem run_some : ∀ {G : Gr α} {l : List UInt8} {a b : Nat} {v : α}, G.run l a = (b, some v) → ∀ m, G.run (l.take (b - a) ++ m) a = (b, some v)
  | ret u, l, a, b, v, h, m => by simp only [run] at h ⊢; exact h
  | byte _ _, [], a, b, v, h, m => by simp [run] at h
  | byte p k, c :: l, a, b, v, h, m => by
    rw [run] at h
    split at h
    · rename_i hp
      have hle := run_le (k c) l (a + 1)
      rw [h] at hle
      rw [show b - a = (b - (a + 1)) + 1 by omega, List.take_succ_cons, List.cons_append, run, if_pos hp]
      exact run_some h m
    · cases h
  | pos k, l, a, b, v, h, m => by rw [run] at h ⊢; exact run_some h m
/-- where a byte is wrong it is wrong, whatever stands behind -/
theorem run_none : ∀ {G : Gr α} {l : List UInt8} {a b : Nat}, G.run l a = (b, none) → b - a < l.length → ∀ m, G.run (l.take (b - a + 1) ++ m) a = (b, none)
  | ret u, l, a, b, h, _, m => by simp [run] at h
  | byte _ _, [], a, b, h, hl, m => by simp at hl
  | byte p k, c :: l, a, b, h, hl, m => by
    rw [run] at h
    split at h
    · rename_i hp
      have hle := run_le (k c) l (a + 1)
      rw [h] at hle
      rw [List.take_succ_cons, List.cons_append, run, if_pos hp, show b - a = (b - (a + 1)) + 1 by omega]
      refine run_none h ?_ m
      simp only [List.length_cons] at hl
      omega
    · rename_i hp
      cases h
      rw [List.take_succ_cons, List.cons_append, run, if_neg hp]
  | pos k, l, a, b, h, hl, m => by rw [run] at h ⊢; exact run_none h hl m
/-- cut off: it goes as far as there is something -/
theorem run_cut : ∀ {G : Gr α} {l : List UInt8} {a b : Nat} {o : Option α}, G.run l a = (b, o) → ∀ i, i < b - a → G.run (l.take i) a = (a + i, none)
  | ret u, l, a, b, o, h, i, hi => by simp only [run, Prod.mk.injEq] at h; omega
  | byte _ _, [], a, b, o, h, i, hi => by simp only [run, Prod.mk.injEq] at h; omega
  | byte p k, c :: l, a, b, o, h, i, hi => by
    rw [run] at h
    split at h
    · rename_i hp
      cases i with
      | zero => rw [List.take_zero, run]; rfl
      | succ i =>
        rw [List.take_succ_cons, run, if_pos hp, run_cut h i (by omega), show a + 1 + i = a + (i + 1) by omega]
    · simp only [Prod.mk.injEq] at h; omega
  | pos k, l, a, b, o, h, i, hi => by rw [run] at h ⊢; exact run_cut h i hi
end Gr
/-- a reader at a place of a text -/
def rd {α : Type} (G : Gr α) (s : List UInt8) (a : Nat) : Rd' α := G.run (s.drop a) a
theorem rd_le {α : Type} {G : Gr α} {s : List UInt8} {a : Nat} (h : a ≤ s.length) : a ≤ (rd G s a).1 ∧ (rd G s a).1 ≤ s.length := by
  have := Gr.run_le G (s.drop a) a
  rw [List.length_drop] at this
  exact ⟨this.1, by rw [rd]; omega⟩
theorem rd_bind {α β : Type} {G : Gr α} {f : α → Gr β} {s : List UInt8} {a : Nat} : rd (G.bind f) s a = bd (rd G s a) fun v b => rd (f v) s b := by
  rw [rd, Gr.run_bind, rd]
  have h := Gr.run_le G (s.drop a) a
  generalize G.run (s.drop a) a = x at h
  obtain ⟨b, o⟩ := x
  cases o with
  | none => rfl
  | some v =>
    simp only [bd, rd]
    rw [List.drop_drop, show a + (b - a) = b by simp only at h; omega]
theorem rd_ret {α : Type} {v : α} {s : List UInt8} {a : Nat} : rd (.ret v) s a = (a, some v) := rfl
theorem rd_byte {α : Type} {p : UInt8 → Bool} {k : UInt8 → Gr α} {s : List UInt8} {a : Nat} (h : a < s.length) : rd (.byte p k) s a = if p s[a] then rd (k s[a]) s (a + 1) else (a, none) := by
  rw [rd, List.drop_eq_getElem_cons h, Gr.run]; rfl
theorem rd_end {α : Type} {p : UInt8 → Bool} {k : UInt8 → Gr α} {s : List UInt8} {a : Nat} (h : s.length ≤ a) : rd (.byte p k) s a = (a, none) := by
  rw [rd, List.drop_eq_nil_of_le h]; rfl
/-- a reader takes just these bytes, and tells this -/
def Takes {α : Type} (G : Gr α) (v : α) (l : List UInt8) : Prop := ∀ m a, G.run (l ++ m) a = (a + l.length, some v)
theorem Takes.ret {α : Type} {v : α} : Takes (.ret v) v [] := fun m a => rfl
theorem Takes.byte {α : Type} {p : UInt8 → Bool} {k : UInt8 → Gr α} {c : UInt8} {v : α} {l : List UInt8} (h : p c = true) (t : Takes (k c) v l) : Takes (.byte p k) v (c :: l) := fun m a => by
  rw [List.cons_append, Gr.run, if_pos h, t m (a + 1), List.length_cons, show a + 1 + l.length = a + (l.length + 1) by omega]
theorem Takes.bind {α β : Type} {G : Gr α} {f : α → Gr β} {u : α} {v : β} {l m : List UInt8} (h : Takes G u l) (k : Takes (f u) v m) : Takes (G.bind f) v (l ++ m) := fun n a => by
  rw [Gr.run_bind, List.append_assoc, h (m ++ n) a]
  simp only [bd]
  rw [show a + l.length - a = l.length by omega, List.drop_left', k n (a + l.length), List.length_append, Nat.add_assoc]
  rfl
theorem Takes.run_bind {α β : Type} {G : Gr α} {u : α} {l : List UInt8} (h : Takes G u l) (f : α → Gr β) (m : List UInt8) (a : Nat) : (G.bind f).run (l ++ m) a = (f u).run m (a + l.length) := by
  rw [Gr.run_bind, h m a]
  simp only [bd]
  rw [show a + l.length - a = l.length by omega, List.drop_left' rfl]
/-- whatever it reads well are these bytes -/
theorem takes_of {α : Type} {G : Gr α} {l : List UInt8} {a b : Nat} {v : α} (h : G.run l a = (b, some v)) : ∃ m n, l = m ++ n ∧ b = a + m.length := by
  have := Gr.run_le G l a
  rw [h] at this
  exact ⟨l.take (b - a), l.drop (b - a), (List.take_append_drop _ _).symm, by rw [List.length_take]; simp only at this; omega⟩
/-- one thing behind the other -/
def repG {α : Type} (G : Nat → Gr α) : Nat → Nat → Gr (List α)
  | _, 0 => .ret []
  | i, n + 1 => (G i).bind fun x => (repG G (i + 1) n).bind fun l => .ret (x :: l)
end Go.Proofs
end

section
namespace Go.BM

open Go.Sh

/-- bit k of a list of words -/
def bit (ws : List (BitVec 64)) (k : Nat) : Bool := (ws.getD (k / 64) 0).getLsbD (k % 64)
/-- may a row be? -/
def May (W : Int) (ws : List (BitVec 64)) : Prop := 0 ≤ W ∧ W ≤ 1032 ∧ (ws.length : Int) = (W + 63) / 64 ∧ ∀ k : Nat, W ≤ (k : Int) → k < 64 * ws.length → bit ws k = false
noncomputable def mayB (W : Int) (ws : List (BitVec 64)) : Bool := @decide (May W ws) (Classical.propDecidable _)
theorem mayB_iff {W : Int} {ws : List (BitVec 64)} : mayB W ws = true ↔ May W ws := by simp [mayB]
theorem mayB_true {W : Int} {ws : List (BitVec 64)} (h : May W ws) : mayB W ws = true := mayB_iff.2 h
theorem mayB_false {W : Int} {ws : List (BitVec 64)} (h : ¬ May W ws) : mayB W ws = false := by simpa [mayB] using h

theorem bit_word {ws : List (BitVec 64)} {i : Nat} (hi : i < ws.length) (j : Nat) (hj : j < 64) : bit ws (64 * i + j) = ws[i].getLsbD j := by
  have h1 : (64 * i + j) / 64 = i := by omega
  have h2 : (64 * i + j) % 64 = j := by omega
  simp [bit, h1, h2, List.getD_eq_getElem?_getD, hi]
/-- of a width that is no multiple of 64: the last word shifted is zero just if no bit lies behind the width -/
theorem may_last {W : Int} {ws : List (BitVec 64)} (h0 : 0 ≤ W) (h1 : W ≤ 1032) (hl : (ws.length : Int) = (W + 63) / 64) (hm : ¬ W % 64 = 0) (hlt : ws.length - 1 < ws.length) :
    May W ws ↔ ws[ws.length - 1] >>> (W % 64).toNat = 0#64 := by
  have hp : ws.length = (W.toNat + 63) / 64 := by omega
  constructor
  · rintro ⟨_, _, _, hb⟩
    apply BitVec.eq_of_getLsbD_eq
    intro i hi
    rw [BitVec.getLsbD_ushiftRight, BitVec.getLsbD_zero]
    by_cases hi' : (W % 64).toNat + i < 64
    · have := hb (64 * (ws.length - 1) + ((W % 64).toNat + i)) (by omega) (by omega)
      rwa [bit_word hlt _ hi'] at this
    · exact BitVec.getLsbD_of_ge _ _ (by omega)
  · intro hz
    refine ⟨h0, h1, hl, fun k hk hk' => ?_⟩
    have h2 : k / 64 = ws.length - 1 := by omega
    have h3 : k % 64 = (W % 64).toNat + (k % 64 - (W % 64).toNat) := by omega
    have h4 : bit ws k = ws[ws.length - 1].getLsbD (k % 64) := by
      simp [bit, h2, List.getD_eq_getElem?_getD, hlt]
    rw [h4, h3, ← BitVec.getLsbD_ushiftRight, hz]; simp
theorem may_even {W : Int} {ws : List (BitVec 64)} (h0 : 0 ≤ W) (h1 : W ≤ 1032) (hl : (ws.length : Int) = (W + 63) / 64) (hm : W % 64 = 0) : May W ws :=
  ⟨h0, h1, hl, fun k hk hk' => by omega⟩
theorem shr_and_one (x : BitVec 64) (n : Nat) : (((x >>> n) &&& BitVec.ofInt 64 1).toNat : Int) = 1 ↔ x.getLsbD n = true := by
  have h1 : BitVec.ofInt 64 1 = 1#64 := rfl
  rw [h1]
  have h2 : (x >>> n) &&& 1#64 = if x.getLsbD n then 1#64 else 0#64 := by
    apply BitVec.eq_of_getLsbD_eq
    intro i hi
    rw [BitVec.getLsbD_and, BitVec.getLsbD_ushiftRight]
    by_cases h0 : i = 0
    · subst h0; cases h : x.getLsbD n <;> simp
    · have : (1#64).getLsbD i = false := by
        rw [BitVec.getLsbD_ofNat]
        have : Nat.testBit 1 i = false := by
          cases ht : Nat.testBit 1 i with
          | false => rfl
          | true => exact absurd (Nat.testBit_one_eq_true_iff_self_eq_zero.1 ht) h0
        simp [this]
      cases h : x.getLsbD n <;> simp [this]
  rw [h2]
  cases x.getLsbD n <;> simp
/-- one bit of words turned by g -/
def turnW (g : BitVec 64 → BitVec 64 → BitVec 64) (ws : List (BitVec 64)) (k : Int) : List (BitVec 64) :=
  ws.set (k.toNat / 64) (g (ws.getD (k.toNat / 64) 0) (BitVec.ofInt 64 1 <<< (k.toNat % 64)))
def turnAll (g : BitVec 64 → BitVec 64 → BitVec 64) (ws : List (BitVec 64)) (ls : List Int) : List (BitVec 64) := ls.foldl (turnW g) ws
theorem turnW_length (g : BitVec 64 → BitVec 64 → BitVec 64) (ws : List (BitVec 64)) (k : Int) : (turnW g ws k).length = ws.length := by simp [turnW]
theorem turnAll_length (g : BitVec 64 → BitVec 64 → BitVec 64) : ∀ (ls : List Int) (ws : List (BitVec 64)), (turnAll g ws ls).length = ws.length
  | [], _ => rfl
  | k :: ls, ws => by
    have := turnAll_length g ls (turnW g ws k)
    simp only [turnAll, List.foldl_cons] at this ⊢
    rw [this, turnW_length]
theorem turnAll_snoc (g : BitVec 64 → BitVec 64 → BitVec 64) (ws : List (BitVec 64)) (ls : List Int) (k : Int) : turnAll g ws (ls ++ [k]) = turnW g (turnAll g ws ls) k := by
  simp [turnAll]
/-- all of these are bits of a row of width W -/
def AllIn (W : Int) (ls : List Int) : Prop := ∀ k ∈ ls, 0 ≤ k ∧ k < W
end Go.BM
end
