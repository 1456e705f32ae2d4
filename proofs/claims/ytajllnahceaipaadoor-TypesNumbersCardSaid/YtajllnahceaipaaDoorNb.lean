/-
  A way of walking: a memory that stays (a ghost), the cells that the walk itself has made, and one fact that carries both from world to world. Steps by classes.
  More of the way of walking: a row of one's own as a cell; what is frozen.
  The shallow reading of a function that defers one closure, and of a deferred closure that recovers.
  Data as such: what a value tells in a memory that stays, whatever its type: numbers, texts, structs, slices.
  Conditions put together: the value of 'and', 'or' as it stands.
  More of the way of walking: literals in a drawn region, cells that come to stay, rows that are given and taken.
  Strings as lists of bytes; interface values; structs compared.
  The seat's types, reckoned: what each operation on them asks. Made by a program (wip/gen/gen.py).
  Shallow readings of functions. Made by a program (wip/gen/gen.py) out of the translation; the kernel checks each equality.
-/
import Derived.Test.YtajllnahceaipaaDoorNa
import Derived.RecoverIn
import Derived.Laws.StructEq
import Derived.Laws.Concat
import Derived.WideLaws
import Derived.Test.YtajllnahceaipaaDoorProg
import Derived.KernelRfl

section
namespace Go.Sh
open Go.RowKit

/-! ### Steps that ask nothing of memory -/
class PStep (P : Program) (s : Sem Value) (v : outParam Value) : Prop where
  yields : ∀ w, s.run P w = .ok v w
class PCond (P : Program) (s : Sem Value) (v : outParam Value) (c : outParam Prop) : Prop where
  yields : c → ∀ w, s.run P w = .ok v w
section
variable {P : Program} {s : Sem Value} {v : Value} {c : Prop}
theorem s_p {K : Value → Prop} [i : PStep P s v] (k : K v) : opP P s K := p_of i.yields k
theorem s_c {K : Value → Prop} [i : PCond P s v c] (h : c) (k : K v) : opP P s K := p_of (i.yields h) k
theorem s_q {w : World} {K : Value → Prop} [i : PStep P s v] (k : K v) : opQ P w s K := q_of_p (s_p k)
theorem s_qc {w : World} {K : Value → Prop} [i : PCond P s v c] (h : c) (k : K v) : opQ P w s K := q_of_p (s_c h k)
theorem PStep.of (h : ∀ K : Value → Prop, K v → opP P s K) : PStep P s v := ⟨by
  obtain ⟨v', h1, rfl⟩ := h (fun x => x = v) rfl
  exact h1⟩
theorem PCond.of (h : c → ∀ K : Value → Prop, K v → opP P s K) : PCond P s v c := ⟨fun hc => by
  obtain ⟨v', h1, rfl⟩ := h hc (fun x => x = v) rfl
  exact h1⟩
end

/-! ### What is asked of types -/
class FldT (P : Program) (t : TypeId) (i : Nat) (n : outParam Nat) : Prop where
  h : fldT P t i = some n
class SlT (P : Program) (t : TypeId) (e : outParam TypeId) (n : outParam Nat) : Prop where
  h : slT P t = some (e, n)
class StrT (P : Program) (t : TypeId) : Prop where
  h : strT P t = true
class Ld1 (P : Program) (t : TypeId) : Prop where
  h : ld1 P t = true
class LdN (P : Program) (t : TypeId) (n : outParam Nat) : Prop where
  h : ldN P t = some n
class SzT (P : Program) (t : TypeId) (n : outParam Nat) : Prop where
  h : szT P t = some n
class ZrT (P : Program) (t : TypeId) (c : outParam (List Value)) : Prop where
  h : zrT P t = some c
class ApT (P : Program) (t : TypeId) (e : outParam TypeId) (n b : outParam Nat) : Prop where
  h : apT P t = some (e, n, b)
class ArT (P : Program) (t : TypeId) (l : outParam Nat) (e : outParam TypeId) (n : outParam Nat) : Prop where
  h : arT P t = some (l, e, n)
class KdT (P : Program) (t : TypeId) (k : outParam IntKind) : Prop where
  h : kdT P t = some k
class KdB (P : Program) (t : TypeId) : Prop where
  h : kdB P t = true
class FnT (P : Program) (t : TypeId) : Prop where
  h : fnT P t = true
class BytT (P : Program) (t : TypeId) : Prop where
  h : bytT P t = true
section
variable {P : Program} {t ty e : TypeId} {c : Bool} {i j : IntKind} {a b : Int} {n l : Nat}
instance : PStep P (bsem .lss t c (.int i a) (.int i b)) (.bool (decide (a < b))) := .of fun _ k => p_lss k
instance : PStep P (bsem .leq t c (.int i a) (.int i b)) (.bool (decide (a ≤ b))) := .of fun _ k => p_leq k
instance : PStep P (bsem .gtr t c (.int i a) (.int i b)) (.bool (decide (b < a))) := .of fun _ k => p_gtr k
instance : PStep P (bsem .geq t c (.int i a) (.int i b)) (.bool (decide (b ≤ a))) := .of fun _ k => p_geq k
instance : PStep P (bsem .eql t c (.int i a) (.int i b)) (.bool (decide (a = b))) := .of fun _ k => p_eql k
instance : PStep P (bsem .neq t c (.int i a) (.int i b)) (.bool (decide (a ≠ b))) := .of fun _ k => p_neq k
instance {x : Bool} : PStep P (Op.unary .not (.bool x)) (.bool (!x)) := .of fun _ k => p_not k
instance : PCond P (bsem .add t c (.int .i64 a) (.int .i64 b)) (.int .i64 (a + b)) (-9223372036854775808 ≤ a + b ∧ a + b < 9223372036854775808) := .of fun h _ k => p_add h k
instance : PCond P (bsem .sub t c (.int .i64 a) (.int .i64 b)) (.int .i64 (a - b)) (-9223372036854775808 ≤ a - b ∧ a - b < 9223372036854775808) := .of fun h _ k => p_sub h k
instance : PCond P (bsem .mul t c (.int .i64 a) (.int .i64 b)) (.int .i64 (a * b)) (-9223372036854775808 ≤ a * b ∧ a * b < 9223372036854775808) := .of fun h _ k => p_mul h k
instance : PCond P (bsem .quo t c (.int .i64 a) (.int .i64 b)) (.int .i64 (a / b)) (0 ≤ a ∧ a < 9223372036854775808 ∧ 0 < b) := .of fun h _ k => p_quo h.1 h.2.1 h.2.2 k
instance : PCond P (bsem .rem t c (.int .i64 a) (.int .i64 b)) (.int .i64 (a % b)) (0 ≤ a ∧ 0 < b) := .of fun h _ k => p_rem h.1 h.2 k
instance : PCond P (Op.unary .neg (.int .i64 a)) (.int .i64 (-a)) (-9223372036854775808 ≤ -a ∧ -a < 9223372036854775808) := .of fun h _ k => p_neg h k
instance {x y : BitVec 64} : PStep P (bsem .and t c (u64 x) (u64 y)) (u64 (x &&& y)) := .of fun _ k => p_and64 (by rw [of64]; exact k)
instance {x y : BitVec 64} : PStep P (bsem .or t c (u64 x) (u64 y)) (u64 (x ||| y)) := .of fun _ k => p_or64 (by rw [of64]; exact k)
instance {x y : BitVec 64} : PStep P (bsem .xor t c (u64 x) (u64 y)) (u64 (x ^^^ y)) := .of fun _ k => p_xor64 (by rw [of64]; exact k)
instance {x y : BitVec 64} : PStep P (bsem .andNot t c (u64 x) (u64 y)) (u64 (x &&& ~~~ y)) := .of fun _ k => p_andNot64 (by rw [of64]; exact k)
instance {x y : BitVec 64} : PStep P (bsem .sub t c (u64 x) (u64 y)) (u64 (x - y)) := .of fun _ k => p_sub64 (by rw [of64]; exact k)
instance {x y : BitVec 64} : PStep P (bsem .add t c (u64 x) (u64 y)) (u64 (x + y)) := .of fun _ k => p_add64 k
instance (priority := low) {x : BitVec 64} : PStep P (bsem .and t c (u64 x) (.int .u64 a)) (u64 (x &&& BitVec.ofInt 64 a)) := .of fun _ k => p_and64 k
instance (priority := low) {x : BitVec 64} : PStep P (bsem .or t c (u64 x) (.int .u64 a)) (u64 (x ||| BitVec.ofInt 64 a)) := .of fun _ k => p_or64 k
instance (priority := low) {x : BitVec 64} : PStep P (bsem .xor t c (u64 x) (.int .u64 a)) (u64 (x ^^^ BitVec.ofInt 64 a)) := .of fun _ k => p_xor64 k
instance (priority := low) {x : BitVec 64} : PStep P (bsem .sub t c (u64 x) (.int .u64 a)) (u64 (x - BitVec.ofInt 64 a)) := .of fun _ k => p_sub64 k
instance {x : BitVec 64} : PStep P (Op.unary .xor (u64 x)) (u64 (~~~ x)) := .of fun _ k => p_not64 k
instance {x : BitVec 64} : PCond P (bsem .shr t c (u64 x) (.int i a)) (u64 (x >>> a.toNat)) (0 ≤ a) := .of fun h _ k => p_shr64 h k
instance : PCond P (bsem .shl t c (.int .u64 b) (.int i a)) (u64 (BitVec.ofInt 64 b <<< a.toNat)) (0 ≤ a) := .of fun h _ k => p_shl64 h k
instance {x y : BitVec 8} : PStep P (bsem .and t c (u8 x) (u8 y)) (u8 (x &&& y)) := .of fun _ k => p_and88 k
instance {x y : BitVec 8} : PStep P (bsem .or t c (u8 x) (u8 y)) (u8 (x ||| y)) := .of fun _ k => p_or88 k
instance {x : BitVec 8} : PCond P (bsem .shr t c (u8 x) (.int i a)) (u8 (x >>> a.toNat)) (0 ≤ a) := .of fun h _ k => p_shr8 h k
instance {f : Fn} {x y : Array Value} : PStep P (Instr.makeFunc f x y) (.func f x y) := .of fun _ k => p_func k
instance {b off k : Nat} [h : FldT P t k n] : PStep P (Instr.fieldAt t (.pointer (some ⟨b, off, none⟩)) k) (.pointer (some ⟨b, off + n, none⟩)) := .of fun _ k => p_field h.h k
instance {p : Option Addr} {len cap : Nat} [h : SlT P t e n] : PStep P (Builtin.len_ #[t] ty #[.slice p len cap]) (.int .i64 len) := .of fun _ k => p_lenS h.h k
instance {p : Option Addr} {len cap : Nat} [h : SlT P t e n] : PStep P (Builtin.cap_ #[t] ty #[.slice p len cap]) (.int .i64 cap) := .of fun _ k => p_capS h.h k
instance {x : ByteArray} [h : StrT P t] : PStep P (Builtin.len_ #[t] ty #[.string x]) (.int .i64 x.size) := .of fun _ k => p_lenStr h.h k
instance : PStep P (Builtin.min_ #[t, e] ty #[.int .i64 a, .int .i64 b]) (.int .i64 (min a b)) := .of fun _ k => p_min k
instance {b off len cap : Nat} [h : SlT P t e 1] : PCond P (Instr.indexAt t (.slice (some ⟨b, off, none⟩) len cap) (.int i a)) (.pointer (some ⟨b, off + a.toNat, none⟩)) (0 ≤ a ∧ a < len) :=
  .of fun x _ k => p_index (e := e) (n := 1) h.h x.1 x.2 (by rw [Nat.mul_one]; exact k)
instance (priority := low) {b off len cap : Nat} [h : SlT P t e n] : PCond P (Instr.indexAt t (.slice (some ⟨b, off, none⟩) len cap) (.int i a)) (.pointer (some ⟨b, off + a.toNat * n, none⟩)) (0 ≤ a ∧ a < len) :=
  .of fun x _ k => p_index (e := e) (n := n) h.h x.1 x.2 k
instance {b off : Nat} [h : ArT P t l e n] : PCond P (Instr.indexAt t (.pointer (some ⟨b, off, none⟩)) (.int i a)) (.pointer (some ⟨b, off + a.toNat * n, none⟩)) (0 ≤ a ∧ a < l) :=
  .of fun x _ k => p_indexA h.h x.1 x.2 k
instance {p : Option Addr} {len cap : Nat} [h : SlT P t e n] : PCond P (Instr.sliceAt t (.slice p len cap) none (some (.int i a)) none) (.slice p a.toNat cap) (0 ≤ a ∧ a ≤ cap) :=
  .of fun x _ k => p_sliceHi (e := e) (n := n) h.h x.1 x.2 k
instance {p : Option Addr} {len cap : Nat} [h : SlT P t e n] : PCond P (Instr.sliceAt t (.slice p len cap) (some (.int i a)) none none) (.slice (if cap = a.toNat then p else p.map (·.add (a.toNat * n))) (len - a.toNat) (cap - a.toNat)) (0 ≤ a ∧ a ≤ len) :=
  .of fun x _ k => p_sliceLo (e := e) (n := n) h.h x.1 x.2 k
instance {x : ByteArray} [h : StrT P t] : PCond P (Instr.sliceAt t (.string x) none (some (.int i a)) none) (.string (x.extract 0 a.toNat)) (0 ≤ a ∧ a ≤ x.size) := .of fun y _ k => p_strHi h.h y.1 y.2 k
instance {x : ByteArray} [h : StrT P t] : PCond P (Instr.sliceAt t (.string x) (some (.int i a)) none none) (.string (x.extract a.toNat x.size)) (0 ≤ a ∧ a ≤ x.size) := .of fun y _ k => p_strLo h.h y.1 y.2 k
instance {p : Option Addr} {len cap l' c' : Nat} [h : SlT P t e n] : PStep P (bsem .eql t c (.slice p len cap) (.slice none l' c')) (.bool p.isNone) := .of fun _ k => p_eqNilS h.h k
instance {p : Option Addr} {len cap l' c' : Nat} [h : SlT P t e n] : PStep P (bsem .neq t c (.slice p len cap) (.slice none l' c')) (.bool (!p.isNone)) := .of fun _ k => p_neqNilS h.h k
instance {x y : Bool} [h : KdB P t] : PStep P (bsem .eql t c (.bool x) (.bool y)) (.bool (x == y)) := .of fun _ k => p_eqlB h.h k
instance {x y : Bool} [h : KdB P t] : PStep P (bsem .neq t c (.bool x) (.bool y)) (.bool (!(x == y))) := .of fun _ k => p_neqB h.h k
instance {f : Fn} {x y : Array Value} [h : FnT P t] : PStep P (bsem .eql t c (.func f x y) .nilFunc) (.bool false) := .of fun _ k => p_eqlFn h.h k
instance {f : Fn} {x y : Array Value} [h : FnT P t] : PStep P (bsem .neq t c (.func f x y) .nilFunc) (.bool true) := .of fun _ k => p_neqFn h.h k
instance {s : TypeId} {k1 k3 : IntKind} [h1 : KdT P s k1] [h2 : KdT P t .i64] : PCond P (convert s t (.int k3 a)) (.int .i64 a) (-9223372036854775808 ≤ a ∧ a < 9223372036854775808) := .of fun x _ k => p_cvt64 h1.h h2.h x k
instance {a b : Value} : PStep P (Instr.extract (.tuple #[a, b]) 0) a := .of fun _ k => x20 k
instance {a b : Value} : PStep P (Instr.extract (.tuple #[a, b]) 1) b := .of fun _ k => x21 k
instance {a b d : Value} : PStep P (Instr.extract (.tuple #[a, b, d]) 0) a := .of fun _ k => x30 k
instance {a b d : Value} : PStep P (Instr.extract (.tuple #[a, b, d]) 1) b := .of fun _ k => x31 k
instance {a b d : Value} : PStep P (Instr.extract (.tuple #[a, b, d]) 2) d := .of fun _ k => x32 k
instance {a b d x : Value} : PStep P (Instr.extract (.tuple #[a, b, d, x]) 0) a := .of fun _ k => x40 k
instance {a b d x : Value} : PStep P (Instr.extract (.tuple #[a, b, d, x]) 1) b := .of fun _ k => x41 k
instance {a b d x : Value} : PStep P (Instr.extract (.tuple #[a, b, d, x]) 2) d := .of fun _ k => x42 k
instance {a b d x : Value} : PStep P (Instr.extract (.tuple #[a, b, d, x]) 3) x := .of fun _ k => x43 k
end

/-! ### What stays -/
/-- some blocks and what lies there -/
abbrev Gh := Nat → Obj → Prop
def Gh.or (r s : Gh) : Gh := fun b o => r b o ∨ s b o
def Holds (r : Gh) (w : World) : Prop := ∀ b o, r b o → w.heap[b]? = some o
theorem Holds.lt {r : Gh} {w : World} (h : Holds r w) {b : Nat} {o : Obj} (hb : r b o) : b < w.heap.size := (Array.getElem?_eq_some_iff.1 (h b o hb)).1
theorem Holds.ext {r : Gh} {w w' : World} (h : Holds r w) (e : Ext w w') : Holds r w' := fun b o hb => (e.block b (h.lt hb)).trans (h b o hb)
theorem Holds.but {r : Gh} {S : Nat → Prop} {w w' : World} (h : Holds r w) (e : ExtBut S w w') (hS : ∀ b o, r b o → ¬ S b) : Holds r w' := fun b o hb => (e.block b (h.lt hb) (hS b o hb)).trans (h b o hb)
theorem Holds.or {r s : Gh} {w : World} (h : Holds r w) (k : Holds s w) : Holds (r.or s) w := fun b o hb => hb.elim (h b o) (k b o)
class Le (r s : Gh) : Prop where
  le : ∀ b o, r b o → s b o
instance {r : Gh} : Le r r := ⟨fun _ _ h => h⟩
instance (priority := high) {r s t : Gh} [h : Le r t] [k : Le s t] : Le (r.or s) t := ⟨fun b o x => x.elim (h.le b o) (k.le b o)⟩
instance {r s t : Gh} [h : Le r s] : Le r (s.or t) := ⟨fun b o k => .inl (h.le b o k)⟩
instance {r s t : Gh} [h : Le r t] : Le r (s.or t) := ⟨fun b o k => .inr (h.le b o k)⟩
theorem Holds.le {r s : Gh} {w : World} [h : Le r s] (k : Holds s w) : Holds r w := fun b o hb => k b o (h.le b o hb)
/-- it is so in every world that holds these -/
def Ob (r : Gh) (p : World → Prop) : Prop := ∀ w, Holds r w → p w
theorem Ob.up {r s : Gh} {p : World → Prop} (h : Ob r p) [l : Le r s] : Ob s p := fun w k => h w (k.le (h := l))
theorem Ob.mono {r : Gh} {p q : World → Prop} (h : Ob r p) (k : ∀ w, p w → q w) : Ob r q := fun w x => k w (h w x)
/-- all that a world holds -/
def all (w : World) : Gh := fun b o => w.heap[b]? = some o
theorem all_holds (w : World) : Holds (all w) w := fun _ _ h => h
/-- all that a world holds that another one did not -/
def news (w w' : World) : Gh := fun b o => w.heap.size ≤ b ∧ w'.heap[b]? = some o
theorem news_holds (w w' : World) : Holds (news w w') w' := fun _ _ h => h.2
theorem cell_all {w : World} {a : Addr} {v : Value} (h : w.cell? a = some v) : Ob (all w) fun w' => w'.cell? a = some v := fun w' k => by
  have hl := cell_lt h
  show w'.cell? a = some v
  rw [World.cell?_of_block (w := w) ((k a.block _ (Array.getElem?_eq_getElem hl)).trans (Array.getElem?_eq_getElem hl).symm)]; exact h
theorem Sl.all {w : World} {p : Option Addr} {vs : List Value} (h : Sl w p vs) : Ob (all w) fun w' => Sl w' p vs := fun w' k i v hv => by
  obtain ⟨b, off, hp, hc⟩ := h i v hv
  exact ⟨b, off, hp, cell_all hc w' k⟩
/-- one block -/
def one (b : Nat) (c : List Value) (T : TypeId) : Gh := fun k o => k = b ∧ o = .cells c.toArray T (0, 0)
theorem one_holds {w : World} {b : Nat} {c : List Value} {T : TypeId} (h : Blk w b c T) : Holds (one b c T) w := by rintro _ _ ⟨rfl, rfl⟩; exact h
theorem one_blk {b : Nat} {c : List Value} {T : TypeId} : Ob (one b c T) fun w => Blk w b c T := fun _ h => h b _ ⟨rfl, rfl⟩
/-- what a call has laid anew -/
structure New (w : World) (s : Gh) (w' : World) : Prop where
  holds : Holds s w'
  fresh : ∀ b o, s b o → w.heap.size ≤ b
theorem New.one {w w' : World} {b : Nat} {c : List Value} {T : TypeId} (h : Blk w' b c T) (hb : w.heap.size ≤ b) : New w (one b c T) w' := ⟨one_holds h, by rintro _ _ ⟨rfl, _⟩; exact hb⟩
theorem New.ext {w w' w'' : World} {s : Gh} (h : New w s w') (e : Ext w' w'') : New w s w'' := ⟨h.holds.ext e, h.fresh⟩
theorem New.back {w0 w w' : World} {s : Gh} (h : New w s w') (e : Ext w0 w) : New w0 s w' := ⟨h.holds, fun b o hb => Nat.le_trans e.size (h.fresh b o hb)⟩
/-- no block in common -/
def Dis (r s : Gh) : Prop := ∀ b o o', r b o → ¬ s b o'
theorem Dis.or {r s t : Gh} (h : Dis r s) (k : Dis r t) : Dis r (s.or t) := fun b o o' x y => y.elim (h b o o' x) (k b o o' x)
theorem Dis.of {r s t : Gh} (h : Dis s r) [l : Le t r] : Dis t s := fun b o o' x y => h b o' o y (l.le b o x)
theorem Dis.le {r s t : Gh} (h : Dis s r) [l : Le t r] : Dis s t := fun b o o' x y => h b o o' x (l.le b o' y)
/-- all of it is made behind a world's end -/
def Above (w : World) (s : Gh) : Prop := ∀ b o, s b o → w.heap.size ≤ b
def nothing : Gh := fun _ _ => False
theorem New.nothing {w w' : World} : New w nothing w' := ⟨fun _ _ h => h.elim, fun _ _ h => h.elim⟩
instance {r : Gh} : Le nothing r := ⟨fun _ _ h => h.elim⟩

/-! ### What the walk itself has made -/
inductive Asr where
  | cell (b : Nat) (c : List Value) (T : TypeId)
  | row (v : Value) (e : TypeId) (sz n : Nat) (xs : List Value)
  | que (v : Value) (e : TypeId) (sz n : Nat) (xs : List Value)
/-- a slice of one's own that need not begin where its block does -/
def Que (w : World) (e : TypeId) (sz : Nat) (v : Value) (n : Nat) (xs : List Value) : Prop :=
  xs.length = n * sz ∧ ((v = .slice none 0 0 ∧ n = 0) ∨
    ∃ g off cap c, v = .slice (some ⟨g, off, none⟩) n cap ∧ Blk w g c e ∧ n ≤ cap ∧ cap ≤ maxLen ∧ off + cap * sz ≤ c.length ∧ (c.drop off).take (n * sz) = xs)
def Asr.has (base : Nat) : Asr → World → Prop
  | .cell b c T, w => Blk w b c T
  | .row v e sz n xs, w => w.ownsRow base e sz v n xs
  | .que v e sz n xs, w => Que w e sz v n xs
def Asr.dom : Asr → Nat → Prop
  | .cell b _ _, k => k = b
  | .row v _ _ _ _, k => v.ownBlock = some k
  | .que v _ _ _ _, k => v.ownBlock = some k
theorem que_cases {w : World} {e : TypeId} {size : Nat} {v : Value} {n : Nat} {xs : List Value} (h : Que w e size v n xs) :
    v.ownBlock = none ∨ ∃ g c, v.ownBlock = some g ∧ Blk w g c e := by
  rcases h.2 with ⟨rfl, _⟩ | ⟨g, off, cap, c, rfl, B, _⟩
  · exact .inl rfl
  · exact .inr ⟨g, c, rfl, B⟩
theorem que_keep {w w' : World} {e : TypeId} {size : Nat} {v : Value} {n : Nat} {xs : List Value} (h : Que w e size v n xs)
    (hk : ∀ g, v.ownBlock = some g → w'.heap[g]? = w.heap[g]?) : Que w' e size v n xs := by
  rcases h with ⟨hl, h | ⟨g, off, cap, c, rfl, B, hr⟩⟩
  · exact ⟨hl, .inl h⟩
  · exact ⟨hl, .inr ⟨g, off, cap, c, rfl, (hk g rfl).trans B, hr⟩⟩
theorem row_cases {w : World} {base : Nat} {e : TypeId} {size : Nat} {v : Value} {n : Nat} {xs : List Value} (h : w.ownsRow base e size v n xs) :
    v.ownBlock = none ∨ ∃ g cap c, v.ownBlock = some g ∧ v = .slice (some ⟨g, 0, none⟩) n cap ∧ Blk w g c e ∧ base ≤ g := by
  rcases own_blk h with ⟨rfl, _, _⟩ | ⟨g, cap, c, rfl, hb, B, _⟩
  · exact .inl rfl
  · exact .inr ⟨g, cap, c, rfl, rfl, B, hb⟩
theorem row_keep {w w' : World} {base : Nat} {e : TypeId} {size : Nat} {v : Value} {n : Nat} {xs : List Value} (h : w.ownsRow base e size v n xs)
    (hk : ∀ g, v.ownBlock = some g → w'.heap[g]? = w.heap[g]?) : w'.ownsRow base e size v n xs := by
  rcases h with ⟨hl, h | ⟨g, cap, cur, rfl, hb, hg, hr⟩⟩
  · exact ⟨hl, .inl h⟩
  · exact ⟨hl, .inr ⟨g, cap, cur, rfl, hb, (hk g rfl).trans hg, hr⟩⟩
theorem Asr.lt {base : Nat} {x : Asr} {w : World} (h : x.has base w) {k : Nat} (hk : x.dom k) : k < w.heap.size := by
  cases x with
  | cell b c T => cases hk; exact Blk.lt h
  | row v e sz n xs =>
    rcases row_cases h with h0 | ⟨g, cap, c, h1, h2, B, _⟩
    · rw [Asr.dom, h0] at hk; cases hk
    · rw [Asr.dom, h1] at hk; cases hk; exact B.lt
  | que v e sz n xs =>
    rcases que_cases h with h0 | ⟨g, c, h1, B⟩
    · rw [Asr.dom, h0] at hk; cases hk
    · rw [Asr.dom, h1] at hk; cases hk; exact B.lt
theorem Asr.keep {base : Nat} {x : Asr} {w w' : World} (h : x.has base w) (hk : ∀ k, x.dom k → w'.heap[k]? = w.heap[k]?) : x.has base w' := by
  cases x with
  | cell b c T => exact (hk b rfl).trans h
  | row v e sz n xs => exact row_keep h hk
  | que v e sz n xs => exact que_keep h hk

/-- WHERE THE WALK STANDS: what was there when it began lies as it lay (X apart); what stays, stays; its own cells hold these. -/
structure StX (X : Nat → Prop) (w0 : World) (r : Gh) (w : World) (L : List Asr) : Prop where
  x : ExtBut X w0 w
  holds : Holds r w
  has : ∀ x ∈ L, x.has 0 w
  mine : ∀ x ∈ L, ∀ k, x.dom k → (w0.heap.size ≤ k ∨ X k) ∧ ∀ o, ¬ r k o
  apart : L.Pairwise fun x y => ∀ k, x.dom k → ¬ y.dom k
abbrev noX : Nat → Prop := fun _ => False
abbrev St := StX noX
theorem ExtBut.ext {w w' : World} (h : ExtBut noX w w') : Ext w w' := ⟨h.os, h.tape, h.output, h.size, fun k hk => h.block k hk (fun hf => hf)⟩
theorem ExtBut.but {X Y : Nat → Prop} {w0 w w' : World} (h : ExtBut X w0 w) (e : ExtBut Y w w') (hY : ∀ k, Y k → w0.heap.size ≤ k ∨ X k) : ExtBut X w0 w' :=
  ⟨e.os.trans h.os, e.tape.trans h.tape, e.output.trans h.output, Nat.le_trans h.size e.size, fun k hk hx =>
    (e.block k (Nat.lt_of_lt_of_le hk h.size) (fun hy => (hY k hy).elim (fun h => by omega) hx)).trans (h.block k hk hx)⟩
section
variable {X : Nat → Prop} {w0 w w' : World} {r s : Gh} {L : List Asr}
theorem StX.ext (S : StX noX w0 r w L) : Ext w0 w := S.x.ext
theorem St.start (h : Holds r w) : St w r w [] := ⟨.refl _ _, h, by simp, by simp, .nil⟩
theorem StX.at (S : StX X w0 r w L) {q : Gh} {p : World → Prop} (h : Ob q p) [l : Le q r] : p w := h w (S.holds.le (h := l))
theorem StX.go (S : StX X w0 r w L) (e : Ext w w') : StX X w0 r w' L :=
  ⟨S.x.trans (.of_ext e), S.holds.ext e, fun x hx => Asr.keep (S.has x hx) fun k hk => e.block k (Asr.lt (S.has x hx) hk), S.mine, S.apart⟩
theorem StX.new (S : StX X w0 r w L) (e : Ext w w') (n : New w s w') : StX X w0 (r.or s) w' L :=
  { S.go e with
    holds := (S.holds.ext e).or n.holds
    mine := fun x hx k hk => ⟨(S.mine x hx k hk).1, fun o ho => ho.elim ((S.mine x hx k hk).2 o) fun h => by
      have := n.fresh k o h; have := Asr.lt (S.has x hx) hk; omega⟩ }
theorem StX.tell (S : StX X w0 r w L) (e : Ext w w') (n : New w s w') : StX X w0 (r.or s) w' L ∧ Dis s r ∧ Above w0 s :=
  ⟨S.new e n, fun b o o' h h' => by have := n.fresh b o h; have := S.holds.lt h'; omega, fun b o h => by have := n.fresh b o h; have := S.x.size; omega⟩
theorem StX.cells (S : StX X w0 r w L) (x : Asr) (hx : x ∈ L) : x.has 0 w := S.has x hx
/-- other blocks than its own, made since it began and not among what stays, may turn -/
theorem StX.but (S : StX X w0 r w L) {Y : Nat → Prop} {q : Gh} (e : ExtBut Y w w') (hq : ∀ b o, q b o → r b o ∧ ¬ Y b) (hX : ∀ b, Y b → w0.heap.size ≤ b) (hL : ∀ x ∈ L, ∀ k, x.dom k → ¬ Y k) : StX X w0 q w' L :=
  ⟨S.x.but e fun k hk => .inl (hX k hk), fun b o hb => (e.block b (S.holds.lt (hq b o hb).1) (hq b o hb).2).trans (S.holds b o (hq b o hb).1),
    fun x hx => Asr.keep (S.has x hx) fun k hk => e.block k (Asr.lt (S.has x hx) hk) (hL x hx k hk), fun x hx k hk => ⟨(S.mine x hx k hk).1, fun o ho => (S.mine x hx k hk).2 o (hq k o ho).1⟩, S.apart⟩
/-- book-keeping turns; no cell is book-keeping -/
theorem StX.nlX (S : StX X w0 r w L) {n : Nat} (hn : w0.heap.size ≤ n) (hr : ∀ b o, r b o → b < n ∨ Obj.isBook o = false) (e : Nl n w w') : StX X w0 r w' L := by
  refine ⟨⟨e.os.trans S.x.os, e.tape.trans S.x.tape, e.output.trans S.x.output, Nat.le_trans S.x.size e.size, fun k hk hx => ?_⟩, fun b o hb => e.block b o (S.holds b o hb) (hr b o hb), fun x hx => ?_, S.mine, S.apart⟩
  · have h1 := S.x.block k hk hx
    have hkw : k < w.heap.size := Nat.lt_of_lt_of_le hk S.x.size
    rw [← h1, Array.getElem?_eq_getElem hkw]
    exact e.block k _ (Array.getElem?_eq_getElem hkw) (.inl (by omega))
  have hx' := S.has x hx
  cases x with
  | cell b c T => exact Blk.nl hx' e
  | row v e' sz k xs =>
    refine row_keep hx' fun g hg => ?_
    rcases row_cases hx' with h0 | ⟨g', cap, c, h1, h2, B, _⟩
    · rw [h0] at hg; cases hg
    · rw [h1] at hg; cases hg; exact (B.nl e).trans B.symm
  | que v e' sz k xs =>
    refine que_keep hx' fun g hg => ?_
    rcases que_cases hx' with h0 | ⟨g', c, h1, B⟩
    · rw [h0] at hg; cases hg
    · rw [h1] at hg; cases hg; exact (B.nl e).trans B.symm
/-- fewer cells, less that stays -/
theorem StX.less (S : StX X w0 r w L) {q : Gh} {M : List Asr} (hq : ∀ b o, q b o → r b o) (hM : M.Sublist L) : StX X w0 q w M :=
  ⟨S.x, fun b o h => S.holds b o (hq b o h), fun x hx => S.has x (hM.subset hx), fun x hx k hk => ⟨(S.mine x (hM.subset hx) k hk).1, fun o ho => (S.mine x (hM.subset hx) k hk).2 o (hq k o ho)⟩, S.apart.sublist hM⟩
theorem StX.add (S : StX X w0 r w L) (e : Ext w w') {b : Nat} {c : List Value} {T : TypeId} (hb : w.heap.size ≤ b) (B : Blk w' b c T) : StX X w0 r w' (.cell b c T :: L) := by
  have S' := S.go e
  refine ⟨S'.x, S'.holds, ?_, ?_, .cons ?_ S'.apart⟩
  · intro x hx; rcases List.mem_cons.1 hx with rfl | hx
    · exact B
    · exact S'.has x hx
  · intro x hx; rcases List.mem_cons.1 hx with rfl | hx
    · rintro k rfl
      exact ⟨.inl (by have := S.x.size; omega), fun o ho => by have := S.holds.lt ho; omega⟩
    · exact S'.mine x hx
  · rintro y hy k rfl hk
    have := Asr.lt (S.has y hy) hk; omega
/-- one of its own turns: another block in its stead, at the same place or a new one -/
theorem StX.turn {p q : List Asr} {x y : Asr} (S : StX X w0 r w (p ++ x :: q)) (e : ExtBut x.dom w w') (hy : y.has 0 w') (hd : ∀ k, y.dom k → x.dom k ∨ w.heap.size ≤ k) : StX X w0 r w' (p ++ y :: q) := by
  have hx := S.has x (by simp)
  have hap := List.pairwise_append.1 S.apart
  have hap2 := List.pairwise_cons.1 hap.2.1
  have hmx : ∀ k, y.dom k → (w0.heap.size ≤ k ∨ X k) ∧ ∀ o, ¬ r k o := fun k hk => by
    rcases hd k hk with h | h
    · exact S.mine x (by simp) k h
    · exact ⟨.inl (by have := S.x.size; omega), fun o ho => by have := S.holds.lt ho; omega⟩
  have hother : ∀ z, z ∈ p ∨ z ∈ q → ∀ k, z.dom k → ¬ x.dom k := by
    rintro z (hz | hz) k hk hx
    · exact hap.2.2 z hz x (by simp) k hk hx
    · exact hap2.1 z hz k hx hk
  have hmem : ∀ z, z ∈ p ++ y :: q → z = y ∨ ((z ∈ p ∨ z ∈ q) ∧ z ∈ p ++ x :: q) := by
    intro z hz
    simp only [List.mem_append, List.mem_cons] at hz ⊢
    rcases hz with h | rfl | h
    · exact .inr ⟨.inl h, .inl h⟩
    · exact .inl rfl
    · exact .inr ⟨.inr h, .inr (.inr h)⟩
  have hyo : ∀ z, z ∈ p ∨ z ∈ q → z ∈ p ++ x :: q → ∀ k, z.dom k → ¬ y.dom k := fun z hz hm k hk hy => by
    rcases hd k hy with h | h
    · exact hother z hz k hk h
    · have := Asr.lt (S.has z hm) hk; omega
  refine ⟨S.x.but e fun k hk => (S.mine x (by simp) k hk).1, S.holds.but e fun b o hb hk => (S.mine x (by simp) b hk).2 o hb, ?_, ?_, ?_⟩
  · intro z hz
    rcases hmem z hz with rfl | ⟨h, hm⟩
    · exact hy
    · exact Asr.keep (S.has z hm) fun k hk => e.block k (Asr.lt (S.has z hm) hk) (hother z h k hk)
  · intro z hz
    rcases hmem z hz with rfl | ⟨h, hm⟩
    · exact hmx
    · exact S.mine z hm
  · refine List.pairwise_append.2 ⟨hap.1, .cons (fun z hz k hk hk2 => hyo z (.inr hz) (by simp [hz]) k hk2 hk) hap2.2, fun z hz u hu k hk => ?_⟩
    rcases List.mem_cons.1 hu with rfl | hu
    · exact hyo z (.inl hz) (by simp [hz]) k hk
    · exact hap.2.2 z hz u (by simp [hu]) k hk
/-- the blocks of one's own -/
def doms : List Asr → Nat → Prop
  | [], _ => False
  | x :: L, k => x.dom k ∨ doms L k
theorem doms_mem : ∀ {L : List Asr} {k : Nat}, doms L k ↔ ∃ x ∈ L, x.dom k
  | [], k => by simp [doms]
  | x :: L, k => by simp [doms, doms_mem (L := L)]
/-- A PART OF THE WALK, taken by itself: it may turn the walk's own blocks .. -/
theorem StX.part (S : StX X w0 r w L) : StX (doms L) w r w L :=
  ⟨.refl _ _, S.holds, S.has, fun x hx k hk => ⟨.inr (doms_mem.2 ⟨x, hx, hk⟩), (S.mine x hx k hk).2⟩, S.apart⟩
/-- .. and the whole again, when it is done -/
theorem StX.whole {Y : Nat → Prop} {q : Gh} {M : List Asr} (S : StX X w0 r w L) (R : StX Y w q w' M) (hY : ∀ k, Y k → doms L k) : StX X w0 q w' M :=
  have hy : ∀ k, Y k → w0.heap.size ≤ k ∨ X k := fun k hk => by obtain ⟨x, hx, hd⟩ := doms_mem.1 (hY k hk); exact (S.mine x hx k hd).1
  ⟨S.x.but R.x hy, R.holds, R.has, fun x hx k hk => ⟨(R.mine x hx k hk).1.elim (fun h => .inl (Nat.le_trans S.x.size h)) (hy k), (R.mine x hx k hk).2⟩, R.apart⟩
theorem doms_blk (S : StX X w0 r w L) : ∀ b, doms L b → ∃ o, w.heap[b]? = some o ∧ Obj.isBook o = false := fun b hb => by
  obtain ⟨x, hx, hd⟩ := doms_mem.1 hb
  have h := S.has x hx
  cases x with
  | cell b' c T => cases hd; exact ⟨_, h, rfl⟩
  | row v e sz n xs =>
    rcases row_cases h with h0 | ⟨g, cap, c, h1, h2, B, _⟩
    · rw [Asr.dom, h0] at hd; cases hd
    · rw [Asr.dom, h1] at hd; cases hd; exact ⟨_, B, rfl⟩
  | que v e sz n xs =>
    rcases que_cases h with h0 | ⟨g, c, h1, B⟩
    · rw [Asr.dom, h0] at hd; cases hd
    · rw [Asr.dom, h1] at hd; cases hd; exact ⟨_, B, rfl⟩
end

/-! ### Finding a cell of one's own -/
class At (b : Nat) (L : List Asr) (c : outParam (List Value)) (T : outParam TypeId) (f : outParam (List Value → List Asr)) : Prop where
  h : ∃ p q, L = p ++ .cell b c T :: q ∧ ∀ c', f c' = p ++ .cell b c' T :: q
instance {b : Nat} {c : List Value} {T : TypeId} {L : List Asr} : At b (.cell b c T :: L) c T fun c' => .cell b c' T :: L := ⟨[], L, rfl, fun _ => rfl⟩
instance (priority := low) {b : Nat} {c : List Value} {T : TypeId} {x : Asr} {L : List Asr} {f : List Value → List Asr} [h : At b L c T f] : At b (x :: L) c T fun c' => x :: f c' := ⟨by
  obtain ⟨p, q, h1, h2⟩ := h.h
  exact ⟨x :: p, q, by rw [h1]; rfl, fun c' => by rw [h2]; rfl⟩⟩
class RowAt (v : Value) (L : List Asr) (e : outParam TypeId) (sz n : outParam Nat) (xs : outParam (List Value)) (f : outParam (Asr → List Asr)) : Prop where
  h : ∃ p q, L = p ++ .row v e sz n xs :: q ∧ ∀ y, f y = p ++ y :: q
instance {v : Value} {e : TypeId} {sz n : Nat} {xs : List Value} {L : List Asr} : RowAt v (.row v e sz n xs :: L) e sz n xs fun y => y :: L := ⟨[], L, rfl, fun _ => rfl⟩
instance (priority := low) {v : Value} {e : TypeId} {sz n : Nat} {xs : List Value} {x : Asr} {L : List Asr} {f : Asr → List Asr} [h : RowAt v L e sz n xs f] : RowAt v (x :: L) e sz n xs fun y => x :: f y := ⟨by
  obtain ⟨p, q, h1, h2⟩ := h.h
  exact ⟨x :: p, q, by rw [h1]; rfl, fun c' => by rw [h2]; rfl⟩⟩

section
variable {P : Program} {X : Nat → Prop} {w0 w : World} {r : Gh} {L : List Asr} {t T : TypeId} {b i n : Nat} {c : List Value} {v : Value} {f : List Value → List Asr}
theorem StX.blk (S : StX X w0 r w L) (b : Nat) [h : At b L c T f] : Blk w b c T := by
  obtain ⟨p, q, h1, _⟩ := h.h
  exact S.has (.cell b c T) (by rw [h1]; simp)
theorem StX.ge (S : StX X w0 r w L) (b : Nat) [h : At b L c T f] : w0.heap.size ≤ b ∨ X b := by
  obtain ⟨p, q, h1, _⟩ := h.h
  exact (S.mine (.cell b c T) (by rw [h1]; simp) b rfl).1
theorem StX.ld (S : StX X w0 r w L) [h : At b L c T f] [k : Ld1 P t] {K : Value → Prop} (hk : K v) (hc : c[i]? = some v := by rfl) : opQ P w (Instr.loadAt t (.pointer (some ⟨b, i, none⟩))) K :=
  q_load k.h (((S.blk b (h := h)).cell i).trans hc) hk
theorem StX.ldB (S : StX X w0 r w L) [h : At b L c T f] [k : LdN P t n] {K : Value → Prop} (hk : K (.agg c.toArray)) (hc : c.length = n := by rfl) : opQ P w (Instr.loadAt t (.pointer (some ⟨b, 0, none⟩))) K :=
  q_loadB (by rw [hc]; exact k.h) (S.blk b (h := h)) hk
theorem StX.ldN (S : StX X w0 r w L) [h : At b L c T f] [k : LdN P t n] {K : Value → Prop} {vs : List Value} (hk : K (.agg vs.toArray)) (hv : (c.drop i).take n = vs := by rfl) (hl : vs.length = n := by rfl) : opQ P w (Instr.loadAt t (.pointer (some ⟨b, i, none⟩))) K :=
  q_loadN (by rw [hl]; exact k.h) (fun j u hu => by
    rw [(S.blk b (h := h)).cell]
    rw [← hv, List.getElem?_take] at hu
    split at hu
    · rw [← List.getElem?_drop]; exact hu
    · cases hu) hk
theorem StX.ce (S : StX X w0 r w L) [h : At b L [v] T f] [k : Ld1 P t] {K : Value → Prop} (hk : K v) : opQ P w (cellSem t (.pointer (some ⟨b, 0, none⟩))) K :=
  q_cell1 k.h (by rw [(S.blk b (h := h)).cell]; rfl) hk
theorem StX.ceB (S : StX X w0 r w L) [h : At b L c T f] [k : LdN P t n] {K : Value → Prop} (hk : K (.agg c.toArray)) (hc : c.length = n := by rfl) : opQ P w (cellSem t (.pointer (some ⟨b, 0, none⟩))) K :=
  q_cellB (by rw [hc]; exact k.h) (S.blk b (h := h)) hk
/-- what stays is read -/
theorem StX.rd (S : StX X w0 r w L) {q : Gh} {a : Addr} (h : Ob q fun w => w.cell? a = some v) [Le q r] [k : Ld1 P t] {K : Value → Prop} (hk : K v) : opQ P w (Instr.loadAt t (.pointer (some a))) K :=
  q_load k.h (S.at h) hk

theorem StX.alM (S : StX X w0 r w L) [z : ZrT P t c] {K : Value → World → Prop} (h : ∀ b w', b = w.heap.size → NC w w' → StX X w0 r w' (.cell b c t :: L) → K (.pointer (some ⟨b, 0, none⟩)) w') : opW P w (Instr.alloc t true (.tuple #[])) K :=
  w_alloc z.h fun b w' hb e _ B => h b w' hb (NC.of_ext e) (S.add e (by omega) B)
theorem StX.al (S : StX X w0 r w L) [z : ZrT P t c] {K : Value → World → Prop} (h : ∀ b w', StX X w0 r w' (.cell b c t :: L) → K (.pointer (some ⟨b, 0, none⟩)) w') : opW P w (Instr.alloc t true (.tuple #[])) K :=
  S.alM fun b w' _ _ => h b w'
theorem StX.boxM (S : StX X w0 r w L) {K : Value → World → Prop} (h : ∀ b w', b = w.heap.size → NC w w' → StX X w0 r w' (.cell b v.cells.toList t :: L) → K (.pointer (some ⟨b, 0, none⟩)) w') : opW P w (Instr.box t v) K :=
  w_box fun b w' hb e _ B => h b w' hb (NC.of_ext e) (S.add e (by omega) B)
theorem StX.box (S : StX X w0 r w L) {K : Value → World → Prop} (h : ∀ b w', StX X w0 r w' (.cell b v.cells.toList t :: L) → K (.pointer (some ⟨b, 0, none⟩)) w') : opW P w (Instr.box t v) K :=
  S.boxM fun b w' _ _ => h b w'
theorem StX.turnC (S : StX X w0 r w L) [h : At b L c T f] {w' : World} {c' : List Value} (e : ExtBut (· = b) w w') (B : Blk w' b c' T) : StX X w0 r w' (f c') := by
  obtain ⟨p, q, h1, h2⟩ := h.h
  rw [h2]
  rw [h1] at S
  exact S.turn (x := .cell b c T) (y := .cell b c' T) e B fun k hk => .inl hk
theorem StX.stM (S : StX X w0 r w L) [h : At b L c T f] [z : SzT P t 1] {K : World → Prop} (k : ∀ w', NC w w' → StX X w0 r w' (f (c.set i v)) → K w') (hl : i < c.length := by simp) (h1 : v.oneCell' = true := by rfl) : opU P w (Instr.storeAt t (.pointer (some ⟨b, i, none⟩)) v) K :=
  w_store1 z.h (S.blk b (h := h)) hl h1 fun w' x _ B => k w' (NC.of_b (S.blk b (h := h)) x) (S.turnC (h := h) x B)
theorem StX.st (S : StX X w0 r w L) [h : At b L c T f] [z : SzT P t 1] {K : World → Prop} (k : ∀ w', StX X w0 r w' (f (c.set i v)) → K w') (hl : i < c.length := by simp) (h1 : v.oneCell' = true := by rfl) : opU P w (Instr.storeAt t (.pointer (some ⟨b, i, none⟩)) v) K :=
  S.stM (h := h) (fun w' _ => k w') hl h1
theorem StX.stBM (S : StX X w0 r w L) [h : At b L c T f] [z : SzT P t n] {cs : Array Value} {K : World → Prop} (k : ∀ w', NC w w' → StX X w0 r w' (f cs.toList) → K w') (hl : c.length = n := by rfl) (hc : cs.size = n := by rfl) (h1 : ∀ u ∈ cs.toList, u.oneCell' = true := by simp [Value.oneCell']) : opU P w (Instr.storeAt t (.pointer (some ⟨b, 0, none⟩)) (.agg cs)) K :=
  w_storeB (v := .agg cs) (by rw [show (Value.agg cs).cells.size = n from hc]; exact z.h) (S.blk b (h := h)) (by rw [hl]; exact hc) h1 fun w' x _ B => k w' (NC.of_b (S.blk b (h := h)) x) (S.turnC (h := h) x B)
theorem StX.stB (S : StX X w0 r w L) [h : At b L c T f] [z : SzT P t n] {cs : Array Value} {K : World → Prop} (k : ∀ w', StX X w0 r w' (f cs.toList) → K w') (hl : c.length = n := by rfl) (hc : cs.size = n := by rfl) (h1 : ∀ u ∈ cs.toList, u.oneCell' = true := by simp [Value.oneCell']) : opU P w (Instr.storeAt t (.pointer (some ⟨b, 0, none⟩)) (.agg cs)) K :=
  S.stBM (h := h) (fun w' _ => k w') hl hc h1
theorem StX.stN (S : StX X w0 r w L) [h : At b L c T f] [z : SzT P t n] {cs : Array Value} {K : World → Prop} (k : ∀ w', StX X w0 r w' (f (c.take i ++ cs.toList ++ c.drop (i + n))) → K w') (hl : i + n ≤ c.length := by simp) (hc : cs.size = n := by rfl) (h1 : ∀ u ∈ cs.toList, u.oneCell' = true := by simp [Value.oneCell']) : opU P w (Instr.storeAt t (.pointer (some ⟨b, i, none⟩)) (.agg cs)) K :=
  w_store (v := .agg cs) (by rw [show (Value.agg cs).cells.size = n from hc]; exact z.h) (S.blk b (h := h)) (by rw [show (Value.agg cs).cells.size = n from hc]; exact hl) h1 fun w' x _ B => k w' (S.turnC (h := h) x (by rw [show (Value.agg cs).cells.size = n from hc] at B; exact B))

theorem StX.lit (S : StX X w0 r w L) {e : TypeId} {len : Nat} {parts : Array (Nat × Value)} {cs : List Value} {K : Value → World → Prop} (hT : bslT P t len parts = some (e, cs))
    (h : ∀ b w', StX X w0 r w' (.cell b cs e :: L) → K (.slice (some ⟨b, 0, none⟩) len len) w') : opW P w (Instr.buildSlice t len parts) K :=
  w_lit hT fun b w' hb e' _ B => h b w' (S.add e' (by omega) B)
/-- a slice of one's own grows -/
theorem StX.ownNil (S : StX X w0 r w L) (e : TypeId) (sz : Nat) : StX X w0 r w (.row (.slice none 0 0) e sz 0 [] :: L) := by
  refine ⟨S.x, S.holds, ?_, ?_, .cons (fun y _ k hk => by cases hk) S.apart⟩
  · intro x hx; rcases List.mem_cons.1 hx with rfl | hx
    · exact World.ownsRow_nil _ _ _ _
    · exact S.has x hx
  · intro x hx; rcases List.mem_cons.1 hx with rfl | hx
    · intro k hk; cases hk
    · exact S.mine x hx
theorem StX.apM (S : StX X w0 r w L) {e ty : TypeId} {sz by' m m' cap : Nat} {xs news : List Value} {p : Option Addr} {g : Asr → List Asr} [h : RowAt v L e sz m xs g] [z : ApT P t e sz by'] {K : Value → World → Prop}
    (hs : Sl w p news) (k : ∀ v' w', NC w w' → (v' = .slice none 0 0 ↔ v = .slice none 0 0 ∧ m' = 0) → StX X w0 r w' (g (.row v' e sz (m + m') (xs ++ news))) → K v' w')
    (hb : (m + m') * by' ≤ 140737488355328) (hl : news.length = m' * sz := by simp) (hp : p = none → cap = 0 := by simp) (h1 : ∀ u ∈ news, u.oneCell' = true := by simp [Value.oneCell']) : opW P w (Builtin.append_ #[t, t] ty #[v, .slice p m' cap]) K := by
  obtain ⟨pp, qq, h2, h3⟩ := h.h
  have hr := S.has (.row v e sz m xs) (by rw [h2]; simp)
  refine w_append z.h hr hs hl hp h1 hb (Nat.zero_le _) fun v' w' h4 h5 h6 h7 => k v' w' ?_ h7 ?_
  · refine NC.of_but h5 fun b hb => ?_
    rcases row_cases hr with h0 | ⟨g', cap', c', h8, h9, B, _⟩
    · rw [h0] at hb; cases hb
    · rw [h8] at hb; cases hb; exact ⟨_, _, B⟩
  · rw [h3]
    rw [h2] at S
    refine S.turn (x := .row v e sz m xs) (y := .row v' e sz (m + m') (xs ++ news)) h5 h4 fun j hj => ?_
    rw [Asr.dom] at hj
    rcases h6 with h6 | h6
    · rw [h6] at hj; exact .inl hj
    · rw [h6] at hj; cases hj; exact .inr (Nat.le_refl _)
theorem StX.ap (S : StX X w0 r w L) {e ty : TypeId} {sz by' m m' cap : Nat} {xs news : List Value} {p : Option Addr} {g : Asr → List Asr} [h : RowAt v L e sz m xs g] [z : ApT P t e sz by'] {K : Value → World → Prop}
    (hs : Sl w p news) (k : ∀ v' w', StX X w0 r w' (g (.row v' e sz (m + m') (xs ++ news))) → K v' w')
    (hb : (m + m') * by' ≤ 140737488355328) (hl : news.length = m' * sz := by simp) (hp : p = none → cap = 0 := by simp) (h1 : ∀ u ∈ news, u.oneCell' = true := by simp [Value.oneCell']) : opW P w (Builtin.append_ #[t, t] ty #[v, .slice p m' cap]) K :=
  S.apM (h := h) hs (fun v' w' _ _ => k v' w') hb hl hp h1
/-- .. and is told as one that stays -/
theorem StX.rowSl (S : StX X w0 r w L) {e : TypeId} {sz m : Nat} {xs : List Value} {g : Asr → List Asr} (v : Value) [h : RowAt v L e sz m xs g] : w.ownsRow 0 e sz v m xs := by
  obtain ⟨pp, qq, h2, h3⟩ := h.h
  exact S.has (.row v e sz m xs) (by rw [h2]; simp)
end

/-! ### Relations of a value with what it tells, in a memory that stays -/
abbrev Rl (α : Type) := Gh → Value → α → Prop
class Mono {α : Type} (R : Rl α) : Prop where
  up : ∀ {r s : Gh} {v : Value} {x : α}, (∀ b o, r b o → s b o) → R r v x → R s v x
theorem up {α : Type} {R : Rl α} {r s : Gh} {v : Value} {x : α} (h : R r v x) [m : Mono R] [l : Le r s] : R s v x := m.up l.le h
end Go.Sh
end

section
namespace Go.Sh
open Go.RowKit
/-- no book-keeping among these -/
class NoBook (r : Gh) : Prop where
  h : ∀ b o, r b o → Obj.isBook o = false
instance {r s : Gh} [h : NoBook r] [k : NoBook s] : NoBook (r.or s) := ⟨fun b o x => x.elim (h.h b o) (k.h b o)⟩
instance {b : Nat} {c : List Value} {T : TypeId} : NoBook (one b c T) := ⟨fun _ _ h => by rw [h.2]; rfl⟩
instance : NoBook nothing := ⟨fun _ _ h => h.elim⟩
theorem c_t {c : Bool} {A B : Prop} (h : c = true) (a : A) : oCond (.bool c) A B := by subst h; exact a
theorem c_f {c : Bool} {A B : Prop} (h : c = false) (b : B) : oCond (.bool c) A B := by subst h; exact b
section
variable {P : Program} {X : Nat → Prop} {w0 w : World} {r : Gh} {L : List Asr}
/-- a row of one's own that is not empty is a cell -/
theorem StX.rowCell (S : StX X w0 r w L) {e : TypeId} {sz m : Nat} {xs : List Value} {g : Asr → List Asr} (v : Value) [h : RowAt v L e sz m xs g] (hm : m ≠ 0) :
    ∃ b cap c, v = .slice (some ⟨b, 0, none⟩) m cap ∧ m ≤ cap ∧ c.length = cap * sz ∧ c.take (m * sz) = xs ∧ StX X w0 r w (g (.cell b c e)) := by
  obtain ⟨pp, qq, h2, h3⟩ := h.h
  have hr := S.has (.row v e sz m xs) (by rw [h2]; simp)
  rcases own_blk hr with ⟨_, h0, _⟩ | ⟨b, cap, c, rfl, hb, B, hn, _, hc, ht⟩
  · exact absurd h0 hm
  · refine ⟨b, cap, c, rfl, hn, hc, ht, ?_⟩
    rw [h3]
    rw [h2] at S
    exact S.turn (x := .row _ e sz m xs) (y := .cell b c e) (ExtBut.refl _ _) B fun k hk => .inl (by cases hk; rfl)
theorem StX.swap {x y : Asr} (S : StX X w0 r w (x :: y :: L)) : StX X w0 r w (y :: x :: L) := by
  have hp : (y :: x :: L).Perm (x :: y :: L) := .swap x y L
  have ha := S.apart
  refine ⟨S.x, S.holds, fun z hz => S.has z (hp.subset hz), fun z hz => S.mine z (hp.subset hz), ?_⟩
  rw [List.pairwise_cons, List.pairwise_cons] at ha
  refine .cons (fun z hz k hk hk2 => ?_) (.cons (fun z hz => ha.1 z (List.mem_cons_of_mem _ hz)) ha.2.2)
  rcases List.mem_cons.1 hz with rfl | hz
  · exact ha.1 y List.mem_cons_self k hk2 hk
  · exact ha.2.1 z hz k hk hk2
theorem StX.tl {x : Asr} (S : StX X w0 r w (x :: L)) : StX X w0 r w L := S.less (fun _ _ h => h) (List.sublist_cons_self _ _)
theorem StX.to (S : StX X w0 r w L) (q : Gh) [l : Le q r] : StX X w0 q w L := S.less l.le (List.Sublist.refl _)
theorem StX.alU (S : StX X w0 r w L) {t : TypeId} {c : List Value} [z : ZrT P t c] {K : Value → World → Prop} (h : ∀ b w', StX X w0 r w' (.cell b c t :: L) → K (.pointer (some ⟨b, 0, none⟩)) w') :
    opW P w (Instr.alloc t true (.tuple #[])) fun t' w' => Ext w w' ∧ K t' w' :=
  w_alloc z.h fun b w' hb e _ B => ⟨e, h b w' (S.add e (by omega) B)⟩
theorem StX.boxU (S : StX X w0 r w L) {t : TypeId} {v : Value} {K : Value → World → Prop} (h : ∀ b w', StX X w0 r w' (.cell b v.cells.toList t :: L) → K (.pointer (some ⟨b, 0, none⟩)) w') :
    opW P w (Instr.box t v) fun t' w' => Ext w w' ∧ K t' w' :=
  w_box fun b w' hb e _ B => ⟨e, h b w' (S.add e (by omega) B)⟩
/-- a row of one's own, told as what stays -/
theorem row_gh {w w' : World} {e : TypeId} {sz n : Nat} {v : Value} {xs : List Value} (h : w'.ownsRow w.heap.size e sz v n xs) :
    ∃ s p cap, New w s w' ∧ NoBook s ∧ v = .slice p n cap ∧ (p = none → cap = 0) ∧ n ≤ cap ∧ (Ob s fun w => Sl w p xs) := by
  rcases own_blk h with ⟨rfl, rfl, rfl⟩ | ⟨g, cap, c, rfl, hg, B, h1, _, h3, h4⟩
  · exact ⟨nothing, none, 0, New.nothing, inferInstance, rfl, fun _ => rfl, Nat.le_refl _, fun w _ => Sl.nil w _⟩
  · refine ⟨one g c e, _, cap, New.one B hg, inferInstance, rfl, by simp, h1, fun w k => ?_⟩
    rw [← h4]; exact (Sl.blk (one_blk w k)).take _
/-- a range that a round may leave by an exit -/
theorem r_exit {w : World} {n id : Nat} {g : Value} {round : List Value → World → (Nat → Prop) → (Exit → World → Prop) → Prop} {Kn Kr Kb : World → Prop}
    (xs : List (List Value)) (S : Nat → Prop) (J : Nat → World → Prop) (Jb : World → Prop)
    (hS : ∀ b, S b → ∃ o, w.heap[b]? = some o ∧ Obj.isBook o = false) (hI : IterC P g w xs S) (hn : ∀ x ∈ xs, x.length = n)
    (n0 : ∀ k W W', J k W → Nl w.heap.size W W' → J k W') (nb : ∀ W W', Jb W → Nl w.heap.size W W' → Jb W') (h0 : J 0 w)
    (hr : ∀ k x W, xs[k]? = some x → J k W → ∀ KR : Exit → World → Prop, (∀ W2, J (k + 1) W2 → KR .normal W2) → (∀ W2, Jb W2 → KR (.exit id) W2) → round x W S KR)
    (kn : ∀ W, J xs.length W → Kn W) (kb : ∀ W, Jb W → Kb W) : oRange P n g w round Kn Kr [(id, Kb)] := by
  refine ⟨xs, S, J, fun e W => match e with | .exit i => i = id ∧ Jb W | _ => False, hS, hI, hn, n0, ?_, h0, ?_, kn, fun W h => h.elim, ?_, fun l W h => h⟩
  · intro e W W' h1 h2
    cases e <;> first | exact h1.elim | exact ⟨h1.1, nb W W' h1.2 h2⟩
  · intro k x W hx hJ
    exact hr k x W hx hJ _ (fun W2 hj => hj) (fun W2 hj => ⟨rfl, hj⟩)
  · rintro i W ⟨rfl, h⟩
    exact ⟨Kb, by simp, kb W h⟩
/-! ### With marks: no block of book-keeping turns -/
section
variable {t T : TypeId} {b i n : Nat} {c : List Value} {v : Value} {f : List Value → List Asr}
theorem StX.alN (S : StX X w0 r w L) [z : ZrT P t c] {K : Value → World → Prop} (h : ∀ b w', b = w.heap.size → StX X w0 r w' (.cell b c t :: L) → K (.pointer (some ⟨b, 0, none⟩)) w') :
    opW P w (Instr.alloc t true (.tuple #[])) fun t' w' => NC w w' ∧ K t' w' := S.alM fun b w' hb nc S => ⟨nc, h b w' hb S⟩
theorem StX.boxN (S : StX X w0 r w L) {K : Value → World → Prop} (h : ∀ b w', b = w.heap.size → StX X w0 r w' (.cell b v.cells.toList t :: L) → K (.pointer (some ⟨b, 0, none⟩)) w') :
    opW P w (Instr.box t v) fun t' w' => NC w w' ∧ K t' w' := S.boxM fun b w' hb nc S => ⟨nc, h b w' hb S⟩
theorem StX.stN' (S : StX X w0 r w L) [h : At b L c T f] [z : SzT P t 1] {K : World → Prop} (k : ∀ w', StX X w0 r w' (f (c.set i v)) → K w') (hl : i < c.length := by simp) (h1 : v.oneCell' = true := by rfl) :
    opU P w (Instr.storeAt t (.pointer (some ⟨b, i, none⟩)) v) fun w' => NC w w' ∧ K w' := S.stM (h := h) (fun w' nc S => ⟨nc, k w' S⟩) hl h1
theorem StX.stBN (S : StX X w0 r w L) [h : At b L c T f] [z : SzT P t n] {cs : Array Value} {K : World → Prop} (k : ∀ w', StX X w0 r w' (f cs.toList) → K w') (hl : c.length = n := by rfl) (hc : cs.size = n := by rfl)
    (h1 : ∀ u ∈ cs.toList, u.oneCell' = true := by simp [Value.oneCell']) :
    opU P w (Instr.storeAt t (.pointer (some ⟨b, 0, none⟩)) (.agg cs)) fun w' => NC w w' ∧ K w' := S.stBM (h := h) (fun w' nc S => ⟨nc, k w' S⟩) hl hc h1
theorem StX.litN (S : StX X w0 r w L) {e : TypeId} {len : Nat} {parts : Array (Nat × Value)} {cs : List Value} {K : Value → World → Prop} (hT : bslT P t len parts = some (e, cs))
    (h : ∀ b w', StX X w0 r w' (.cell b cs e :: L) → K (.slice (some ⟨b, 0, none⟩) len len) w') : opW P w (Instr.buildSlice t len parts) fun t' w' => NC w w' ∧ K t' w' :=
  w_lit hT fun b w' hb e' _ B => ⟨NC.of_ext e', h b w' (S.add e' (by omega) B)⟩
end
theorem StX.dlt (S : StX X w0 r w L) {b : Nat} (h : doms L b) : b < w.heap.size := by
  obtain ⟨x, hx, hd⟩ := doms_mem.1 h; exact Asr.lt (S.has x hx) hd
theorem StX.dge (S : StX noX w0 r w L) {b : Nat} (h : doms L b) : w0.heap.size ≤ b := by
  obtain ⟨x, hx, hd⟩ := doms_mem.1 h; exact (S.mine x hx b hd).1.resolve_right id
/-- all of it lies below, or is no book-keeping -/
class Low (n : Nat) (r : Gh) : Prop where
  h : ∀ b o, r b o → b < n ∨ Obj.isBook o = false
instance {n : Nat} {r s : Gh} [h : Low n r] [k : Low n s] : Low n (r.or s) := ⟨fun b o x => x.elim (h.h b o) (k.h b o)⟩
instance (priority := low) {n : Nat} {r : Gh} [h : NoBook r] : Low n r := ⟨fun b o x => .inr (h.h b o x)⟩
theorem StX.low (S : StX X w0 r w L) : Low w.heap.size r := ⟨fun _ _ x => .inl (S.holds.lt x)⟩
theorem StX.nl (S : StX X w0 r w L) {n : Nat} {w' : World} (e : Nl n w w') (hn : w0.heap.size ≤ n) [l : Low n r] : StX X w0 r w' L := S.nlX hn l.h e
/-- the end of a walk with marks -/
theorem StX.shut (S : StX X w0 r w L) {w' : World} (e : Shuts w0.heap.size w w') [l : Low w0.heap.size r] : StX X w0 r w' L := by
  have hb : ∀ b o, w.heap[b]? = some o → (b < w0.heap.size ∨ Obj.isBook o = false) → w'.heap[b]? = some o := fun b o h hh => by
    rw [e.block b (hh.imp id fun hh ds hd => by rw [h] at hd; cases hd; cases hh)]; exact h
  exact S.nlX (Nat.le_refl _) l.h ⟨e.os, e.tape, e.output, Nat.le_of_eq e.size.symm, hb⟩
end
end Go.Sh
end

section
namespace Go.Sh
open Go.RowKit

/-- a deferred call of a function: u: the mode of the frame that leaves -/
def oDef (P : Program) (g : FuncId) (args : Array Value) (u : FrameMode) (w : World) (R : FrameMode → World → Prop) (Rp : List PanicEntry → FrameMode → World → Prop) : Prop :=
  CallsDIn (FW none) 0 P g args u w fun
    | .returned _, u', w' => R u' w'
    | .panicked c, u', w' => Rp c u' w'
    | .outgrown, _, _ => False
/-- what recover hands back, and the mode behind it -/
def recov : FrameMode → Value × FrameMode
  | .panicking ({ v, recovered := false, goexit := false } :: older) => (v, .panicking ({ v, recovered := true } :: older))
  | u => (.nilIface, u)
theorem recov_spec (c₀ : Frame) (cs : List Frame) : (recoverD (c₀ :: cs) = none ∧ recov c₀.mode = (.nilIface, c₀.mode)) ∨
    recoverD (c₀ :: cs) = some ((recov c₀.mode).1, { c₀ with mode := (recov c₀.mode).2 } :: cs) := by
  cases hmode : c₀.mode with
  | run => left; simp [recoverD, recov, hmode]
  | returning => left; simp [recoverD, recov, hmode]
  | panicking ch =>
    cases ch with
    | nil => left; simp [recoverD, recov, hmode]
    | cons p older =>
      obtain ⟨v, r, g⟩ := p
      cases r <;> cases g <;> simp [recoverD, recov, hmode]

section
variable {P : Program}
/-- A DEFERRED CLOSURE: its first region asks recover; what comes behind is read as ever. -/
theorem oDef_of_sw {f : FuncId} {fn : Func} {A : Ann} {pan : Bool} {id t : Nat} {o : Oper} {c2 : Code} {args : Array Value} {u : FrameMode} {w : World} {R : FrameMode → World → Prop} {Rp : List PanicEntry → FrameMode → World → Prop}
    (hm : P.follows .mixedOrders = true) (hf : P.funcs[f]? = some fn) (hb : fn.body = some (.seq (.region id #[o] false) c2)) (hr : fn.results = #[])
    (ho : ∃ c, o.op = .call c ∧ c.callee = .builtin .recover) (hg : o.guard = none) (hd : o.dst = some t) (hc : chk ⟨false, pan⟩ P false A c2 = true)
    (h : sw ⟨false, pan⟩ P (fun c w' => Rp c (recov u).2 w') A c2 (st (args.toList ++ List.replicate (fn.ntmps - args.size) undef) (some t) (recov u).1) w fun
      | .normal, _, w' => R (recov u).2 w'
      | .ret, _, w' => R (recov u).2 w'
      | _, _, _ => False) : oDef P f args u w R Rp := by
  refine callsDIn_of_wpSIn hf hb trivial fun c₀ cs hu => ?_
  have hact : ({ tmps := args ++ Array.replicate (fn.ntmps - args.size) undef, defers := [] } : Act) = act (args.toList ++ List.replicate (fn.ntmps - args.size) undef) [] := by
    simp only [act, Act.mk.injEq, and_true]
    apply Array.ext'
    simp
  rw [hact]
  generalize args.toList ++ List.replicate (fn.ntmps - args.size) undef = e at h
  obtain ⟨c, hoc, hcal⟩ := ho
  obtain ⟨dst, op, type, pos, after, guard⟩ := o
  simp only at hoc hg hd
  subst hoc hg hd
  obtain ⟨cal, cargs, ats⟩ := c
  simp only at hcal
  subst hcal
  have hcont : ∀ cs', cs' = { c₀ with mode := (recov u).2 } :: cs → c2.wpSIn (FW none) 0 P (bodyPostS P fn c₀ cs fun
      | .returned _, u', w' => R u' w'
      | .panicked c, u', w' => Rp c u' w'
      | .outgrown, _, _ => False) (act (st e (some t) (recov u).1) []) cs' w := by
    rintro cs' rfl
    refine wpSIn_of_wpIn rfl (wpIn_mono (sw_sound (D0 := []) (n0 := 0) hm c2 A ⟨false, pan⟩ none _ _ [] w _ hc rfl h) ?_)
    have fin : ∀ e' ds w', ds = [] → R (recov u).2 w' → ∃ u', ({ c₀ with mode := (recov u).2 } :: cs : List Frame) = { c₀ with mode := u' } :: cs ∧ ∃ v, (results fn (act e' ds).tmps).run P w' = .ok v w' ∧ R u' w' := by
      rintro e' ds w' rfl hR
      refine ⟨_, rfl, .tuple #[], ?_, hR⟩
      have hz : fn.results.toList = [] := by rw [hr]
      obtain ⟨vs, h1, h2⟩ := results_of (P := P) (f := fn) (w := w') (e := e') (K := fun vs => vs = []) (by rw [hz]; rfl)
      subst h2; exact h1
    intro x a w' hx
    cases x with
    | normal => obtain ⟨e', ds, rfl, _, hmk, hq⟩ := hx; exact ⟨hmk, fin e' ds w' hmk hq⟩
    | ret => obtain ⟨e', ds, rfl, _, hmk, hq⟩ := hx; exact ⟨hmk, fin e' ds w' hmk hq⟩
    | panic ch => obtain ⟨⟨e', ds, rfl, _, hmk⟩, hq⟩ := hx; exact ⟨hmk, _, rfl, hq⟩
    | outgrown => exact hx.elim
    | exit id => obtain ⟨_, _, _, _, _, h⟩ := hx; exact h.elim
    | goto l => obtain ⟨_, _, _, _, _, h⟩ := hx; exact h.elim
  refine wpSIn_seq (wpSIn_region ?_)
  have hexec : (execOp (act e []).eval ({ dst := some t, op := .call { callee := .builtin .recover, args := cargs, argTypes := ats }, type, pos, after, guard := none } : Oper)).run P w = .ok .recover w := by
    simp only [execOp, resolve, Sem.run_bind, Sem.run, pure, Result.andThen, invoke, builtin]
  have hwant : ∀ y, Region.wanted ({ dst := some t, op := .call { callee := .builtin .recover, args := cargs, argTypes := ats }, type, pos, after, guard := none } : Oper) y = true := fun _ => rfl
  have hdst : ({ dst := some t, op := .call { callee := .builtin .recover, args := cargs, argTypes := ats }, type, pos, after, guard := none } : Oper).dst = some t := rfl
  generalize ({ dst := some t, op := .call { callee := .builtin .recover, args := cargs, argTypes := ats }, type, pos, after, guard := none } : Oper) = o at *
  rw [show List.range (#[o] : Array Oper).size = [0] from rfl, wpOpsSIn]
  simp only [show (#[o] : Array Oper)[0]? = some o from rfl]
  refine ⟨fun _ _ => trivial, ?_⟩
  rw [if_pos (hwant _), hexec]
  simp only [hdst]
  rw [← hu] at hcont
  rcases recov_spec c₀ cs with ⟨h1, h2⟩ | h1
  · rw [h1]
    have := hcont (c₀ :: cs) (by rw [h2])
    rw [h2] at this
    rw [act_put]
    exact this
  · rw [h1]
    have := hcont _ rfl
    simp only [wpOpsSIn, Exit.thenS, act_put]
    exact this

def codeTail : Code → Code
  | .seq _ b => b
  | c => c
/-- does it begin by asking recover? where its answer goes -/
def recHead : Code → Option Nat
  | .seq (.region _ ops false) _ => match ops.toList with
    | [o] => match o.guard, o.dst, o.op with
      | none, some t, .call c => match c.callee with
        | .builtin .recover => some t
        | _ => none
      | _, _, _ => none
    | _ => none
  | _ => none
theorem recHead_spec {c : Code} {t : Nat} (h : recHead c = some t) : ∃ id o, c = .seq (.region id #[o] false) (codeTail c) ∧ (∃ c', o.op = .call c' ∧ c'.callee = .builtin .recover) ∧ o.guard = none ∧ o.dst = some t := by
  unfold recHead at h
  split at h
  rotate_left
  · cases h
  rename_i id ops c2
  split at h
  rotate_left
  · cases h
  rename_i o hl
  split at h
  rotate_left
  · cases h
  rename_i t' c' hg hd ho
  split at h
  rotate_left
  · cases h
  rename_i hcal
  cases h
  have hops : ops = #[o] := by rw [← Array.toArray_toList (xs := ops), hl]
  subst hops
  exact ⟨id, o, rfl, ⟨c', ho, hcal⟩, hg, hd⟩
theorem oDef_of {f : FuncId} {fn : Func} {A : Ann} {pan : Bool} {t : Nat} {args : Array Value} {u : FrameMode} {w : World} {R : FrameMode → World → Prop} {Rp : List PanicEntry → FrameMode → World → Prop}
    (hm : P.follows .mixedOrders = true) (hf : P.funcs[f]? = some fn) (hb : fn.body.isSome = true) (hh : recHead (bodyOf fn) = some t) (hr : fn.results = #[]) (hc : chk ⟨false, pan⟩ P false A (codeTail (bodyOf fn)) = true)
    (h : sw ⟨false, pan⟩ P (fun c w' => Rp c (recov u).2 w') A (codeTail (bodyOf fn)) (st (args.toList ++ List.replicate (fn.ntmps - args.size) undef) (some t) (recov u).1) w fun
      | .normal, _, w' => R (recov u).2 w'
      | .ret, _, w' => R (recov u).2 w'
      | _, _, _ => False) : oDef P f args u w R Rp := by
  obtain ⟨id, o, h1, h2, h3, h4⟩ := recHead_spec hh
  obtain ⟨c, hbc⟩ := Option.isSome_iff_exists.1 hb
  have hbody : bodyOf fn = c := by simp [bodyOf, hbc]
  exact oDef_of_sw hm hf (by rw [hbc, ← hbody]; exact congrArg some h1) hr h2 h3 h4 hc h

/-! ### The function that defers -/
inductive DAnn where
  | s (A : Ann) (r : DAnn)
  | d (B : Ann)
/-- how a function ends, its deferred closure done -/
def eEnd (N : World → Prop) (Kp : List PanicEntry → World → Prop) (u : FrameMode) (w : World) : Prop :=
  match u with
  | .returning => N w
  | .panicking c => Kp c w
  | .run => False
def dEnd (P : Program) (fn : Func) (K : Value → World → Prop) (Kp : List PanicEntry → World → Prop) (e : Env) (u : FrameMode) (w : World) : Prop :=
  eEnd (fun w => resQ P w e fn.results.toList fun vs => K (tup vs) w) Kp u w
def dLeave (P : Program) (fn : Func) (K : Value → World → Prop) (Kp : List PanicEntry → World → Prop) (g : FuncId) (cap : Array Value) (e : Env) (u : FrameMode) (w : World) : Prop :=
  oDef P g cap u w (fun u' w' => dEnd P fn K Kp e (settle u') w') (fun c u' w' => dEnd P fn K Kp e (raised u' c) w')
/-- what is asked of the whole -/
def swD (P : Program) (fn : Func) (K : Value → World → Prop) (Kp : List PanicEntry → World → Prop) : DAnn → Code → Env → World → Prop
  | .s A r, .seq a b, e, w => sw ⟨false, false⟩ P (fun _ _ => False) A a e w fun
    | .normal, e', w' => swD P fn K Kp r b e' w'
    | _, _, _ => False
  | .d B, .seq (.region _ ops _) c2, e, w => match ops[0]? with
    | some o0 => match o0.op, o0.dst with
      | .makeFunc (.func g) _ caps, some t =>
        sw ⟨false, true⟩ P (fun c w' => dLeave P fn K Kp g (caps.map (ev e)) (st e (some t) (.func (.func g) #[] (caps.map (ev e)))) (.panicking c) w') B c2 (st e (some t) (.func (.func g) #[] (caps.map (ev e)))) w fun
          | .normal, e', w' => dLeave P fn K Kp g (caps.map (ev e)) e' .returning w'
          | .ret, e', w' => dLeave P fn K Kp g (caps.map (ev e)) e' .returning w'
          | _, _, _ => False
      | _, _ => False
    | none => False
  | _, _, _, _ => False
def cellsOnly (ws : List Nat) : List ResultVar → Bool
  | [] => true
  | .tmp _ :: _ => false
  | .cell a _ :: r => !has ws a && cellsOnly ws r
def chkD (P : Program) (fn : Func) : DAnn → Code → Bool
  | .s A r, .seq a b => chk ⟨false, false⟩ P false A a && chkD P fn r b
  | .d B, .seq (.region _ ops draw) c2 => !draw && chk ⟨false, true⟩ P false B c2 && cellsOnly (wr c2) fn.results.toList && (match ops.toList with
    | [o0, o1] => o0.guard.isNone && o1.guard.isNone && (match o0.op, o0.dst, o1.op, o1.dst with
      | .makeFunc (.func g) first _, some t, .defer c, none => decide (t < fn.ntmps) && first.isEmpty && enters P g && c.args.isEmpty && (match c.callee with | .value (.tmp t') => t' == t | _ => false)
      | _, _, _, _ => false)
    | _ => false)
  | _, _ => false
theorem resQ_ag {ws : List Nat} {e e' : Env} {w : World} (h : Ag ws e e') : ∀ (rs : List ResultVar) (K : List Value → Prop), cellsOnly ws rs = true → resQ P w e rs K → resQ P w e' rs K
  | [], _, _, hq => hq
  | .tmp _ :: _, _, hc, _ => by cases hc
  | .cell a t :: r, K, hc, hq => by
    simp only [cellsOnly, Bool.and_eq_true, Bool.not_eq_true'] at hc
    have ha : e'.getD a undef = e.getD a undef := by
      have hn : a ∉ ws := fun hm => by rw [(has_spec ws a).2 hm] at hc; cases hc.1
      rw [List.getD_eq_getElem?_getD, List.getD_eq_getElem?_getD, h.2 a hn]
    simp only [resQ] at hq ⊢
    rw [ha]
    obtain ⟨v, h1, h2⟩ := hq
    exact ⟨v, h1, resQ_ag h r _ hc.2 h2⟩
theorem dEnd_ag {fn : Func} {K : Value → World → Prop} {Kp : List PanicEntry → World → Prop} {ws : List Nat} {e e' : Env} {u : FrameMode} {w : World} (h : Ag ws e e') (hc : cellsOnly ws fn.results.toList = true) (hq : dEnd P fn K Kp e u w) :
    dEnd P fn K Kp e' u w := by
  cases u with
  | run => exact hq
  | returning => exact resQ_ag h _ _ hc hq
  | panicking c => exact hq
theorem swD_sound {f : FuncId} {fn : Func} {K : Value → World → Prop} {Kp : List PanicEntry → World → Prop} (hm : P.follows .mixedOrders = true) :
    ∀ (D : DAnn) (c : Code) (e : Env) (w : World), fn.ntmps ≤ e.length → chkD P fn D c = true → swD P fn K Kp D c e w → c.wpIn (FW none) 0 P (bodyPostM (FW none) 0 P fn fun
      | .returned v, w' => K v w'
      | .panicked c, w' => Kp c w'
      | .outgrown, _ => False) (act e []) w
  | .s A r, .seq a b, e, w, hl, hc, h => by
    simp only [chkD, Bool.and_eq_true] at hc
    refine wpIn_seq (wpIn_mono (sw_sound (D0 := []) (n0 := 0) hm a A ⟨false, false⟩ none _ e [] w _ hc.1 rfl h) ?_)
    intro x a1 w1 hx
    cases x with
    | normal =>
      obtain ⟨e1, ds1, rfl, h1, h2, h3⟩ := hx
      have h2 : ds1 = [] := h2
      subst h2
      exact swD_sound (f := f) hm r b e1 w1 (by rw [h1.1]; exact hl) hc.2 h3
    | panic ch => exact hx.2.elim
    | outgrown => exact hx.elim
    | _ => obtain ⟨_, _, _, _, _, h⟩ := hx; exact h.elim
  | .d B, .seq (.region id ops draw) c2, e, w, hlen, hc, h => by
    simp only [chkD, Bool.and_eq_true, Bool.not_eq_true'] at hc
    obtain ⟨⟨⟨hdr, hcB⟩, hcell⟩, hops⟩ := hc
    subst hdr
    split at hops
    rotate_left
    · cases hops
    rename_i o0 o1 hl
    have hops' : ops = #[o0, o1] := by rw [← Array.toArray_toList (xs := ops), hl]
    subst hops'
    simp only [Bool.and_eq_true, Option.isNone_iff_eq_none] at hops
    obtain ⟨⟨hg0, hg1⟩, hops⟩ := hops
    obtain ⟨dst0, op0, type0, pos0, after0, guard0⟩ := o0
    obtain ⟨dst1, op1, type1, pos1, after1, guard1⟩ := o1
    simp only at hg0 hg1 hops
    subst hg0 hg1
    split at hops
    rotate_left
    · cases hops
    rename_i g first caps t c
    simp only [Bool.and_eq_true] at hops
    obtain ⟨⟨⟨⟨hlt, hfirst⟩, hent⟩, hargs⟩, hcal⟩ := hops
    obtain ⟨cal, cargs, ats⟩ := c
    simp only at hargs hcal
    split at hcal
    rotate_left
    · cases hcal
    rename_i t'
    have ht : t' = t := by simpa using hcal
    subst ht
    have hlt : t' < e.length := Nat.lt_of_lt_of_le (of_decide_eq_true hlt) hlen
    have hfirst : first = #[] := by simpa using hfirst
    have hargs : cargs = #[] := by simpa using hargs
    subst hfirst hargs
    simp only [swD] at h
    obtain ⟨e', he'⟩ : ∃ e', e' = st e (some t') (.func (.func g) #[] (caps.map (ev e))) := ⟨_, rfl⟩
    have h : sw ⟨false, true⟩ P (fun c w' => dLeave P fn K Kp g (caps.map (ev e)) e' (.panicking c) w') B c2 e' w (fun
        | .normal, e2, w' => dLeave P fn K Kp g (caps.map (ev e)) e2 .returning w'
        | .ret, e2, w' => dLeave P fn K Kp g (caps.map (ev e)) e2 .returning w'
        | _, _, _ => False) := by rw [he']; exact h
    have h0' := h
    clear h
    obtain ⟨d, hd⟩ : ∃ d : Deferred, d = { target := .fn (.func g) (caps.map (ev e)), args := #[] } := ⟨_, rfl⟩
    have leave : ∀ (e2 : Env) (u : FrameMode) (w' : World), u ≠ .run → dLeave P fn K Kp g (caps.map (ev e)) e2 u w' → LeavesInM (FW none) 0 P fn (act e2 [d]).tmps (fun
        | .returned v, w' => K v w'
        | .panicked c, w' => Kp c w'
        | .outgrown, _ => False) [d] u w' := by
      intro e2 u w' hu hq
      have fin : ∀ u' w'', dEnd P fn K Kp e2 u' w'' → LeavesInM (FW none) 0 P fn (act e2 [d]).tmps (fun
          | .returned v, w' => K v w'
          | .panicked c, w' => Kp c w'
          | .outgrown, _ => False) [] u' w'' := by
        intro u' w'' hq
        cases u' with
        | run => exact hq.elim
        | returning => obtain ⟨vs, h1, h2⟩ := results_of (f := fn) hq; exact ⟨_, h1, h2⟩
        | panicking c => exact hq
      refine ⟨hu, .inr ⟨(fun hh => by cases hh), .func g, caps.map (ev e), g, caps.map (ev e), by rw [hd], ?_, fun _ _ => trivial, CallsDIn.mono hq ?_⟩⟩
      · rw [hd]
        simp only [invoke]
        rw [run_callFunc hent]; simp
      · intro x u' w'' hx
        cases x with
        | returned v => exact fin _ _ hx
        | panicked c => exact fin _ _ hx
        | outgrown => exact hx.elim
    have h0 : (execOp (act e []).eval ({ dst := some t', op := .makeFunc (.func g) #[] caps, type := type0, pos := pos0, after := after0, guard := none } : Oper)).run P w = .ok (.value (.func (.func g) #[] (caps.map (ev e)))) w := by
      rw [act_eval]
      simp only [execOp, Sem.run_bind, Sem.run, pure, Result.andThen, Instr.makeFunc, Array.map_empty]
    have h1 : (execOp (act e' []).eval ({ dst := none, op := .defer { callee := .value (.tmp t'), args := #[], argTypes := ats }, type := type1, pos := pos1, after := after1, guard := none } : Oper)).run P w = .ok (.defer d) w := by
      rw [act_eval]
      have ht' : e'.getD t' undef = .func (.func g) #[] (caps.map (ev e)) := by rw [he']; simp [st, List.getD_eq_getElem?_getD, hlt]
      simp only [execOp, resolve, ev, Sem.run_bind, Sem.run, pure, Result.andThen, Array.map_empty, ht', Deferred.ofValue, hd]
      rfl
    have q0 : ∀ y, Region.wanted ({ dst := some t', op := .makeFunc (.func g) #[] caps, type := type0, pos := pos0, after := after0, guard := none } : Oper) y = true := fun _ => rfl
    have q1 : ∀ y, Region.wanted ({ dst := none, op := .defer { callee := .value (.tmp t'), args := #[], argTypes := ats }, type := type1, pos := pos1, after := after1, guard := none } : Oper) y = true := fun _ => rfl
    have d0 : ({ dst := some t', op := .makeFunc (.func g) #[] caps, type := type0, pos := pos0, after := after0, guard := none } : Oper).dst = some t' := rfl
    have d1 : ({ dst := none, op := .defer { callee := .value (.tmp t'), args := #[], argTypes := ats }, type := type1, pos := pos1, after := after1, guard := none } : Oper).dst = none := rfl
    generalize ({ dst := some t', op := .makeFunc (.func g) #[] caps, type := type0, pos := pos0, after := after0, guard := none } : Oper) = o0 at *
    generalize ({ dst := none, op := .defer { callee := .value (.tmp t'), args := #[], argTypes := ats }, type := type1, pos := pos1, after := after1, guard := none } : Oper) = o1 at *
    refine wpIn_seq (wpIn_region ?_)
    rw [show List.range (#[o0, o1] : Array Oper).size = [0, 1] from rfl, wpOpsIn_cons]
    unfold wpOpIn
    simp only [show (#[o0, o1] : Array Oper)[0]? = some o0 from rfl]
    rw [if_pos (q0 _)]
    refine ⟨fun _ _ => trivial, ?_⟩
    rw [show (FW none).round = none from rfl, Oper.semAt_none, h0]
    show wpOpsIn _ _ _ _ _ _ ((act e []).put o0.dst _) w
    rw [d0, act_put, ← he', wpOpsIn_cons]
    unfold wpOpIn
    simp only [show (#[o0, o1] : Array Oper)[1]? = some o1 from rfl]
    rw [if_pos (q1 _)]
    refine ⟨fun _ _ => trivial, ?_⟩
    rw [show (FW none).round = none from rfl, Oper.semAt_none, h1]
    show wpOpsIn _ _ _ _ _ _ (({ (act e' []) with defers := d :: (act e' []).defers } : Act).put o1.dst undef) w
    rw [d1]
    show c2.wpIn (FW none) 0 P _ (act e' [d]) w
    refine wpIn_mono (sw_sound (D0 := [d]) (n0 := 0) hm c2 B ⟨false, true⟩ none _ e' [d] w _ hcB rfl h0') ?_
    intro x a w' hx
    cases x with
    | normal => obtain ⟨e2, ds, rfl, _, hmk, hq⟩ := hx; obtain rfl : ds = [d] := hmk; exact leave e2 _ w' (by simp) hq
    | ret => obtain ⟨e2, ds, rfl, _, hmk, hq⟩ := hx; obtain rfl : ds = [d] := hmk; exact leave e2 _ w' (by simp) hq
    | panic ch =>
      obtain ⟨⟨e2, ds, rfl, hag, hmk⟩, hq⟩ := hx
      obtain rfl : ds = [d] := hmk
      refine leave e2 _ w' (by simp) ?_
      refine CallsDIn.mono hq ?_
      intro x u' w'' hx
      cases x with
      | returned v => exact dEnd_ag hag hcell hx
      | panicked c => exact dEnd_ag hag hcell hx
      | outgrown => exact hx
    | outgrown => exact hx.elim
    | exit id => obtain ⟨_, _, _, _, _, h⟩ := hx; exact h.elim
    | goto l => obtain ⟨_, _, _, _, _, h⟩ := hx; exact h.elim
  | .s _ _, .region .., _, _, _, hc, _ => by cases hc
  | .s _ _, .skip, _, _, _, hc, _ => by cases hc
  | .s _ _, .cond .., _, _, _, hc, _ => by cases hc
  | .s _ _, .block .., _, _, _, hc, _ => by cases hc
  | .s _ _, .loop .., _, _, _, hc, _ => by cases hc
  | .s _ _, .exit .., _, _, _, hc, _ => by cases hc
  | .s _ _, .ret, _, _, _, hc, _ => by cases hc
  | .s _ _, .rangeFunc .., _, _, _, hc, _ => by cases hc
  | .s _ _, .scope .., _, _, _, hc, _ => by cases hc
  | .s _ _, .label .., _, _, _, hc, _ => by cases hc
  | .s _ _, .goto .., _, _, _, hc, _ => by cases hc
  | .d _, .region .., _, _, _, hc, _ => by cases hc
  | .d _, .skip, _, _, _, hc, _ => by cases hc
  | .d _, .cond .., _, _, _, hc, _ => by cases hc
  | .d _, .block .., _, _, _, hc, _ => by cases hc
  | .d _, .loop .., _, _, _, hc, _ => by cases hc
  | .d _, .exit .., _, _, _, hc, _ => by cases hc
  | .d _, .ret, _, _, _, hc, _ => by cases hc
  | .d _, .rangeFunc .., _, _, _, hc, _ => by cases hc
  | .d _, .scope .., _, _, _, hc, _ => by cases hc
  | .d _, .label .., _, _, _, hc, _ => by cases hc
  | .d _, .goto .., _, _, _, hc, _ => by cases hc
  | .d _, .seq .skip _, _, _, _, hc, _ => by cases hc
  | .d _, .seq (.seq ..) _, _, _, _, hc, _ => by cases hc
  | .d _, .seq (.cond ..) _, _, _, _, hc, _ => by cases hc
  | .d _, .seq (.block ..) _, _, _, _, hc, _ => by cases hc
  | .d _, .seq (.loop ..) _, _, _, _, hc, _ => by cases hc
  | .d _, .seq (.exit ..) _, _, _, _, hc, _ => by cases hc
  | .d _, .seq .ret _, _, _, _, hc, _ => by cases hc
  | .d _, .seq (.rangeFunc ..) _, _, _, _, hc, _ => by cases hc
  | .d _, .seq (.scope ..) _, _, _, _, hc, _ => by cases hc
  | .d _, .seq (.label ..) _, _, _, _, hc, _ => by cases hc
  | .d _, .seq (.goto ..) _, _, _, _, hc, _ => by cases hc
/-- A FUNCTION THAT DEFERS ONE CLOSURE -/
theorem callsP_of_swD {f : FuncId} {fn : Func} {D : DAnn} {args : Array Value} {w : World} {K : Value → World → Prop} {Kp : List PanicEntry → World → Prop}
    (hm : P.follows .mixedOrders = true) (hf : P.funcs[f]? = some fn) (hb : fn.body.isSome = true) (hc : chkD P fn D (bodyOf fn) = true)
    (h : swD P fn K Kp D (bodyOf fn) (args.toList ++ List.replicate (fn.ntmps - args.size) undef) w) : oCallP P f args w K Kp := by
  obtain ⟨c, hbc⟩ := Option.isSome_iff_exists.1 hb
  have hbody : bodyOf fn = c := by simp [bodyOf, hbc]
  rw [hbody] at hc h
  refine (callsIn_wide (n := 0)).1 (callsIn_of_wp_marks (F := FW none) hf hbc trivial ?_)
  have hact : ({ tmps := args ++ Array.replicate (fn.ntmps - args.size) undef, defers := [] } : Act) = act (args.toList ++ List.replicate (fn.ntmps - args.size) undef) [] := by
    simp only [act, Act.mk.injEq, and_true]
    apply Array.ext'
    simp
  rw [hact]
  refine wpIn_mono (swD_sound (f := f) hm D c _ w (by rw [List.length_append, List.length_replicate]; simp; omega) hc h) fun x a w h => ?_
  cases x <;> exact h
theorem calls_of_swD {f : FuncId} {fn : Func} {D : DAnn} {args : Array Value} {w : World} {K : Value → World → Prop}
    (hm : P.follows .mixedOrders = true) (hf : P.funcs[f]? = some fn) (hb : fn.body.isSome = true) (hc : chkD P fn D (bodyOf fn) = true)
    (h : swD P fn K (fun _ _ => False) D (bodyOf fn) (args.toList ++ List.replicate (fn.ntmps - args.size) undef) w) : oCall P f args w K := by
  refine (callsP_of_swD hm hf hb hc h).mono fun x w' hx => ?_
  cases x with
  | returned v => exact ⟨v, rfl, hx⟩
  | panicked c => exact hx.elim
  | outgrown => exact hx.elim
end
end Go.Sh
end

section
namespace Go.Sh
open Go.RowKit

inductive Dat where
  | int (k : IntKind) (n : Int)
  | bool (b : Bool)
  | str (s : ByteArray)
  | agg (fs : List Dat)
  | sl (sz : Nat) (es : List Dat)

/-- cells of an element of a slice -/
def CellsAt (r : Gh) (p : Option Addr) (n : Nat) (c : List Value) : Prop :=
  ∀ j v, c[j]? = some v → ∃ b off, p = some ⟨b, off, none⟩ ∧ Ob r fun w => w.cell? ⟨b, off + n + j, none⟩ = some v
mutual
def Rep (r : Gh) : Dat → List Value → Prop
  | .int k n, cs => cs = [.int k n]
  | .bool b, cs => cs = [.bool b]
  | .str s, cs => cs = [.string s]
  | .agg fs, cs => RepA r fs cs
  | .sl sz es, cs => ∃ p cap, cs = [.slice p es.length cap] ∧ (p = none → cap = 0) ∧ es.length ≤ cap ∧ RepS r sz p 0 es
def RepA (r : Gh) : List Dat → List Value → Prop
  | [], cs => cs = []
  | d :: ds, cs => ∃ a b, cs = a ++ b ∧ Rep r d a ∧ RepA r ds b
def RepS (r : Gh) (sz : Nat) (p : Option Addr) : Nat → List Dat → Prop
  | _, [] => True
  | i, d :: ds => (∃ c, c.length = sz ∧ CellsAt r p (i * sz) c ∧ Rep r d c) ∧ RepS r sz p (i + 1) ds
end
theorem CellsAt.up {r s : Gh} {p : Option Addr} {n : Nat} {c : List Value} (h : CellsAt r p n c) (l : Le r s) : CellsAt s p n c := fun j v hj => by
  obtain ⟨b, off, h1, h2⟩ := h j v hj
  exact ⟨b, off, h1, h2.up⟩
mutual
theorem Rep.up' {r s : Gh} (l : Le r s) : ∀ {d : Dat} {cs : List Value}, Rep r d cs → Rep s d cs
  | .int _ _, _, h => h
  | .bool _, _, h => h
  | .str _, _, h => h
  | .agg fs, _, h => RepA.up' l (fs := fs) h
  | .sl _ es, _, h => by
    obtain ⟨p, cap, h1, h2, h3, h4⟩ := h
    exact ⟨p, cap, h1, h2, h3, RepS.up' l (es := es) h4⟩
theorem RepA.up' {r s : Gh} (l : Le r s) : ∀ {fs : List Dat} {cs : List Value}, RepA r fs cs → RepA s fs cs
  | [], _, h => h
  | d :: ds, _, h => by
    obtain ⟨a, b, h1, h2, h3⟩ := h
    exact ⟨a, b, h1, Rep.up' l (d := d) h2, RepA.up' l (fs := ds) h3⟩
theorem RepS.up' {r s : Gh} (l : Le r s) {sz : Nat} {p : Option Addr} : ∀ {i : Nat} {es : List Dat}, RepS r sz p i es → RepS s sz p i es
  | _, [], _ => trivial
  | _, d :: ds, h => by
    obtain ⟨⟨c, h1, h2, h3⟩, h4⟩ := h
    exact ⟨⟨c, h1, h2.up l, Rep.up' l (d := d) h3⟩, RepS.up' l (es := ds) h4⟩
end
theorem Rep.up {r s : Gh} {d : Dat} {cs : List Value} (h : Rep r d cs) [l : Le r s] : Rep s d cs := Rep.up' l h
theorem RepS.up {r s : Gh} {sz i : Nat} {p : Option Addr} {es : List Dat} (h : RepS r sz p i es) [l : Le r s] : RepS s sz p i es := RepS.up' l h
theorem RepS.get {r : Gh} {sz : Nat} {p : Option Addr} : ∀ {es : List Dat} {k i : Nat} {d : Dat}, RepS r sz p k es → es[i]? = some d → ∃ c, c.length = sz ∧ CellsAt r p ((k + i) * sz) c ∧ Rep r d c
  | [], _, _, _, _, h => by cases h
  | e :: es, k, 0, d, h, hi => by simp only [List.getElem?_cons_zero, Option.some.injEq] at hi; subst hi; exact h.1
  | e :: es, k, i + 1, d, h, hi => by
    have := RepS.get (i := i) h.2 hi
    rw [show k + 1 + i = k + (i + 1) by omega] at this; exact this
theorem RepS.of {r : Gh} {sz : Nat} {p : Option Addr} : ∀ {es : List Dat} {k : Nat}, (∀ i d, es[i]? = some d → ∃ c, c.length = sz ∧ CellsAt r p ((k + i) * sz) c ∧ Rep r d c) → RepS r sz p k es
  | [], _, _ => trivial
  | e :: es, k, h => ⟨h 0 e rfl, RepS.of (es := es) (k := k + 1) fun i d hi => by
    have := h (i + 1) d hi
    rw [show k + (i + 1) = k + 1 + i by omega] at this; exact this⟩
/-- an element, to be read -/
theorem RepS.at {X : Nat → Prop} {w0 w : World} {r q : Gh} {L : List Asr} (S : StX X w0 r w L) {sz : Nat} {p : Option Addr} {es : List Dat} (h : RepS q sz p 0 es) [l : Le q r] {i : Nat} (hi : i < es.length) (hz : 0 < sz) :
    ∃ b off c, p = some ⟨b, off, none⟩ ∧ c.length = sz ∧ (∀ j v, c[j]? = some v → w.cell? ⟨b, off + i * sz + j, none⟩ = some v) ∧ Rep q es[i] c := by
  obtain ⟨c, h1, h2, h3⟩ := h.get (i := i) (List.getElem?_eq_getElem hi)
  obtain ⟨b, off, rfl, _⟩ := h2 0 c[0] (List.getElem?_eq_getElem (by omega))
  refine ⟨b, off, c, rfl, h1, fun j v hj => ?_, h3⟩
  obtain ⟨b', off', hp, ho⟩ := h2 j v hj
  cases hp
  have := S.at ho
  rwa [Nat.zero_add] at this
/-! ### The shapes -/
theorem rep_int {r : Gh} {k : IntKind} {n : Int} {cs : List Value} (h : Rep r (.int k n) cs) : cs = [.int k n] := h
theorem rep_agg {r : Gh} {d : Dat} {ds : List Dat} {cs : List Value} (h : RepA r (d :: ds) cs) : ∃ a b, cs = a ++ b ∧ Rep r d a ∧ RepA r ds b := h
/-- a value of a type, as a walk hands it about -/
def RepV (r : Gh) (v : Value) (d : Dat) : Prop := Rep r d v.cells.toList
theorem RepV.up {r s : Gh} {v : Value} {d : Dat} (h : RepV r v d) [l : Le r s] : RepV s v d := Rep.up' l h

end Go.Sh
end

section
namespace Go.Sh
open Go.RowKit
section
variable {w : World} {A : (List Value → World → Prop) → Prop} {Z : Value → World → Prop} {b c : Bool}
theorem j_band (hA : ∀ K : List Value → World → Prop, K [.bool c] w → A K) (hZ : Z (.bool (b && c)) w) :
    sJoin (fun K => gIf (.bool b) true (A K) (K [undef] w)) fun s _ w' => oPick (.bool b) (s.getD 0 undef) (.bool false) fun t => Z t w' := by
  intro K hK
  cases b with
  | true => exact hA K (hK _ _ fun _ => ⟨true, rfl, by simpa using hZ⟩)
  | false => exact hK _ _ fun _ => ⟨false, rfl, by simpa using hZ⟩
theorem j_bor (hA : ∀ K : List Value → World → Prop, K [.bool c] w → A K) (hZ : Z (.bool (b || c)) w) :
    sJoin (fun K => gIf (.bool b) false (A K) (K [undef] w)) fun s _ w' => oPick (.bool b) (.bool true) (s.getD 0 undef) fun t => Z t w' := by
  intro K hK
  cases b with
  | true => exact hK _ _ fun _ => ⟨true, rfl, by simpa using hZ⟩
  | false => exact hA K (hK _ _ fun _ => ⟨false, rfl, by simpa using hZ⟩)
/-- .. where the second one is a call's answer (asked only if the first says so) -/
theorem j_bandE (hA : b = true → ∀ K : List Value → World → Prop, (∀ w', Ext w w' → K [.bool c] w') → A K) (hZ : ∀ w', Ext w w' → Z (.bool (b && c)) w') :
    sJoin (fun K => gIf (.bool b) true (A K) (K [undef] w)) fun s _ w' => oPick (.bool b) (s.getD 0 undef) (.bool false) fun t => Z t w' := by
  intro K hK
  cases b with
  | true => exact hA rfl K fun w' e => hK _ _ fun _ => ⟨true, rfl, by simpa using hZ w' e⟩
  | false => exact hK _ _ fun _ => ⟨false, rfl, by simpa using hZ w (.refl w)⟩
theorem j_borE (hA : b = false → ∀ K : List Value → World → Prop, (∀ w', Ext w w' → K [.bool c] w') → A K) (hZ : ∀ w', Ext w w' → Z (.bool (b || c)) w') :
    sJoin (fun K => gIf (.bool b) false (A K) (K [undef] w)) fun s _ w' => oPick (.bool b) (.bool true) (s.getD 0 undef) fun t => Z t w' := by
  intro K hK
  cases b with
  | true => exact hK _ _ fun _ => ⟨true, rfl, by simpa using hZ w (.refl w)⟩
  | false => exact hA rfl K fun w' e => hK _ _ fun _ => ⟨false, rfl, by simpa using hZ w' e⟩
/-- 'B or (g and c)' -/
theorem j_borand {g : Bool} {A : (List Value → World → Prop) → World → Prop} (hA : ∀ K : List Value → World → Prop, K [.bool c] w → A K w) (hZ : Z (.bool (b || (g && c))) w) :
    sJoin (fun K1 => gIf (.bool b) false (K1 [.bool g] w) (K1 [undef] w)) fun s1 _ w1 =>
      sJoin (fun K2 => gIf (s1.getD 0 undef) true (A K2 w1) (K2 [undef] w1)) fun s2 _ w2 =>
        sJoin (fun K3 => gIf (.bool b) false (oPick (s1.getD 0 undef) (s2.getD 0 undef) (.bool false) fun t => K3 [t] w2) (K3 [undef] w2)) fun s3 _ w3 =>
          oPick (.bool b) (.bool true) (s3.getD 0 undef) fun t => Z t w3 := by
  intro K1 hK1
  cases b with
  | true =>
    refine hK1 _ _ fun _ => ?_
    intro K2 hK2
    refine hK2 _ _ fun _ => ?_
    intro K3 hK3
    refine hK3 _ _ fun _ => ⟨true, rfl, ?_⟩
    rw [Bool.true_or] at hZ; exact hZ
  | false =>
    refine hK1 _ _ fun _ => ?_
    intro K2 hK2
    cases g with
    | true =>
      refine hA _ (hK2 _ _ fun _ => ?_)
      intro K3 hK3
      refine ⟨true, rfl, hK3 _ _ fun _ => ⟨false, rfl, ?_⟩⟩
      rw [Bool.false_or, Bool.true_and] at hZ; exact hZ
    | false =>
      refine hK2 _ _ fun _ => ?_
      intro K3 hK3
      refine ⟨false, rfl, hK3 _ _ fun _ => ⟨false, rfl, ?_⟩⟩
      rw [Bool.false_or, Bool.false_and] at hZ; exact hZ
theorem k_cor {K : List Value → World → Prop} {A : Prop} (hk : K [.bool (b || c)] w) (hA : b = false → K [.bool c] w → A) : oCond (.bool b) (K [.bool b] w) A := by
  cases b with
  | true => rw [Bool.true_or] at hk; exact hk
  | false => exact hA rfl (by rw [Bool.false_or] at hk; exact hk)
end
/-- what lies in memory is read as a struct -/
theorem s_ldN {P : Program} {w : World} {K : Value → Prop} {t : TypeId} {b off n : Nat} {c : List Value} [k : LdN P t n] (hl : c.length = n) (h : ∀ j v, c[j]? = some v → w.cell? ⟨b, off + j, none⟩ = some v) (hk : K (.agg c.toArray)) :
    opQ P w (Instr.loadAt t (.pointer (some ⟨b, off, none⟩))) K := q_loadN (by rw [hl]; exact k.h) h hk
theorem s_ld1 {P : Program} {w : World} {K : Value → Prop} {t : TypeId} {a : Addr} {v : Value} [k : Ld1 P t] (h : w.cell? a = some v) (hk : K v) : opQ P w (Instr.loadAt t (.pointer (some a))) K := q_load k.h h hk
theorem n_some {a : Addr} {K : Value → Prop} (k : K (.pointer (some a))) : oNil (.pointer (some a)) K := n_ptr k
end Go.Sh
end

section
namespace Go.Sh
section
variable {P : Program} {X : Nat → Prop} {w0 w w' : World} {r s : Gh} {L : List Asr} {t e : TypeId} {sz n m : Nat} {v : Value} {xs : List Value}
theorem StX.litU (S : StX X w0 r w L) {e : TypeId} {len : Nat} {parts : Array (Nat × Value)} {cs : List Value} {K : Value → World → Prop} (hT : bslT P t len parts = some (e, cs))
    (h : ∀ b w', StX X w0 r w' (.cell b cs e :: L) → K (.slice (some ⟨b, 0, none⟩) len len) w') : opW P w (Instr.buildSlice t len parts) fun t' w' => Ext w w' ∧ K t' w' :=
  w_lit hT fun b w' hb e' _ B => ⟨e', h b w' (S.add e' (by omega) B)⟩
/-- a cell of one's own comes to stay -/
theorem StX.frz {b : Nat} {c : List Value} {T : TypeId} (S : StX X w0 r w (.cell b c T :: L)) : StX X w0 (r.or (one b c T)) w L := by
  have B : Blk w b c T := S.has _ (List.mem_cons_self ..)
  refine ⟨S.x, S.holds.or (one_holds B), fun x hx => S.has x (List.mem_cons_of_mem _ hx), fun x hx k hk => ⟨(S.mine x (List.mem_cons_of_mem _ hx) k hk).1, fun o ho => ?_⟩, (List.pairwise_cons.1 S.apart).2⟩
  rcases ho with ho | ⟨rfl, _⟩
  · exact (S.mine x (List.mem_cons_of_mem _ hx) k hk).2 o ho
  · exact (List.pairwise_cons.1 S.apart).1 x hx k rfl hk
/-- a row that a call has made is one's own -/
theorem StX.take (S : StX X w0 r w L) (E : Ext w w') (h : w'.ownsRow w.heap.size e sz v n xs) : StX X w0 r w' (.row v e sz n xs :: L) := by
  have S' := S.go E
  have hb : ∀ k, v.ownBlock = some k → w.heap.size ≤ k := fun k hk => by
    rcases row_cases h with h0 | ⟨g, cap, c, h1, _, _, h2⟩
    · rw [h0] at hk; cases hk
    · rw [h1] at hk; cases hk; exact h2
  refine ⟨S'.x, S'.holds, ?_, ?_, .cons ?_ S'.apart⟩
  · intro x hx; rcases List.mem_cons.1 hx with rfl | hx
    · rcases h with ⟨hl, h | ⟨g, cap, cur, rfl, _, hg⟩⟩
      · exact ⟨hl, .inl h⟩
      · exact ⟨hl, .inr ⟨g, cap, cur, rfl, Nat.zero_le _, hg⟩⟩
    · exact S'.has x hx
  · intro x hx; rcases List.mem_cons.1 hx with rfl | hx
    · intro k hk
      have := hb k hk
      exact ⟨.inl (by have := S.x.size; omega), fun o ho => by have := S.holds.lt ho; omega⟩
    · exact S'.mine x hx
  · intro y hy k hk hk2
    have := hb k hk
    have := Asr.lt (S.has y hy) hk2
    omega
/-- a row of one's own is given as one that the call has made -/
theorem StX.give {f : Asr → List Asr} (S : StX noX w0 r w L) (v : Value) [h : RowAt v L e sz n xs f] : w.ownsRow w0.heap.size e sz v n xs := by
  obtain ⟨p, q, h2, h3⟩ := h.h
  have hx := S.has (.row v e sz n xs) (by rw [h2]; simp)
  have hm := S.mine (.row v e sz n xs) (by rw [h2]; simp)
  rcases hx with ⟨hl, hx | ⟨g, cap, cur, rfl, hb, hg⟩⟩
  · exact ⟨hl, .inl hx⟩
  · exact ⟨hl, .inr ⟨g, cap, cur, rfl, (hm g rfl).1.resolve_right id, hg⟩⟩
theorem own_shape {base : Nat} (h : w.ownsRow base e sz v n xs) : ∃ p cap, v = .slice p n cap ∧ (p = none → cap = 0) ∧ n ≤ cap ∧ xs.length = n * sz ∧ Sl w p xs := by
  have hl := h.1
  rcases own_blk h with ⟨rfl, rfl, rfl⟩ | ⟨g, cap, c, rfl, hg, B, h1, _, h3, h4⟩
  · exact ⟨none, 0, rfl, fun _ => rfl, Nat.le_refl _, hl, Sl.nil _ _⟩
  · exact ⟨_, cap, rfl, by simp, h1, hl, by rw [← h4]; exact (Sl.blk B).take _⟩
theorem StX.rowS {f : Asr → List Asr} (S : StX X w0 r w L) (v : Value) [h : RowAt v L e sz n xs f] : ∃ p cap, v = .slice p n cap ∧ (p = none → cap = 0) ∧ n ≤ cap ∧ xs.length = n * sz ∧ Sl w p xs :=
  own_shape (S.rowSl v (h := h))
theorem StX.row1 {f : Asr → List Asr} (S : StX X w0 r w L) (v : Value) [h : RowAt v L e sz n xs f] : v.oneCell' = true := by
  obtain ⟨p, cap, rfl, _⟩ := S.rowS v (h := h); rfl
/-- a load that may change places with a store -/
theorem w_q {P : Program} {w : World} {s : Sem Value} {K : Value → World → Prop} (h : opQ P w s fun v => K v w) : opW P w s K := by
  obtain ⟨v, h1, h2⟩ := h
  exact ⟨v, w, h1 w (Ext.refl w), h2⟩
theorem w_qE {P : Program} {w : World} {s : Sem Value} {K : Value → World → Prop} (h : opQ P w s fun v => K v w) : opW P w s fun v w' => Ext w w' ∧ K v w' := w_q (by
  obtain ⟨v, h1, h2⟩ := h
  exact ⟨v, h1, Ext.refl w, h2⟩)
/-- a literal is a row -/
theorem StX.toRow {b : Nat} {c : List Value} (S : StX X w0 r w (.cell b c e :: L)) (n sz : Nat) (hc : c.length = n * sz) (hm : n ≤ maxLen) : StX X w0 r w (.row (.slice (some ⟨b, 0, none⟩) n n) e sz n c :: L) := by
  have B : Blk w b c e := S.has _ (List.mem_cons_self ..)
  refine S.turn (p := []) (x := .cell b c e) (y := .row _ e sz n c) (ExtBut.refl _ _) ?_ fun k hk => .inl (by cases hk; rfl)
  have := own_of_blk (base := 0) (Nat.zero_le _) B (Nat.le_refl n) hm hc
  rwa [List.take_of_length_le (by omega)] at this
end
end Go.Sh
end

section
namespace Go.Sh
open Go.RowKit
/-- a string's bytes -/
abbrev bs (l : List UInt8) : ByteArray := ⟨l.toArray⟩
theorem bs_size (l : List UInt8) : (bs l).size = l.length := by simp [ByteArray.size]
theorem bs_toList (l : List UInt8) : (bs l).toList = l := by rw [ByteArray.toList_eq]
theorem bs_of (x : ByteArray) : x = bs x.data.toList := rfl
theorem bs_append (l m : List UInt8) : bs l ++ bs m = bs (l ++ m) := ByteArray.mk_append_mk l m
theorem bs_extract (l : List UInt8) (a b : Nat) : (bs l).extract a b = bs ((l.take b).drop a) := by
  apply ByteArray.ext
  rw [ByteArray.data_extract]
  apply Array.toList_inj.1
  simp [List.extract_eq_take_drop, List.drop_take]
section
variable {P : Program} {t ty : TypeId} {c : Bool} {l m : List UInt8} {a b : Int} {i j : IntKind}
theorem run_bsem {op : BinOp} {x y : Value} (h : (match op, x, y with | .eql, .nilIface, .nilIface => c = true | .neq, .nilIface, .nilIface => c = true | .eql, .agg _, .agg _ => P.eqGuardType P.depth t = false | .neq, .agg _, .agg _ => P.eqGuardType P.depth t = false | _, _, _ => True)) (w : World) :
    (bsem op t c x y).run P w = (binOp op t x y).run P w := by
  have hg : (eqG op t c x y).run P w = .ok () w := by
    unfold eqG
    cases op <;> first | rfl | (cases x <;> first | rfl | (cases y <;> first | rfl | (subst h; rfl) | (simp only at h; simp [run_program, h])))
  rw [bsem, Sem.run_bind, hg]; rfl
instance : PCond P (bsem .add t c (.string (bs l)) (.string (bs m))) (.string (bs (l ++ m))) (l.length + m.length ≤ 9223372036854775807) := .of fun h _ k =>
  p_of (fun w => by
    rw [run_bsem trivial, binOp_string_add, run_string_add_sum w _ _ (by rw [bs_size, bs_size]; exact h), bs_append]) k
instance : PStep P (bsem .eql t c (.string (bs l)) (.string (bs m))) (.bool (l == m)) := .of fun _ k =>
  p_of (fun w => by rw [run_bsem trivial, binOp_string_eql, bs_toList, bs_toList]; rfl) k
instance : PStep P (bsem .neq t c (.string (bs l)) (.string (bs m))) (.bool (!(l == m))) := .of fun _ k =>
  p_of (fun w => by rw [run_bsem trivial, binOp_string_neq, bs_toList, bs_toList]; rfl) k
instance [h : StrT P t] : PStep P (Builtin.len_ #[t] ty #[.string (bs l)]) (.int .i64 l.length) := .of fun _ k => p_lenStr h.h (by rw [bs_size]; exact k)
/-- the byte at a place -/
def byteAt (l : List UInt8) (n : Nat) : Int := (l.getD n 0).toNat
theorem byteAt_lt (l : List UInt8) (n : Nat) : 0 ≤ byteAt l n ∧ byteAt l n < 256 := ⟨Int.natCast_nonneg _, by have := (l.getD n 0).toNat_lt; unfold byteAt; omega⟩
instance [h : StrT P t] : PCond P (Instr.index t (.string (bs l)) (.int i a)) (.int .u8 (byteAt l a.toNat)) (0 ≤ a ∧ a < l.length) := .of fun x _ k =>
  p_byte h.h x.1 (by rw [bs_size]; omega) (by
    have e : ((bs l)[a.toNat]'(by rw [bs_size]; omega)) = l.getD a.toNat 0 := by
      rw [List.getD_eq_getElem?_getD, List.getElem?_eq_getElem (by omega)]; rfl
    rw [e]; exact k)
instance [h : StrT P t] : PCond P (Instr.sliceAt t (.string (bs l)) (some (.int i a)) none none) (.string (bs (l.drop a.toNat))) (0 ≤ a ∧ a ≤ l.length) := .of fun x _ k =>
  p_strLo h.h x.1 (by rw [bs_size]; exact x.2) (by rw [bs_size, bs_extract, List.take_length]; exact k)
instance [h : StrT P t] : PCond P (Instr.sliceAt t (.string (bs l)) none (some (.int i a)) none) (.string (bs (l.take a.toNat))) (0 ≤ a ∧ a ≤ l.length) := .of fun x _ k =>
  p_strHi h.h x.1 (by rw [bs_size]; exact x.2) (by rw [bs_extract, List.drop_zero]; exact k)
theorem p_strLoHi {s : ByteArray} {K : Value → Prop} (h : strT P t = true) (h0 : 0 ≤ a) (h1 : a ≤ b) (h2 : b ≤ s.size) (k : K (.string (s.extract a.toNat b.toNat))) : opP P (Instr.sliceAt t (.string s) (some (.int i a)) (some (.int j b)) none) K :=
  p_of (fun w => by
    have h3 : 0 ≤ b := by omega
    have h5 : a ≤ max b 0 := by omega
    simp [Instr.sliceAt, Instr.slice, Instr.sliceBounds, Instr.sliceBound, asIntOf, Sem.run_bind, run_underlying' (strT_spec h), Result.andThen, Sem.run, pure, h0, h2, h3, h5]) k
instance [h : StrT P t] : PCond P (Instr.sliceAt t (.string (bs l)) (some (.int i a)) (some (.int j b)) none) (.string (bs ((l.take b.toNat).drop a.toNat))) (0 ≤ a ∧ a ≤ b ∧ b ≤ l.length) := .of fun x _ k =>
  p_strLoHi h.h x.1 x.2.1 (by rw [bs_size]; exact x.2.2) (by rw [bs_extract]; exact k)
/-! ### Interface values -/
def nifT (P : Program) (t : TypeId) : Bool := match P.underlying t with | some (.interface _) => false | some _ => true | none => false
class NIf (P : Program) (t : TypeId) : Prop where
  h : nifT P t = true
class IfT (P : Program) (t : TypeId) : Prop where
  h : P.underlying t = some (.interface (P.methodsAt t))
theorem nifT_spec (h : nifT P t = true) : ∃ d, P.underlying t = some d ∧ ∀ m, d ≠ .interface m := by
  unfold nifT at h
  cases hu : P.underlying t with
  | none => rw [hu] at h; cases h
  | some d => rw [hu] at h; exact ⟨d, rfl, fun m hm => by subst hm; cases h⟩
instance {v : Value} [h : NIf P t] : PStep P (Instr.makeInterface t v) (.iface t v) := .of fun _ k => p_of (fun w => by
  obtain ⟨d, hd, hn⟩ := nifT_spec h.h
  rw [Instr.makeInterface, Sem.run_bind, run_underlying' hd]
  cases d <;> first | rfl | exact absurd rfl (hn _)) k
instance {v : Value} {s : TypeId} [h : NIf P t] : PStep P (Instr.typeAssert (.iface t v) s t true) (.tuple #[v, .bool true]) := .of fun _ k => p_of (fun w => by
  obtain ⟨d, hd, hn⟩ := nifT_spec h.h
  rw [Instr.typeAssert, Sem.run_bind, run_underlying' hd]
  cases d <;> first | exact absurd rfl (hn _) | simp [Result.andThen, pure]) k
instance {v : Value} {s : TypeId} [h : IfT P t] : PStep P (bsem .eql t c (.iface s v) .nilIface) (.bool false) := .of fun _ k => p_of (fun w => by
  rw [run_bsem trivial]; simp only [binOp]; simp [run_equal_held_nil w t s v h.h]) k
instance [h : IfT P t] : PStep P (bsem .eql t true .nilIface .nilIface) (.bool true) := .of fun _ k => p_of (fun w => by
  rw [run_bsem rfl]; simp only [binOp]; simp [run_equal_nil_nil w t h.h]) k
theorem run_panic {v : Value} {w : World} : (Instr.panic (.iface t v)).run P w = .halt (.panic (.iface t v)) w := rfl
/-! ### Structs of two numbers, compared -/
def eq2T (P : Program) (t : TypeId) : Bool :=
  !P.stoodInHeld t && !P.eqGuardType P.depth t && (match P.underlying t with
  | some (.struct fs) => (match fs.toList with
    | [f, g] => f.name != "_" && g.name != "_" && Nat.beq f.offset 0 && Nat.beq g.offset 1 && (match P.underlying f.type with | some (.int _) => true | _ => false) && (match P.underlying g.type with | some (.int _) => true | _ => false)
    | _ => false)
  | _ => false)
class Eq2 (P : Program) (t : TypeId) : Prop where
  h : eq2T P t = true
theorem run_part {x : Value} {k : Nat} {kd : IntKind} {cs : Array Value} (h : P.underlying t = some (.int kd)) (hc : cs[k]? = some x) (w : World) : (part t cs k).run P w = .ok x w := by
  simp [part, isAgg, Sem.run_bind, run_underlying' h, Result.andThen, Sem.run, pure, hc]
theorem run_eq2 {a b a' b' : Int} (h : eq2T P t = true) (w : World) : (Op.equalIn 10000 t (.agg #[.int i a, .int j b]) (.agg #[.int i a', .int j b'])).run P w = .ok (decide (a = a') && decide (b = b')) w := by
  unfold eq2T at h
  simp only [Bool.and_eq_true, Bool.not_eq_true'] at h
  obtain ⟨⟨h1, h2⟩, h3⟩ := h
  cases hu : P.underlying t with
  | none => rw [hu] at h3; cases h3
  | some d =>
    rw [hu] at h3
    cases d <;> first | (cases h3; done) | skip
    rename_i fs
    have hf : P.fieldsOf t = fs := by rw [Program.fieldsOf, hu]
    rw [run_equalIn_struct w 9999 t _ _ (by rw [hf]; exact hu) h1, hf]
    simp only at h3
    split at h3
    · rename_i f g hl
      rw [hl]
      simp only [Bool.and_eq_true, bne_iff_ne, ne_eq] at h3
      obtain ⟨⟨⟨⟨⟨n1, n2⟩, o1⟩, o2⟩, t1⟩, t2⟩ := h3
      have o1 := Nat.eq_of_beq_eq_true o1
      have o2 := Nat.eq_of_beq_eq_true o2
      have s1 : ∃ k, P.underlying f.type = some (.int k) := by
        revert t1; cases P.underlying f.type with
        | none => intro h; cases h
        | some d => cases d <;> first | (intro h; cases h; done) | (intro _; exact ⟨_, rfl⟩)
      have s2 : ∃ k, P.underlying g.type = some (.int k) := by
        revert t2; cases P.underlying g.type with
        | none => intro h; cases h
        | some d => cases d <;> first | (intro h; cases h; done) | (intro _; exact ⟨_, rfl⟩)
      obtain ⟨k1, s1⟩ := s1
      obtain ⟨k2, s2⟩ := s2
      simp only [Op.eqFields, n1, n2, ne_eq, not_false_eq_true, if_true, Sem.run_bind, o1, o2]
      rw [run_part s1 (x := .int i a) rfl, Result.andThen_ok, run_part s1 (x := .int i a') rfl, Result.andThen_ok, run_equalIn_int w 9998 _ i k1 _ _ s1, Result.andThen_ok]
      by_cases ha : a = a'
      · subst ha
        simp only [beq_self_eq_true, Bool.not_true, Bool.false_eq_true, if_false, Sem.run_bind, decide_true, Bool.true_and]
        rw [run_part s2 (x := .int j b) rfl, Result.andThen_ok, run_part s2 (x := .int j b') rfl, Result.andThen_ok, run_equalIn_int w 9998 _ j k2 _ _ s2, Result.andThen_ok]
        by_cases hb : b = b'
        · subst hb; simp [pure]
        · simp [hb, pure]
      · simp [ha, pure]
    · cases h3
theorem eq2_guard (h : eq2T P t = true) : P.eqGuardType P.depth t = false := by
  unfold eq2T at h
  simp only [Bool.and_eq_true, Bool.not_eq_true'] at h
  exact h.1.2
instance {a b a' b' : Int} [h : Eq2 P t] : PStep P (bsem .eql t c (.agg #[.int i a, .int j b]) (.agg #[.int i a', .int j b'])) (.bool (decide (a = a') && decide (b = b'))) := .of fun _ k => p_of (fun w => by
  rw [run_bsem (eq2_guard h.h), run_eql_struct, run_eq2 h.h]; rfl) k
instance {a b a' b' : Int} [h : Eq2 P t] : PStep P (bsem .neq t c (.agg #[.int i a, .int j b]) (.agg #[.int i a', .int j b'])) (.bool (!(decide (a = a') && decide (b = b')))) := .of fun _ k => p_of (fun w => by
  rw [run_bsem (eq2_guard h.h), run_neq_struct, run_eq2 h.h]; rfl) k
end
end Go.Sh
end

section
namespace Go.Proofs
open Go.Sh
set_option maxRecDepth 100000
theorem Tryd.mixed : Tryd.prog.follows .mixedOrders = true := by kernel_rfl
abbrev Tryd.t_ : TypeId := 0
abbrev Tryd.t_func : TypeId := 1
abbrev Tryd.t_int64 : TypeId := 2
abbrev Tryd.t_int : TypeId := 3
abbrev Tryd.t_bool : TypeId := 4
abbrev Tryd.t_uint8 : TypeId := 5
abbrev Tryd.t_abi_BoundsErrorCode : TypeId := 6
abbrev Tryd.t_x7 : TypeId := 7
abbrev Tryd.t_runtime_boundsError : TypeId := 8
abbrev Tryd.t_string : TypeId := 9
abbrev Tryd.t_runtime_errorString : TypeId := 10
abbrev Tryd.t_runtime_plainError : TypeId := 11
abbrev Tryd.t_uintptr : TypeId := 12
abbrev Tryd.t_x13 : TypeId := 13
abbrev Tryd.t_runtime_errorAddressString : TypeId := 14
abbrev Tryd.t_P_runtime_TypeAssertionError : TypeId := 15
abbrev Tryd.t_P_runtime_PanicNilError : TypeId := 16
abbrev Tryd.t_P_abi_Type : TypeId := 17
abbrev Tryd.t_x18 : TypeId := 18
abbrev Tryd.t_maps_unhashableTypeError : TypeId := 19
abbrev Tryd.t_x20 : TypeId := 20
abbrev Tryd.t_int32 : TypeId := 21
abbrev Tryd.t_TypeKind : TypeId := 22
abbrev Tryd.t_S_Type : TypeId := 23
abbrev Tryd.t_x24 : TypeId := 24
abbrev Tryd.t_Type : TypeId := 25
abbrev Tryd.t_func_Type_int_bool : TypeId := 26
abbrev Tryd.t_func_bool : TypeId := 27
abbrev Tryd.t_S_Constraint : TypeId := 28
abbrev Tryd.t_Errno : TypeId := 29
abbrev Tryd.t_S_Constraint_Errno : TypeId := 30
abbrev Tryd.t_func_Type_Type_S_Constraint_Errno : TypeId := 31
abbrev Tryd.t_S_Constraint_int : TypeId := 32
abbrev Tryd.t_func_Type_Type_S_Constraint_int : TypeId := 33
abbrev Tryd.t_x34 : TypeId := 34
abbrev Tryd.t_Constraint : TypeId := 35
abbrev Tryd.t_func_Type_Type_bool : TypeId := 36
abbrev Tryd.t_string_Errno : TypeId := 37
abbrev Tryd.t_func_Type_string_Errno : TypeId := 38
abbrev Tryd.t_string_int : TypeId := 39
abbrev Tryd.t_func_Type_string_int : TypeId := 40
abbrev Tryd.t_Type_int_Errno : TypeId := 41
abbrev Tryd.t_func_string_Type_int_Errno : TypeId := 42
abbrev Tryd.t_Type_int_int : TypeId := 43
abbrev Tryd.t_func_string_Type_int_int : TypeId := 44
abbrev Tryd.t_func_Type : TypeId := 45
abbrev Tryd.t_func_Type_string_bool : TypeId := 46
abbrev Tryd.t_func_S_Constraint_S_Constraint : TypeId := 47
abbrev Tryd.t_func_S_Constraint_Constraint_bool : TypeId := 48
abbrev Tryd.t_func_Type_Type_Type_bool : TypeId := 49
abbrev Tryd.t_S_Struct : TypeId := 50
abbrev Tryd.t_func_S_Struct_bool : TypeId := 51
abbrev Tryd.t_int_Errno : TypeId := 52
abbrev Tryd.t_func_S_Struct_int_Errno : TypeId := 53
abbrev Tryd.t_int_int : TypeId := 54
abbrev Tryd.t_func_S_Struct_int_int : TypeId := 55
abbrev Tryd.t_func_S_Struct_Type_bool : TypeId := 56
abbrev Tryd.t_func_Type_bool : TypeId := 57
abbrev Tryd.t_func_S_Struct_Type_int_Errno : TypeId := 58
abbrev Tryd.t_func_S_Struct_Type_int_int : TypeId := 59
abbrev Tryd.t_bool_Errno : TypeId := 60
abbrev Tryd.t_func_S_Struct_Type_bool_Errno : TypeId := 61
abbrev Tryd.t_bool_int : TypeId := 62
abbrev Tryd.t_func_S_Struct_Type_bool_int : TypeId := 63
abbrev Tryd.t_S_Type_Errno : TypeId := 64
abbrev Tryd.t_func_S_Struct_Type_S_Type_Errno : TypeId := 65
abbrev Tryd.t_S_Type_int : TypeId := 66
abbrev Tryd.t_func_S_Struct_Type_S_Type_int : TypeId := 67
abbrev Tryd.t_S_int : TypeId := 68
abbrev Tryd.t_Type_Errno : TypeId := 69
abbrev Tryd.t_func_Type_Type_Errno : TypeId := 70
abbrev Tryd.t_func_Type_S_int : TypeId := 71
abbrev Tryd.t_func_Type_int_Type_int_Errno : TypeId := 72
abbrev Tryd.t_func_Type_int_Type_int_int : TypeId := 73
abbrev Tryd.t_func_Type_int_Type_Errno : TypeId := 74
abbrev Tryd.t_Type_int : TypeId := 75
abbrev Tryd.t_func_Type_S_int_Type_int : TypeId := 76
abbrev Tryd.t_func_Type_Type_int_S_int_bool : TypeId := 77
abbrev Tryd.t_func_S_Struct_Type_int_bool : TypeId := 78
abbrev Tryd.t_func_bool_int_Type_Type : TypeId := 79
abbrev Tryd.t_func_S_int_func_int_bool_bool : TypeId := 81
abbrev Tryd.t_func_int_bool : TypeId := 82
abbrev Tryd.t_func_int_int : TypeId := 83
abbrev Tryd.t_func_Type_Type_bool_S_Constraint : TypeId := 84
abbrev Tryd.t_func_Type_string : TypeId := 85
abbrev Tryd.t_P_types_reader : TypeId := 86
abbrev Tryd.t_x87 : TypeId := 87
abbrev Tryd.t_types_reader : TypeId := 88
abbrev Tryd.t_x89 : TypeId := 89
abbrev Tryd.t_types_stuck : TypeId := 90
abbrev Tryd.t_func_int_Type : TypeId := 91
abbrev Tryd.t_P_loanwordref06_reader : TypeId := 92
abbrev Tryd.t_x93 : TypeId := 93
abbrev Tryd.t_loanwordref06_reader : TypeId := 94
abbrev Tryd.t_func_Type_Type_func_int_int_bool_bool : TypeId := 95
abbrev Tryd.t_func_int_int_bool : TypeId := 96
abbrev Tryd.t_S_Field : TypeId := 97
abbrev Tryd.t_x98 : TypeId := 98
abbrev Tryd.t_Struct : TypeId := 99
abbrev Tryd.t_x100 : TypeId := 100
abbrev Tryd.t_Field : TypeId := 101
abbrev Tryd.t_func_S_Field_func_Field_bool_bool : TypeId := 102
abbrev Tryd.t_func_Type_int_int_bool : TypeId := 103
abbrev Tryd.t_func_Field_bool : TypeId := 104
abbrev Tryd.t_func_S_Struct_int_bool : TypeId := 105
abbrev Tryd.t_func_S_Struct_Type_int : TypeId := 106
abbrev Tryd.t_S_func_int_bool : TypeId := 107
abbrev Tryd.t_func_int_func_int_bool_int : TypeId := 108
abbrev Tryd.t_func_Type_Type : TypeId := 110
abbrev Tryd.t_func_Type_Type_bool_bool : TypeId := 111
abbrev Tryd.t_func_P_Type_func_P_Type : TypeId := 112
abbrev Tryd.t_P_Type : TypeId := 113
abbrev Tryd.t_func_P_Type : TypeId := 114
abbrev Tryd.t_func_Type_S_int_Type : TypeId := 115
abbrev Tryd.t_func_S_int_func_int_bool_int : TypeId := 116
abbrev Tryd.t_func_int_string : TypeId := 117
abbrev Tryd.t_func_string_bool : TypeId := 118
abbrev Tryd.t_func_string : TypeId := 119
abbrev Tryd.t_func_uint8 : TypeId := 121
abbrev Tryd.t_func_uint64_int : TypeId := 122
abbrev Tryd.t_uint64 : TypeId := 123
abbrev Tryd.t_func_S_Field_func_Field_bool_int : TypeId := 124
abbrev Tryd.t_32_bool : TypeId := 125
abbrev Tryd.t_S_bool : TypeId := 126
abbrev Tryd.t_func_string_string_bool : TypeId := 127
abbrev Tryd.t_func_int64_int_string : TypeId := 128
abbrev Tryd.t_24_uint8 : TypeId := 129
abbrev Tryd.t_func_S_uint8_uint64 : TypeId := 130
abbrev Tryd.t_S_uint8 : TypeId := 131
abbrev Tryd.t_S_uint8_string : TypeId := 132
abbrev Tryd.t_func_S_uint8_uint64_int_bool_bool_S_uint8_string : TypeId := 133
abbrev Tryd.t_func_bool_int : TypeId := 134
abbrev Tryd.t_20_uint64 : TypeId := 135
abbrev Tryd.t_uint32 : TypeId := 136
abbrev Tryd.t_65_uint8 : TypeId := 137
abbrev Tryd.t_uint : TypeId := 138
abbrev Tryd.t_func_uint_int : TypeId := 139
abbrev Tryd.t_func_uint32_int : TypeId := 140
abbrev Tryd.t_32_uint8 : TypeId := 141
abbrev Tryd.t_64_uint8 : TypeId := 142
abbrev Tryd.t_x144 : TypeId := 144
abbrev Tryd.t_runtime_TypeAssertionError : TypeId := 145
abbrev Tryd.t_0_P_runtime_PanicNilError : TypeId := 146
abbrev Tryd.t_x147 : TypeId := 147
abbrev Tryd.t_runtime_PanicNilError : TypeId := 148
abbrev Tryd.t_func_int : TypeId := 149
abbrev Tryd.t_abi_TFlag : TypeId := 150
abbrev Tryd.t_abi_Kind : TypeId := 151
abbrev Tryd.t_func_unsafe_Pointer_unsafe_Pointer_bool : TypeId := 152
abbrev Tryd.t_P_uint8 : TypeId := 153
abbrev Tryd.t_abi_NameOff : TypeId := 154
abbrev Tryd.t_abi_TypeOff : TypeId := 155
abbrev Tryd.t_x156 : TypeId := 156
abbrev Tryd.t_abi_Type : TypeId := 157
abbrev Tryd.t_unsafe_Pointer : TypeId := 158
abbrev Tryd.n_types_look : FuncId := 66
instance : Ld1 Tryd.prog 3 := ⟨by kernel_rfl⟩
instance : SzT Tryd.prog 3 1 := ⟨by kernel_rfl⟩
instance : KdT Tryd.prog 3 .i64 := ⟨by kernel_rfl⟩
instance : FldT Tryd.prog 25 4 4 := ⟨by kernel_rfl⟩
instance : Ld1 Tryd.prog 23 := ⟨by kernel_rfl⟩
instance : SzT Tryd.prog 23 1 := ⟨by kernel_rfl⟩
instance : SlT Tryd.prog 23 25 5 := ⟨by kernel_rfl⟩
instance : LdN Tryd.prog 25 5 := ⟨by kernel_rfl⟩
instance : SzT Tryd.prog 25 5 := ⟨by kernel_rfl⟩
instance : FldT Tryd.prog 25 1 1 := ⟨by kernel_rfl⟩
instance : Ld1 Tryd.prog 4 := ⟨by kernel_rfl⟩
instance : SzT Tryd.prog 4 1 := ⟨by kernel_rfl⟩
instance : KdB Tryd.prog 4 := ⟨by kernel_rfl⟩
instance : FldT Tryd.prog 25 2 2 := ⟨by kernel_rfl⟩
instance : FldT Tryd.prog 25 0 0 := ⟨by kernel_rfl⟩
instance : Ld1 Tryd.prog 22 := ⟨by kernel_rfl⟩
instance : SzT Tryd.prog 22 1 := ⟨by kernel_rfl⟩
instance : KdT Tryd.prog 22 .u8 := ⟨by kernel_rfl⟩
instance : FldT Tryd.prog 25 3 3 := ⟨by kernel_rfl⟩
abbrev Tryd.n_types_may : FuncId := 54
abbrev Tryd.n_types_words : FuncId := 70
instance : Ld1 Tryd.prog 50 := ⟨by kernel_rfl⟩
instance : SzT Tryd.prog 50 1 := ⟨by kernel_rfl⟩
instance : SlT Tryd.prog 50 99 2 := ⟨by kernel_rfl⟩
instance : LdN Tryd.prog 99 2 := ⟨by kernel_rfl⟩
instance : SzT Tryd.prog 99 2 := ⟨by kernel_rfl⟩
instance : FldT Tryd.prog 99 1 1 := ⟨by kernel_rfl⟩
instance : Ld1 Tryd.prog 97 := ⟨by kernel_rfl⟩
instance : SzT Tryd.prog 97 1 := ⟨by kernel_rfl⟩
instance : SlT Tryd.prog 97 101 6 := ⟨by kernel_rfl⟩
instance : LdN Tryd.prog 101 6 := ⟨by kernel_rfl⟩
instance : SzT Tryd.prog 101 6 := ⟨by kernel_rfl⟩
instance : ZrT Tryd.prog 101 [(.string ByteArray.empty), (.int .u8 0), (.bool false), (.int .i64 0), (.int .i64 0), (.slice none 0 0)] := ⟨by kernel_rfl⟩
instance : FldT Tryd.prog 101 1 1 := ⟨by kernel_rfl⟩
abbrev Tryd.n_types_endless : FuncId := 68
instance : LdN Tryd.prog 125 32 := ⟨by kernel_rfl⟩
instance : SzT Tryd.prog 125 32 := ⟨by kernel_rfl⟩
instance : ArT Tryd.prog 125 32 4 1 := ⟨by kernel_rfl⟩
instance : ZrT Tryd.prog 125 [(.bool false), (.bool false), (.bool false), (.bool false), (.bool false), (.bool false), (.bool false), (.bool false), (.bool false), (.bool false), (.bool false), (.bool false), (.bool false), (.bool false), (.bool false), (.bool false), (.bool false), (.bool false), (.bool false), (.bool false), (.bool false), (.bool false), (.bool false), (.bool false), (.bool false), (.bool false), (.bool false), (.bool false), (.bool false), (.bool false), (.bool false), (.bool false)] := ⟨by kernel_rfl⟩
instance : Ld1 Tryd.prog 68 := ⟨by kernel_rfl⟩
instance : SzT Tryd.prog 68 1 := ⟨by kernel_rfl⟩
instance : SlT Tryd.prog 68 3 1 := ⟨by kernel_rfl⟩
instance : ApT Tryd.prog 68 3 1 8 := ⟨by kernel_rfl⟩
abbrev Tryd.n_types_first : FuncId := 71
abbrev Tryd.n_types_Structs : FuncId := 25
instance : ZrT Tryd.prog 3 [(.int .i64 0)] := ⟨by kernel_rfl⟩
instance : Ld1 Tryd.prog 107 := ⟨by kernel_rfl⟩
instance : SzT Tryd.prog 107 1 := ⟨by kernel_rfl⟩
instance : SlT Tryd.prog 107 82 1 := ⟨by kernel_rfl⟩
instance : Ld1 Tryd.prog 82 := ⟨by kernel_rfl⟩
instance : SzT Tryd.prog 82 1 := ⟨by kernel_rfl⟩
instance : FnT Tryd.prog 82 := ⟨by kernel_rfl⟩
abbrev Tryd.n_types_Structs_1 : FuncId := 63
abbrev Tryd.n_types_Structs_1_1 : FuncId := 65
abbrev Tryd.n_types_Structs_2 : FuncId := 67
abbrev Tryd.n_types_Structs_3 : FuncId := 69
instance {x0_0 : Int} {x3_0 : Int} : PStep Tryd.prog (Instr.build 25 #[(0, .int .u8 x0_0), (3, .int .i64 x3_0)]) (.agg #[.int .u8 x0_0, (.bool false), (.int .i64 0), .int .i64 x3_0, (.slice none 0 0)]) := .of fun _ k => p_build (by kernel_rfl) k
abbrev Tryd.n_types_May : FuncId := 27
instance : Ld1 Tryd.prog 29 := ⟨by kernel_rfl⟩
instance : SzT Tryd.prog 29 1 := ⟨by kernel_rfl⟩
instance : KdT Tryd.prog 29 .i64 := ⟨by kernel_rfl⟩
abbrev Tryd.n_types_Words : FuncId := 31
abbrev Tryd.n_types_drops : FuncId := 76
abbrev Tryd.n_types_drops_1 : FuncId := 98
abbrev Tryd.n_types_Drops : FuncId := 33
abbrev Tryd.n_types_Copies : FuncId := 29
abbrev Tryd.n_types_own : FuncId := 78
instance : ZrT Tryd.prog 25 [(.int .u8 0), (.bool false), (.int .i64 0), (.int .i64 0), (.slice none 0 0)] := ⟨by kernel_rfl⟩
abbrev Tryd.n_types_Own : FuncId := 37
instance : PStep Tryd.prog (Instr.build 25 #[]) (.agg #[(.int .u8 0), (.bool false), (.int .i64 0), (.int .i64 0), (.slice none 0 0)]) := .of fun _ k => p_build (by kernel_rfl) k
abbrev Tryd.n_types_alike : FuncId := 60
abbrev Tryd.n_types_Alike : FuncId := 20
abbrev Tryd.n_types_Alike_1 : FuncId := 61
abbrev Tryd.n_types_Same : FuncId := 23
abbrev Tryd.n_types_Same_1 : FuncId := 62
abbrev Tryd.n_types_regions : FuncId := 50
instance : ZrT Tryd.prog 68 [(.slice none 0 0)] := ⟨by kernel_rfl⟩
abbrev Tryd.n_types_regions_1 : FuncId := 87
abbrev Tryd.n_types_walk : FuncId := 81
abbrev Tryd.n_types_Regions : FuncId := 41
abbrev Tryd.n_types_Number : FuncId := 43
abbrev Tryd.n_types_Number_1 : FuncId := 82
abbrev Tryd.n_types_Anew : FuncId := 45
abbrev Tryd.n_types_Anew_1 : FuncId := 84
abbrev Tryd.n_types_Anew_2 : FuncId := 85
abbrev Tryd.n_types_Asks : FuncId := 12
instance : Ld1 Tryd.prog 28 := ⟨by kernel_rfl⟩
instance : SzT Tryd.prog 28 1 := ⟨by kernel_rfl⟩
instance : SlT Tryd.prog 28 35 2 := ⟨by kernel_rfl⟩
instance : LdN Tryd.prog 35 2 := ⟨by kernel_rfl⟩
instance : SzT Tryd.prog 35 2 := ⟨by kernel_rfl⟩
instance : ZrT Tryd.prog 28 [(.slice none 0 0)] := ⟨by kernel_rfl⟩
abbrev Tryd.n_types_Asks_1 : FuncId := 51
abbrev Tryd.n_types_Asks_2 : FuncId := 52
instance {x0_0 : Int} {x1_0 : Int} : PStep Tryd.prog (Instr.build 35 #[(0, .int .i64 x0_0), (1, .int .i64 x1_0)]) (.agg #[.int .i64 x0_0, .int .i64 x1_0]) := .of fun _ k => p_build (by kernel_rfl) k
instance : ApT Tryd.prog 28 35 2 16 := ⟨by kernel_rfl⟩
abbrev Tryd.n_types_Fields : FuncId := 35
instance : ApT Tryd.prog 23 25 5 48 := ⟨by kernel_rfl⟩
abbrev Tryd.n_types_text : FuncId := 55
instance : Ld1 Tryd.prog 9 := ⟨by kernel_rfl⟩
instance : SzT Tryd.prog 9 1 := ⟨by kernel_rfl⟩
instance : StrT Tryd.prog 9 := ⟨by kernel_rfl⟩
instance : Ld1 Tryd.prog 5 := ⟨by kernel_rfl⟩
instance : SzT Tryd.prog 5 1 := ⟨by kernel_rfl⟩
instance : KdT Tryd.prog 5 .u8 := ⟨by kernel_rfl⟩
abbrev Tryd.n_types_Text : FuncId := 14
abbrev Tryd.n_types_reader_comes : FuncId := 89
instance : FldT Tryd.prog 88 0 0 := ⟨by kernel_rfl⟩
instance : FldT Tryd.prog 88 1 1 := ⟨by kernel_rfl⟩
abbrev Tryd.n_types_reader_take : FuncId := 90
instance : PStep Tryd.prog (Instr.build 90 #[]) (.agg #[]) := .of fun _ k => p_build (by kernel_rfl) k
instance : NIf Tryd.prog 90 := ⟨by kernel_rfl⟩
abbrev Tryd.n_types_reader_digits : FuncId := 91
abbrev Tryd.n_types_reader_kind : FuncId := 58
instance {x0_0 : Int} : PStep Tryd.prog (Instr.build 25 #[(0, .int .u8 x0_0)]) (.agg #[.int .u8 x0_0, (.bool false), (.int .i64 0), (.int .i64 0), (.slice none 0 0)]) := .of fun _ k => p_build (by kernel_rfl) k
instance {x0_0 : Int} {x4_0 : Option Addr} {x4_0_l : Nat} {x4_0_c : Nat} : PStep Tryd.prog (Instr.build 25 #[(0, .int .u8 x0_0), (4, .slice x4_0 x4_0_l x4_0_c)]) (.agg #[.int .u8 x0_0, (.bool false), (.int .i64 0), (.int .i64 0), .slice x4_0 x4_0_l x4_0_c]) := .of fun _ k => p_build (by kernel_rfl) k
abbrev Tryd.n_types_reader_ref : FuncId := 92
instance {x0_0 : Int} {x2_0 : Int} : PStep Tryd.prog (Instr.build 25 #[(0, .int .u8 x0_0), (2, .int .i64 x2_0)]) (.agg #[.int .u8 x0_0, (.bool false), .int .i64 x2_0, (.int .i64 0), (.slice none 0 0)]) := .of fun _ k => p_build (by kernel_rfl) k
abbrev Tryd.n_types_Read : FuncId := 16
instance : ZrT Tryd.prog 29 [(.int .i64 0)] := ⟨by kernel_rfl⟩
instance {x0_0 : ByteArray} : PStep Tryd.prog (Instr.build 88 #[(0, .string x0_0)]) (.agg #[.string x0_0, (.int .i64 0)]) := .of fun _ k => p_build (by kernel_rfl) k
instance : Ld1 Tryd.prog 86 := ⟨by kernel_rfl⟩
instance : SzT Tryd.prog 86 1 := ⟨by kernel_rfl⟩
instance : ZrT Tryd.prog 86 [(.pointer none)] := ⟨by kernel_rfl⟩
abbrev Tryd.n_types_Read_1 : FuncId := 57
instance : Ld1 Tryd.prog 20 := ⟨by kernel_rfl⟩
instance : SzT Tryd.prog 20 1 := ⟨by kernel_rfl⟩
instance : IfT Tryd.prog 20 := ⟨by kernel_rfl⟩
instance : LdN Tryd.prog 90 0 := ⟨by kernel_rfl⟩
instance : SzT Tryd.prog 90 0 := ⟨by kernel_rfl⟩
instance : ZrT Tryd.prog 90 [] := ⟨by kernel_rfl⟩
abbrev Tryd.n_ref06_look : FuncId := 72
abbrev Tryd.n_ref06_Is : FuncId := 38
abbrev Tryd.n_ref06_plain : FuncId := 73
abbrev Tryd.n_ref06_endless : FuncId := 74
instance : Ld1 Tryd.prog 126 := ⟨by kernel_rfl⟩
instance : SzT Tryd.prog 126 1 := ⟨by kernel_rfl⟩
instance : SlT Tryd.prog 126 4 1 := ⟨by kernel_rfl⟩
instance : ApT Tryd.prog 126 4 1 1 := ⟨by kernel_rfl⟩
instance : ZrT Tryd.prog 4 [(.bool false)] := ⟨by kernel_rfl⟩
abbrev Tryd.n_ref06_words : FuncId := 75
abbrev Tryd.n_ref06_Structs : FuncId := 26
abbrev Tryd.n_ref06_May : FuncId := 28
abbrev Tryd.n_ref06_Words : FuncId := 32
abbrev Tryd.n_ref06_drops : FuncId := 77
abbrev Tryd.n_ref06_Drops : FuncId := 34
abbrev Tryd.n_ref06_Copies : FuncId := 30
abbrev Tryd.n_ref06_Own : FuncId := 79
abbrev Tryd.n_ref06_alike : FuncId := 80
abbrev Tryd.n_ref06_Alike : FuncId := 39
abbrev Tryd.n_ref06_Same : FuncId := 40
abbrev Tryd.n_ref06_Regions : FuncId := 42
abbrev Tryd.n_ref06_laid : FuncId := 83
abbrev Tryd.n_ref06_Number : FuncId := 44
abbrev Tryd.n_ref06_Anew : FuncId := 46
abbrev Tryd.n_ref06_asks : FuncId := 53
abbrev Tryd.n_ref06_Asks : FuncId := 13
abbrev Tryd.n_ref06_Fields : FuncId := 36
abbrev Tryd.n_ref06_text : FuncId := 56
abbrev Tryd.n_ref06_Text : FuncId := 15
abbrev Tryd.n_ref06_reader_word : FuncId := 94
instance : FldT Tryd.prog 94 2 2 := ⟨by kernel_rfl⟩
instance : FldT Tryd.prog 94 1 1 := ⟨by kernel_rfl⟩
instance : FldT Tryd.prog 94 0 0 := ⟨by kernel_rfl⟩
abbrev Tryd.n_ref06_reader_next : FuncId := 93
abbrev Tryd.n_ref06_reader_number : FuncId := 95
instance : Ld1 Tryd.prog 123 := ⟨by kernel_rfl⟩
instance : SzT Tryd.prog 123 1 := ⟨by kernel_rfl⟩
instance : KdT Tryd.prog 123 .u64 := ⟨by kernel_rfl⟩
abbrev Tryd.n_ref06_reader_kind : FuncId := 59
abbrev Tryd.n_ref06_reader_reference : FuncId := 96
abbrev Tryd.n_ref06_Read : FuncId := 17
instance {x0_0 : ByteArray} : PStep Tryd.prog (Instr.build 94 #[(0, .string x0_0)]) (.agg #[.string x0_0, (.int .i64 0), (.bool false)]) := .of fun _ k => p_build (by kernel_rfl) k
abbrev Tryd.n_law06_TypesAsk : FuncId := 3
instance : Eq2 Tryd.prog 35 := ⟨by kernel_rfl⟩
instance {x0_0 : Int} : PStep Tryd.prog (Instr.build 35 #[(0, .int .i64 x0_0)]) (.agg #[.int .i64 x0_0, (.int .i64 0)]) := .of fun _ k => p_build (by kernel_rfl) k
abbrev Tryd.n_law06_TypesTexts : FuncId := 4
abbrev Tryd.n_law06_TypesOrder : FuncId := 5
instance : FldT Tryd.prog 35 0 0 := ⟨by kernel_rfl⟩
instance : FldT Tryd.prog 35 1 1 := ⟨by kernel_rfl⟩
abbrev Tryd.n_law06_TypesBack : FuncId := 6
abbrev Tryd.n_law06_TypesAmong : FuncId := 7
abbrev Tryd.n_law06_TypesTurn : FuncId := 8
abbrev Tryd.n_law06_TypesNumbers : FuncId := 9
abbrev Tryd.n_law06_typeFits : FuncId := 10
abbrev Tryd.n_law06_awake : FuncId := 11
abbrev Tryd.n_law06_equal : FuncId := 18
abbrev Tryd.n_law06_spoil : FuncId := 19
abbrev Tryd.n_law06_reach : FuncId := 21
instance : ZrT Tryd.prog 35 [(.int .i64 0), (.int .i64 0)] := ⟨by kernel_rfl⟩
abbrev Tryd.n_law06_has : FuncId := 22
abbrev Tryd.n_law06_fits : FuncId := 24
abbrev Tryd.n_law06_ref : FuncId := 47
instance {x0_0 : Int} {x1_0 : Bool} {x2_0 : Int} {x4_0 : Option Addr} {x4_0_l : Nat} {x4_0_c : Nat} : PStep Tryd.prog (Instr.build 25 #[(0, .int .u8 x0_0), (1, .bool x1_0), (2, .int .i64 x2_0), (4, .slice x4_0 x4_0_l x4_0_c)]) (.agg #[.int .u8 x0_0, .bool x1_0, .int .i64 x2_0, (.int .i64 0), .slice x4_0 x4_0_l x4_0_c]) := .of fun _ k => p_build (by kernel_rfl) k
abbrev Tryd.n_law06_i64 : FuncId := 48
abbrev Tryd.n_slices_ContainsFunc_int_int : FuncId := 49
abbrev Tryd.n_slices_ContainsFunc_api_Field_api_Field : FuncId := 64
abbrev Tryd.n_slices_IndexFunc_int_int : FuncId := 86
abbrev Tryd.n_slices_IndexFunc_api_Field_api_Field : FuncId := 97
abbrev Tryd.n_strconv_Itoa : FuncId := 88
abbrev Tryd.n_internal_strconv_Itoa : FuncId := 99
abbrev Tryd.n_strings_HasPrefix : FuncId := 100
abbrev Tryd.n_internal_strconv_FormatInt : FuncId := 101
instance : Ld1 Tryd.prog 2 := ⟨by kernel_rfl⟩
instance : SzT Tryd.prog 2 1 := ⟨by kernel_rfl⟩
instance : KdT Tryd.prog 2 .i64 := ⟨by kernel_rfl⟩
instance : LdN Tryd.prog 129 24 := ⟨by kernel_rfl⟩
instance : SzT Tryd.prog 129 24 := ⟨by kernel_rfl⟩
instance : ArT Tryd.prog 129 24 5 1 := ⟨by kernel_rfl⟩
instance : ZrT Tryd.prog 129 [(.int .u8 0), (.int .u8 0), (.int .u8 0), (.int .u8 0), (.int .u8 0), (.int .u8 0), (.int .u8 0), (.int .u8 0), (.int .u8 0), (.int .u8 0), (.int .u8 0), (.int .u8 0), (.int .u8 0), (.int .u8 0), (.int .u8 0), (.int .u8 0), (.int .u8 0), (.int .u8 0), (.int .u8 0), (.int .u8 0), (.int .u8 0), (.int .u8 0), (.int .u8 0), (.int .u8 0)] := ⟨by kernel_rfl⟩
instance : Ld1 Tryd.prog 131 := ⟨by kernel_rfl⟩
instance : SzT Tryd.prog 131 1 := ⟨by kernel_rfl⟩
instance : SlT Tryd.prog 131 5 1 := ⟨by kernel_rfl⟩
instance : BytT Tryd.prog 131 := ⟨by kernel_rfl⟩
abbrev Tryd.n_internal_stringslite_HasPrefix : FuncId := 102
abbrev Tryd.n_internal_strconv_small : FuncId := 103
abbrev Tryd.n_internal_strconv_numDigits : FuncId := 104
instance : LdN Tryd.prog 135 20 := ⟨by kernel_rfl⟩
instance : SzT Tryd.prog 135 20 := ⟨by kernel_rfl⟩
instance : ArT Tryd.prog 135 20 123 1 := ⟨by kernel_rfl⟩
abbrev Tryd.n_internal_strconv_formatBase10 : FuncId := 105
instance : Ld1 Tryd.prog 136 := ⟨by kernel_rfl⟩
instance : SzT Tryd.prog 136 1 := ⟨by kernel_rfl⟩
instance : KdT Tryd.prog 136 .u32 := ⟨by kernel_rfl⟩
abbrev Tryd.n_internal_strconv_formatBits : FuncId := 106
instance : NIf Tryd.prog 9 := ⟨by kernel_rfl⟩
instance : LdN Tryd.prog 137 65 := ⟨by kernel_rfl⟩
instance : SzT Tryd.prog 137 65 := ⟨by kernel_rfl⟩
instance : ArT Tryd.prog 137 65 5 1 := ⟨by kernel_rfl⟩
instance : ZrT Tryd.prog 137 [(.int .u8 0), (.int .u8 0), (.int .u8 0), (.int .u8 0), (.int .u8 0), (.int .u8 0), (.int .u8 0), (.int .u8 0), (.int .u8 0), (.int .u8 0), (.int .u8 0), (.int .u8 0), (.int .u8 0), (.int .u8 0), (.int .u8 0), (.int .u8 0), (.int .u8 0), (.int .u8 0), (.int .u8 0), (.int .u8 0), (.int .u8 0), (.int .u8 0), (.int .u8 0), (.int .u8 0), (.int .u8 0), (.int .u8 0), (.int .u8 0), (.int .u8 0), (.int .u8 0), (.int .u8 0), (.int .u8 0), (.int .u8 0), (.int .u8 0), (.int .u8 0), (.int .u8 0), (.int .u8 0), (.int .u8 0), (.int .u8 0), (.int .u8 0), (.int .u8 0), (.int .u8 0), (.int .u8 0), (.int .u8 0), (.int .u8 0), (.int .u8 0), (.int .u8 0), (.int .u8 0), (.int .u8 0), (.int .u8 0), (.int .u8 0), (.int .u8 0), (.int .u8 0), (.int .u8 0), (.int .u8 0), (.int .u8 0), (.int .u8 0), (.int .u8 0), (.int .u8 0), (.int .u8 0), (.int .u8 0), (.int .u8 0), (.int .u8 0), (.int .u8 0), (.int .u8 0), (.int .u8 0)] := ⟨by kernel_rfl⟩
instance : Ld1 Tryd.prog 138 := ⟨by kernel_rfl⟩
instance : SzT Tryd.prog 138 1 := ⟨by kernel_rfl⟩
instance : KdT Tryd.prog 138 .u64 := ⟨by kernel_rfl⟩
instance : ApT Tryd.prog 131 5 1 1 := ⟨by kernel_rfl⟩
abbrev Tryd.n_internal_strconv_log10Pow2 : FuncId := 107
abbrev Tryd.n_math_bits_Len64 : FuncId := 108
abbrev Tryd.n_internal_strconv_bool2_int : FuncId := 109
abbrev Tryd.n_internal_strconv_isPowerOfTwo : FuncId := 110
abbrev Tryd.n_math_bits_TrailingZeros : FuncId := 111
abbrev Tryd.n_math_bits_TrailingZeros32 : FuncId := 112
instance : LdN Tryd.prog 141 32 := ⟨by kernel_rfl⟩
instance : SzT Tryd.prog 141 32 := ⟨by kernel_rfl⟩
instance : ArT Tryd.prog 141 32 5 1 := ⟨by kernel_rfl⟩
abbrev Tryd.n_math_bits_TrailingZeros64 : FuncId := 113
instance : LdN Tryd.prog 142 64 := ⟨by kernel_rfl⟩
instance : SzT Tryd.prog 142 64 := ⟨by kernel_rfl⟩
instance : ArT Tryd.prog 142 64 5 1 := ⟨by kernel_rfl⟩
theorem Tryd.fa_Type_4 {K : Value → Prop} {b off : Nat} (k : K (.pointer (some ⟨b, off + 4, none⟩))) : opP Tryd.prog (Instr.fieldAt 25 (.pointer (some ⟨b, off, none⟩)) 4) K :=
  p_field (by kernel_rfl) k
theorem Tryd.ld_S_Type {w : World} {K : Value → Prop} {a : Addr} {v : Value} (h : w.cell? a = some v) (k : K v) : opQ Tryd.prog w (Instr.loadAt 23 (.pointer (some a))) K :=
  q_load (by kernel_rfl) h k
theorem Tryd.ldB_S_Type {w : World} {K : Value → Prop} {b i : Nat} {c : List Value} {v : Value} {T : TypeId} (B : Blk w b c T) (h : c[i]? = some v) (k : K v) : opQ Tryd.prog w (Instr.loadAt 23 (.pointer (some ⟨b, i, none⟩))) K :=
  q_load (by kernel_rfl) ((B.cell i).trans h) k
theorem Tryd.len_S_Type {K : Value → Prop} {p : Option Addr} {len cap : Nat} (k : K (.int .i64 len)) : opP Tryd.prog (Builtin.len_ #[23] 3 #[.slice p len cap]) K :=
  p_lenS (e := 25) (n := 5) (by kernel_rfl) k
theorem Tryd.ix_S_Type {K : Value → Prop} {b off len cap : Nat} {kd : IntKind} {i : Int} (h0 : 0 ≤ i) (h1 : i < len) (k : K (.pointer (some ⟨b, off + i.toNat * 5, none⟩))) : opP Tryd.prog (Instr.indexAt 23 (.slice (some ⟨b, off, none⟩) len cap) (.int kd i)) K :=
  p_index (e := 25) (n := 5) (by kernel_rfl) h0 h1 k
theorem Tryd.ldB_Type {w : World} {K : Value → Prop} {b : Nat} {c : List Value} {T : TypeId} (B : Blk w b c T) (hc : c.length = 5) (k : K (.agg c.toArray)) : opQ Tryd.prog w (Instr.loadAt 25 (.pointer (some ⟨b, 0, none⟩))) K :=
  q_loadB (by rw [hc]; kernel_rfl) B k
theorem Tryd.ldN_Type {w : World} {K : Value → Prop} {b off : Nat} {vs : List Value} (hc : vs.length = 5) (h : ∀ j v, vs[j]? = some v → w.cell? ⟨b, off + j, none⟩ = some v) (k : K (.agg vs.toArray)) : opQ Tryd.prog w (Instr.loadAt 25 (.pointer (some ⟨b, off, none⟩))) K :=
  q_loadN (by rw [hc]; kernel_rfl) h k
theorem Tryd.fa_Type_1 {K : Value → Prop} {b off : Nat} (k : K (.pointer (some ⟨b, off + 1, none⟩))) : opP Tryd.prog (Instr.fieldAt 25 (.pointer (some ⟨b, off, none⟩)) 1) K :=
  p_field (by kernel_rfl) k
theorem Tryd.ld_bool {w : World} {K : Value → Prop} {a : Addr} {v : Value} (h : w.cell? a = some v) (k : K v) : opQ Tryd.prog w (Instr.loadAt 4 (.pointer (some a))) K :=
  q_load (by kernel_rfl) h k
theorem Tryd.ldB_bool {w : World} {K : Value → Prop} {b i : Nat} {c : List Value} {v : Value} {T : TypeId} (B : Blk w b c T) (h : c[i]? = some v) (k : K v) : opQ Tryd.prog w (Instr.loadAt 4 (.pointer (some ⟨b, i, none⟩))) K :=
  q_load (by kernel_rfl) ((B.cell i).trans h) k
theorem Tryd.fa_Type_2 {K : Value → Prop} {b off : Nat} (k : K (.pointer (some ⟨b, off + 2, none⟩))) : opP Tryd.prog (Instr.fieldAt 25 (.pointer (some ⟨b, off, none⟩)) 2) K :=
  p_field (by kernel_rfl) k
theorem Tryd.ld_int {w : World} {K : Value → Prop} {a : Addr} {v : Value} (h : w.cell? a = some v) (k : K v) : opQ Tryd.prog w (Instr.loadAt 3 (.pointer (some a))) K :=
  q_load (by kernel_rfl) h k
theorem Tryd.ldB_int {w : World} {K : Value → Prop} {b i : Nat} {c : List Value} {v : Value} {T : TypeId} (B : Blk w b c T) (h : c[i]? = some v) (k : K v) : opQ Tryd.prog w (Instr.loadAt 3 (.pointer (some ⟨b, i, none⟩))) K :=
  q_load (by kernel_rfl) ((B.cell i).trans h) k
theorem Tryd.fa_Type_0 {K : Value → Prop} {b off : Nat} (k : K (.pointer (some ⟨b, off + 0, none⟩))) : opP Tryd.prog (Instr.fieldAt 25 (.pointer (some ⟨b, off, none⟩)) 0) K :=
  p_field (by kernel_rfl) k
theorem Tryd.ld_TypeKind {w : World} {K : Value → Prop} {a : Addr} {v : Value} (h : w.cell? a = some v) (k : K v) : opQ Tryd.prog w (Instr.loadAt 22 (.pointer (some a))) K :=
  q_load (by kernel_rfl) h k
theorem Tryd.ldB_TypeKind {w : World} {K : Value → Prop} {b i : Nat} {c : List Value} {v : Value} {T : TypeId} (B : Blk w b c T) (h : c[i]? = some v) (k : K v) : opQ Tryd.prog w (Instr.loadAt 22 (.pointer (some ⟨b, i, none⟩))) K :=
  q_load (by kernel_rfl) ((B.cell i).trans h) k
theorem Tryd.fa_Type_3 {K : Value → Prop} {b off : Nat} (k : K (.pointer (some ⟨b, off + 3, none⟩))) : opP Tryd.prog (Instr.fieldAt 25 (.pointer (some ⟨b, off, none⟩)) 3) K :=
  p_field (by kernel_rfl) k
theorem Tryd.ix_S_Struct {K : Value → Prop} {b off len cap : Nat} {kd : IntKind} {i : Int} (h0 : 0 ≤ i) (h1 : i < len) (k : K (.pointer (some ⟨b, off + i.toNat * 2, none⟩))) : opP Tryd.prog (Instr.indexAt 50 (.slice (some ⟨b, off, none⟩) len cap) (.int kd i)) K :=
  p_index (e := 99) (n := 2) (by kernel_rfl) h0 h1 k
theorem Tryd.fa_Struct_1 {K : Value → Prop} {b off : Nat} (k : K (.pointer (some ⟨b, off + 1, none⟩))) : opP Tryd.prog (Instr.fieldAt 99 (.pointer (some ⟨b, off, none⟩)) 1) K :=
  p_field (by kernel_rfl) k
theorem Tryd.ld_S_Field {w : World} {K : Value → Prop} {a : Addr} {v : Value} (h : w.cell? a = some v) (k : K v) : opQ Tryd.prog w (Instr.loadAt 97 (.pointer (some a))) K :=
  q_load (by kernel_rfl) h k
theorem Tryd.ldB_S_Field {w : World} {K : Value → Prop} {b i : Nat} {c : List Value} {v : Value} {T : TypeId} (B : Blk w b c T) (h : c[i]? = some v) (k : K v) : opQ Tryd.prog w (Instr.loadAt 97 (.pointer (some ⟨b, i, none⟩))) K :=
  q_load (by kernel_rfl) ((B.cell i).trans h) k
theorem Tryd.len_S_Field {K : Value → Prop} {p : Option Addr} {len cap : Nat} (k : K (.int .i64 len)) : opP Tryd.prog (Builtin.len_ #[97] 3 #[.slice p len cap]) K :=
  p_lenS (e := 101) (n := 6) (by kernel_rfl) k
theorem Tryd.ix_S_Field {K : Value → Prop} {b off len cap : Nat} {kd : IntKind} {i : Int} (h0 : 0 ≤ i) (h1 : i < len) (k : K (.pointer (some ⟨b, off + i.toNat * 6, none⟩))) : opP Tryd.prog (Instr.indexAt 97 (.slice (some ⟨b, off, none⟩) len cap) (.int kd i)) K :=
  p_index (e := 101) (n := 6) (by kernel_rfl) h0 h1 k
theorem Tryd.ldB_Field {w : World} {K : Value → Prop} {b : Nat} {c : List Value} {T : TypeId} (B : Blk w b c T) (hc : c.length = 6) (k : K (.agg c.toArray)) : opQ Tryd.prog w (Instr.loadAt 101 (.pointer (some ⟨b, 0, none⟩))) K :=
  q_loadB (by rw [hc]; kernel_rfl) B k
theorem Tryd.ldN_Field {w : World} {K : Value → Prop} {b off : Nat} {vs : List Value} (hc : vs.length = 6) (h : ∀ j v, vs[j]? = some v → w.cell? ⟨b, off + j, none⟩ = some v) (k : K (.agg vs.toArray)) : opQ Tryd.prog w (Instr.loadAt 101 (.pointer (some ⟨b, off, none⟩))) K :=
  q_loadN (by rw [hc]; kernel_rfl) h k
theorem Tryd.al_Field {w : World} {K : Value → World → Prop} (h : ∀ b w', b = w.heap.size → Ext w w' → w'.heap.size = w.heap.size + 1 → Blk w' b [(.string ByteArray.empty), (.int .u8 0), (.bool false), (.int .i64 0), (.int .i64 0), (.slice none 0 0)] 101 → K (.pointer (some ⟨b, 0, none⟩)) w') : opW Tryd.prog w (Instr.alloc 101 true (.tuple #[])) K :=
  w_alloc (by kernel_rfl) h
theorem Tryd.stB_Field {w : World} {K : World → Prop} {cs : Array Value} {b : Nat} {c : List Value} {T : TypeId} (B : Blk w b c T) (hl : c.length = 6) (hc : cs.size = 6) (h1 : ∀ u ∈ cs.toList, u.oneCell' = true) (h : ∀ w', ExtBut (· = b) w w' → w'.heap.size = w.heap.size → Blk w' b cs.toList T → K w') : opU Tryd.prog w (Instr.storeAt 101 (.pointer (some ⟨b, 0, none⟩)) (.agg cs)) K :=
  w_storeB (v := .agg cs) (by rw [show (Value.agg cs).cells.size = 6 from hc]; kernel_rfl) B (by rw [hl]; exact hc) h1 h
theorem Tryd.st_Field {w : World} {K : World → Prop} {cs : Array Value} {b off : Nat} {c : List Value} {T : TypeId} (B : Blk w b c T) (hl : off + 6 ≤ c.length) (hc : cs.size = 6) (h1 : ∀ u ∈ cs.toList, u.oneCell' = true) (h : ∀ w', ExtBut (· = b) w w' → w'.heap.size = w.heap.size → Blk w' b (c.take off ++ cs.toList ++ c.drop (off + 6)) T → K w') : opU Tryd.prog w (Instr.storeAt 101 (.pointer (some ⟨b, off, none⟩)) (.agg cs)) K :=
  w_store (v := .agg cs) (by rw [show (Value.agg cs).cells.size = 6 from hc]; kernel_rfl) B (by rw [show (Value.agg cs).cells.size = 6 from hc]; exact hl) h1 (by rw [show (Value.agg cs).cells.size = 6 from hc]; exact h)
theorem Tryd.fa_Field_1 {K : Value → Prop} {b off : Nat} (k : K (.pointer (some ⟨b, off + 1, none⟩))) : opP Tryd.prog (Instr.fieldAt 101 (.pointer (some ⟨b, off, none⟩)) 1) K :=
  p_field (by kernel_rfl) k
theorem Tryd.al_32_bool {w : World} {K : Value → World → Prop} (h : ∀ b w', b = w.heap.size → Ext w w' → w'.heap.size = w.heap.size + 1 → Blk w' b [(.bool false), (.bool false), (.bool false), (.bool false), (.bool false), (.bool false), (.bool false), (.bool false), (.bool false), (.bool false), (.bool false), (.bool false), (.bool false), (.bool false), (.bool false), (.bool false), (.bool false), (.bool false), (.bool false), (.bool false), (.bool false), (.bool false), (.bool false), (.bool false), (.bool false), (.bool false), (.bool false), (.bool false), (.bool false), (.bool false), (.bool false), (.bool false)] 125 → K (.pointer (some ⟨b, 0, none⟩)) w') : opW Tryd.prog w (Instr.alloc 125 true (.tuple #[])) K :=
  w_alloc (by kernel_rfl) h
theorem Tryd.len_S_int {K : Value → Prop} {p : Option Addr} {len cap : Nat} (k : K (.int .i64 len)) : opP Tryd.prog (Builtin.len_ #[68] 3 #[.slice p len cap]) K :=
  p_lenS (e := 3) (n := 1) (by kernel_rfl) k
theorem Tryd.ix_S_int {K : Value → Prop} {b off len cap : Nat} {kd : IntKind} {i : Int} (h0 : 0 ≤ i) (h1 : i < len) (k : K (.pointer (some ⟨b, off + i.toNat, none⟩))) : opP Tryd.prog (Instr.indexAt 68 (.slice (some ⟨b, off, none⟩) len cap) (.int kd i)) K :=
  p_index (e := 3) (n := 1) (by kernel_rfl) h0 h1 (by rw [Nat.mul_one]; exact k)
theorem Tryd.slHi_S_int {K : Value → Prop} {p : Option Addr} {len cap : Nat} {kd : IntKind} {i : Int} (h0 : 0 ≤ i) (h1 : i ≤ cap) (k : K (.slice p i.toNat cap)) : opP Tryd.prog (Instr.sliceAt 68 (.slice p len cap) none (some (.int kd i)) none) K :=
  p_sliceHi (e := 3) (n := 1) (by kernel_rfl) h0 h1 k
theorem Tryd.slLo_S_int {K : Value → Prop} {p : Option Addr} {len cap : Nat} {kd : IntKind} {i : Int} (h0 : 0 ≤ i) (h1 : i ≤ len) (k : K (.slice (if cap = i.toNat then p else p.map (·.add (i.toNat * 1))) (len - i.toNat) (cap - i.toNat))) : opP Tryd.prog (Instr.sliceAt 68 (.slice p len cap) (some (.int kd i)) none none) K :=
  p_sliceLo (e := 3) (n := 1) (by kernel_rfl) h0 h1 k
theorem Tryd.st_bool {w : World} {K : World → Prop} {v : Value} {b off : Nat} {c : List Value} {T : TypeId} (B : Blk w b c T) (hl : off < c.length) (h1 : v.oneCell' = true) (h : ∀ w', ExtBut (· = b) w w' → w'.heap.size = w.heap.size → Blk w' b (c.set off v) T → K w') : opU Tryd.prog w (Instr.storeAt 4 (.pointer (some ⟨b, off, none⟩)) v) K :=
  w_store1 (by kernel_rfl) B hl h1 h
theorem Tryd.ap_S_int {w : World} {K : Value → World → Prop} {base : Nat} {v : Value} {n : Nat} {xs : List Value} {p : Option Addr} {m c : Nat} {news : List Value} (hown : w.ownsRow base 3 1 v n xs) (hs : Sl w p news) (hl : news.length = m * 1) (hp : p = none → c = 0) (h1 : ∀ u ∈ news, u.oneCell' = true) (hb : (n + m) * 8 ≤ 140737488355328) (hbase : base ≤ w.heap.size) (h : ∀ v' w', w'.ownsRow base 3 1 v' (n + m) (xs ++ news) → ExtBut (fun k => v.ownBlock = some k) w w' → (v'.ownBlock = v.ownBlock ∨ v'.ownBlock = some w.heap.size) → (v' = .slice none 0 0 ↔ v = .slice none 0 0 ∧ m = 0) → K v' w') : opW Tryd.prog w (Builtin.append_ #[68, 68] 68 #[v, .slice p m c]) K :=
  w_append (by kernel_rfl) hown hs hl hp h1 hb hbase h
theorem Tryd.ld_S_Struct {w : World} {K : Value → Prop} {a : Addr} {v : Value} (h : w.cell? a = some v) (k : K v) : opQ Tryd.prog w (Instr.loadAt 50 (.pointer (some a))) K :=
  q_load (by kernel_rfl) h k
theorem Tryd.ldB_S_Struct {w : World} {K : Value → Prop} {b i : Nat} {c : List Value} {v : Value} {T : TypeId} (B : Blk w b c T) (h : c[i]? = some v) (k : K v) : opQ Tryd.prog w (Instr.loadAt 50 (.pointer (some ⟨b, i, none⟩))) K :=
  q_load (by kernel_rfl) ((B.cell i).trans h) k
theorem Tryd.len_S_Struct {K : Value → Prop} {p : Option Addr} {len cap : Nat} (k : K (.int .i64 len)) : opP Tryd.prog (Builtin.len_ #[50] 3 #[.slice p len cap]) K :=
  p_lenS (e := 99) (n := 2) (by kernel_rfl) k
theorem Tryd.al_int {w : World} {K : Value → World → Prop} (h : ∀ b w', b = w.heap.size → Ext w w' → w'.heap.size = w.heap.size + 1 → Blk w' b [(.int .i64 0)] 3 → K (.pointer (some ⟨b, 0, none⟩)) w') : opW Tryd.prog w (Instr.alloc 3 true (.tuple #[])) K :=
  w_alloc (by kernel_rfl) h
theorem Tryd.st_int {w : World} {K : World → Prop} {v : Value} {b off : Nat} {c : List Value} {T : TypeId} (B : Blk w b c T) (hl : off < c.length) (h1 : v.oneCell' = true) (h : ∀ w', ExtBut (· = b) w w' → w'.heap.size = w.heap.size → Blk w' b (c.set off v) T → K w') : opU Tryd.prog w (Instr.storeAt 3 (.pointer (some ⟨b, off, none⟩)) v) K :=
  w_store1 (by kernel_rfl) B hl h1 h
theorem Tryd.len_S_func_int_bool {K : Value → Prop} {p : Option Addr} {len cap : Nat} (k : K (.int .i64 len)) : opP Tryd.prog (Builtin.len_ #[107] 3 #[.slice p len cap]) K :=
  p_lenS (e := 82) (n := 1) (by kernel_rfl) k
theorem Tryd.ix_S_func_int_bool {K : Value → Prop} {b off len cap : Nat} {kd : IntKind} {i : Int} (h0 : 0 ≤ i) (h1 : i < len) (k : K (.pointer (some ⟨b, off + i.toNat, none⟩))) : opP Tryd.prog (Instr.indexAt 107 (.slice (some ⟨b, off, none⟩) len cap) (.int kd i)) K :=
  p_index (e := 82) (n := 1) (by kernel_rfl) h0 h1 (by rw [Nat.mul_one]; exact k)
theorem Tryd.ld_func_int_bool {w : World} {K : Value → Prop} {a : Addr} {v : Value} (h : w.cell? a = some v) (k : K v) : opQ Tryd.prog w (Instr.loadAt 82 (.pointer (some a))) K :=
  q_load (by kernel_rfl) h k
theorem Tryd.ldB_func_int_bool {w : World} {K : Value → Prop} {b i : Nat} {c : List Value} {v : Value} {T : TypeId} (B : Blk w b c T) (h : c[i]? = some v) (k : K v) : opQ Tryd.prog w (Instr.loadAt 82 (.pointer (some ⟨b, i, none⟩))) K :=
  q_load (by kernel_rfl) ((B.cell i).trans h) k
theorem Tryd.ce_Type {w : World} {K : Value → Prop} {b : Nat} {c : List Value} {T : TypeId} (B : Blk w b c T) (hc : c.length = 5) (k : K (.agg c.toArray)) : opQ Tryd.prog w (cellSem 25 (.pointer (some ⟨b, 0, none⟩))) K :=
  q_cellB (by rw [hc]; kernel_rfl) B k
theorem Tryd.al_Type {w : World} {K : Value → World → Prop} (h : ∀ b w', b = w.heap.size → Ext w w' → w'.heap.size = w.heap.size + 1 → Blk w' b [(.int .u8 0), (.bool false), (.int .i64 0), (.int .i64 0), (.slice none 0 0)] 25 → K (.pointer (some ⟨b, 0, none⟩)) w') : opW Tryd.prog w (Instr.alloc 25 true (.tuple #[])) K :=
  w_alloc (by kernel_rfl) h
theorem Tryd.st_S_Type {w : World} {K : World → Prop} {v : Value} {b off : Nat} {c : List Value} {T : TypeId} (B : Blk w b c T) (hl : off < c.length) (h1 : v.oneCell' = true) (h : ∀ w', ExtBut (· = b) w w' → w'.heap.size = w.heap.size → Blk w' b (c.set off v) T → K w') : opU Tryd.prog w (Instr.storeAt 23 (.pointer (some ⟨b, off, none⟩)) v) K :=
  w_store1 (by kernel_rfl) B hl h1 h
theorem Tryd.stB_Type {w : World} {K : World → Prop} {cs : Array Value} {b : Nat} {c : List Value} {T : TypeId} (B : Blk w b c T) (hl : c.length = 5) (hc : cs.size = 5) (h1 : ∀ u ∈ cs.toList, u.oneCell' = true) (h : ∀ w', ExtBut (· = b) w w' → w'.heap.size = w.heap.size → Blk w' b cs.toList T → K w') : opU Tryd.prog w (Instr.storeAt 25 (.pointer (some ⟨b, 0, none⟩)) (.agg cs)) K :=
  w_storeB (v := .agg cs) (by rw [show (Value.agg cs).cells.size = 5 from hc]; kernel_rfl) B (by rw [hl]; exact hc) h1 h
theorem Tryd.st_Type {w : World} {K : World → Prop} {cs : Array Value} {b off : Nat} {c : List Value} {T : TypeId} (B : Blk w b c T) (hl : off + 5 ≤ c.length) (hc : cs.size = 5) (h1 : ∀ u ∈ cs.toList, u.oneCell' = true) (h : ∀ w', ExtBut (· = b) w w' → w'.heap.size = w.heap.size → Blk w' b (c.take off ++ cs.toList ++ c.drop (off + 5)) T → K w') : opU Tryd.prog w (Instr.storeAt 25 (.pointer (some ⟨b, off, none⟩)) (.agg cs)) K :=
  w_store (v := .agg cs) (by rw [show (Value.agg cs).cells.size = 5 from hc]; kernel_rfl) B (by rw [show (Value.agg cs).cells.size = 5 from hc]; exact hl) h1 (by rw [show (Value.agg cs).cells.size = 5 from hc]; exact h)
theorem Tryd.al_S_int {w : World} {K : Value → World → Prop} (h : ∀ b w', b = w.heap.size → Ext w w' → w'.heap.size = w.heap.size + 1 → Blk w' b [(.slice none 0 0)] 68 → K (.pointer (some ⟨b, 0, none⟩)) w') : opW Tryd.prog w (Instr.alloc 68 true (.tuple #[])) K :=
  w_alloc (by kernel_rfl) h
theorem Tryd.ld_S_int {w : World} {K : Value → Prop} {a : Addr} {v : Value} (h : w.cell? a = some v) (k : K v) : opQ Tryd.prog w (Instr.loadAt 68 (.pointer (some a))) K :=
  q_load (by kernel_rfl) h k
theorem Tryd.ldB_S_int {w : World} {K : Value → Prop} {b i : Nat} {c : List Value} {v : Value} {T : TypeId} (B : Blk w b c T) (h : c[i]? = some v) (k : K v) : opQ Tryd.prog w (Instr.loadAt 68 (.pointer (some ⟨b, i, none⟩))) K :=
  q_load (by kernel_rfl) ((B.cell i).trans h) k
theorem Tryd.st_S_int {w : World} {K : World → Prop} {v : Value} {b off : Nat} {c : List Value} {T : TypeId} (B : Blk w b c T) (hl : off < c.length) (h1 : v.oneCell' = true) (h : ∀ w', ExtBut (· = b) w w' → w'.heap.size = w.heap.size → Blk w' b (c.set off v) T → K w') : opU Tryd.prog w (Instr.storeAt 68 (.pointer (some ⟨b, off, none⟩)) v) K :=
  w_store1 (by kernel_rfl) B hl h1 h
theorem Tryd.al_S_Constraint {w : World} {K : Value → World → Prop} (h : ∀ b w', b = w.heap.size → Ext w w' → w'.heap.size = w.heap.size + 1 → Blk w' b [(.slice none 0 0)] 28 → K (.pointer (some ⟨b, 0, none⟩)) w') : opW Tryd.prog w (Instr.alloc 28 true (.tuple #[])) K :=
  w_alloc (by kernel_rfl) h
theorem Tryd.ld_S_Constraint {w : World} {K : Value → Prop} {a : Addr} {v : Value} (h : w.cell? a = some v) (k : K v) : opQ Tryd.prog w (Instr.loadAt 28 (.pointer (some a))) K :=
  q_load (by kernel_rfl) h k
theorem Tryd.ldB_S_Constraint {w : World} {K : Value → Prop} {b i : Nat} {c : List Value} {v : Value} {T : TypeId} (B : Blk w b c T) (h : c[i]? = some v) (k : K v) : opQ Tryd.prog w (Instr.loadAt 28 (.pointer (some ⟨b, i, none⟩))) K :=
  q_load (by kernel_rfl) ((B.cell i).trans h) k
theorem Tryd.ap_S_Constraint {w : World} {K : Value → World → Prop} {base : Nat} {v : Value} {n : Nat} {xs : List Value} {p : Option Addr} {m c : Nat} {news : List Value} (hown : w.ownsRow base 35 2 v n xs) (hs : Sl w p news) (hl : news.length = m * 2) (hp : p = none → c = 0) (h1 : ∀ u ∈ news, u.oneCell' = true) (hb : (n + m) * 16 ≤ 140737488355328) (hbase : base ≤ w.heap.size) (h : ∀ v' w', w'.ownsRow base 35 2 v' (n + m) (xs ++ news) → ExtBut (fun k => v.ownBlock = some k) w w' → (v'.ownBlock = v.ownBlock ∨ v'.ownBlock = some w.heap.size) → (v' = .slice none 0 0 ↔ v = .slice none 0 0 ∧ m = 0) → K v' w') : opW Tryd.prog w (Builtin.append_ #[28, 28] 28 #[v, .slice p m c]) K :=
  w_append (by kernel_rfl) hown hs hl hp h1 hb hbase h
theorem Tryd.st_S_Constraint {w : World} {K : World → Prop} {v : Value} {b off : Nat} {c : List Value} {T : TypeId} (B : Blk w b c T) (hl : off < c.length) (h1 : v.oneCell' = true) (h : ∀ w', ExtBut (· = b) w w' → w'.heap.size = w.heap.size → Blk w' b (c.set off v) T → K w') : opU Tryd.prog w (Instr.storeAt 28 (.pointer (some ⟨b, off, none⟩)) v) K :=
  w_store1 (by kernel_rfl) B hl h1 h
theorem Tryd.ap_S_Type {w : World} {K : Value → World → Prop} {base : Nat} {v : Value} {n : Nat} {xs : List Value} {p : Option Addr} {m c : Nat} {news : List Value} (hown : w.ownsRow base 25 5 v n xs) (hs : Sl w p news) (hl : news.length = m * 5) (hp : p = none → c = 0) (h1 : ∀ u ∈ news, u.oneCell' = true) (hb : (n + m) * 48 ≤ 140737488355328) (hbase : base ≤ w.heap.size) (h : ∀ v' w', w'.ownsRow base 25 5 v' (n + m) (xs ++ news) → ExtBut (fun k => v.ownBlock = some k) w w' → (v'.ownBlock = v.ownBlock ∨ v'.ownBlock = some w.heap.size) → (v' = .slice none 0 0 ↔ v = .slice none 0 0 ∧ m = 0) → K v' w') : opW Tryd.prog w (Builtin.append_ #[23, 23] 23 #[v, .slice p m c]) K :=
  w_append (by kernel_rfl) hown hs hl hp h1 hb hbase h
theorem Tryd.by_string {K : Value → Prop} {s : ByteArray} {kd : IntKind} {i : Int} (h0 : 0 ≤ i) (h1 : i.toNat < s.size) (k : K (.int .u8 (s[i.toNat].toNat : Int))) : opP Tryd.prog (Instr.index 9 (.string s) (.int kd i)) K :=
  p_byte (by kernel_rfl) h0 h1 k
theorem Tryd.fa_types_reader_0 {K : Value → Prop} {b off : Nat} (k : K (.pointer (some ⟨b, off + 0, none⟩))) : opP Tryd.prog (Instr.fieldAt 88 (.pointer (some ⟨b, off, none⟩)) 0) K :=
  p_field (by kernel_rfl) k
theorem Tryd.ld_string {w : World} {K : Value → Prop} {a : Addr} {v : Value} (h : w.cell? a = some v) (k : K v) : opQ Tryd.prog w (Instr.loadAt 9 (.pointer (some a))) K :=
  q_load (by kernel_rfl) h k
theorem Tryd.ldB_string {w : World} {K : Value → Prop} {b i : Nat} {c : List Value} {v : Value} {T : TypeId} (B : Blk w b c T) (h : c[i]? = some v) (k : K v) : opQ Tryd.prog w (Instr.loadAt 9 (.pointer (some ⟨b, i, none⟩))) K :=
  q_load (by kernel_rfl) ((B.cell i).trans h) k
theorem Tryd.fa_types_reader_1 {K : Value → Prop} {b off : Nat} (k : K (.pointer (some ⟨b, off + 1, none⟩))) : opP Tryd.prog (Instr.fieldAt 88 (.pointer (some ⟨b, off, none⟩)) 1) K :=
  p_field (by kernel_rfl) k
theorem Tryd.slHi_string {K : Value → Prop} {s : ByteArray} {kd : IntKind} {i : Int} (h0 : 0 ≤ i) (h1 : i ≤ s.size) (k : K (.string (s.extract 0 i.toNat))) : opP Tryd.prog (Instr.sliceAt 9 (.string s) none (some (.int kd i)) none) K :=
  p_strHi (by kernel_rfl) h0 h1 k
theorem Tryd.slLo_string {K : Value → Prop} {s : ByteArray} {kd : IntKind} {i : Int} (h0 : 0 ≤ i) (h1 : i ≤ s.size) (k : K (.string (s.extract i.toNat s.size))) : opP Tryd.prog (Instr.sliceAt 9 (.string s) (some (.int kd i)) none none) K :=
  p_strLo (by kernel_rfl) h0 h1 k
theorem Tryd.len_string {K : Value → Prop} {s : ByteArray} (k : K (.int .i64 s.size)) : opP Tryd.prog (Builtin.len_ #[9] 3 #[.string s]) K :=
  p_lenStr (by kernel_rfl) k
theorem Tryd.ce_int {w : World} {K : Value → Prop} {b : Nat} {v : Value} {T : TypeId} (B : Blk w b [v] T) (k : K v) : opQ Tryd.prog w (cellSem 3 (.pointer (some ⟨b, 0, none⟩))) K :=
  q_cell1 (by kernel_rfl) (by rw [B.cell]; rfl) k
theorem Tryd.ce_Errno {w : World} {K : Value → Prop} {b : Nat} {v : Value} {T : TypeId} (B : Blk w b [v] T) (k : K v) : opQ Tryd.prog w (cellSem 29 (.pointer (some ⟨b, 0, none⟩))) K :=
  q_cell1 (by kernel_rfl) (by rw [B.cell]; rfl) k
theorem Tryd.al_Errno {w : World} {K : Value → World → Prop} (h : ∀ b w', b = w.heap.size → Ext w w' → w'.heap.size = w.heap.size + 1 → Blk w' b [(.int .i64 0)] 29 → K (.pointer (some ⟨b, 0, none⟩)) w') : opW Tryd.prog w (Instr.alloc 29 true (.tuple #[])) K :=
  w_alloc (by kernel_rfl) h
theorem Tryd.al_P_types_reader {w : World} {K : Value → World → Prop} (h : ∀ b w', b = w.heap.size → Ext w w' → w'.heap.size = w.heap.size + 1 → Blk w' b [(.pointer none)] 86 → K (.pointer (some ⟨b, 0, none⟩)) w') : opW Tryd.prog w (Instr.alloc 86 true (.tuple #[])) K :=
  w_alloc (by kernel_rfl) h
theorem Tryd.st_P_types_reader {w : World} {K : World → Prop} {v : Value} {b off : Nat} {c : List Value} {T : TypeId} (B : Blk w b c T) (hl : off < c.length) (h1 : v.oneCell' = true) (h : ∀ w', ExtBut (· = b) w w' → w'.heap.size = w.heap.size → Blk w' b (c.set off v) T → K w') : opU Tryd.prog w (Instr.storeAt 86 (.pointer (some ⟨b, off, none⟩)) v) K :=
  w_store1 (by kernel_rfl) B hl h1 h
theorem Tryd.ld_P_types_reader {w : World} {K : Value → Prop} {a : Addr} {v : Value} (h : w.cell? a = some v) (k : K v) : opQ Tryd.prog w (Instr.loadAt 86 (.pointer (some a))) K :=
  q_load (by kernel_rfl) h k
theorem Tryd.ldB_P_types_reader {w : World} {K : Value → Prop} {b i : Nat} {c : List Value} {v : Value} {T : TypeId} (B : Blk w b c T) (h : c[i]? = some v) (k : K v) : opQ Tryd.prog w (Instr.loadAt 86 (.pointer (some ⟨b, i, none⟩))) K :=
  q_load (by kernel_rfl) ((B.cell i).trans h) k
theorem Tryd.st_Errno {w : World} {K : World → Prop} {v : Value} {b off : Nat} {c : List Value} {T : TypeId} (B : Blk w b c T) (hl : off < c.length) (h1 : v.oneCell' = true) (h : ∀ w', ExtBut (· = b) w w' → w'.heap.size = w.heap.size → Blk w' b (c.set off v) T → K w') : opU Tryd.prog w (Instr.storeAt 29 (.pointer (some ⟨b, off, none⟩)) v) K :=
  w_store1 (by kernel_rfl) B hl h1 h
theorem Tryd.al_types_stuck {w : World} {K : Value → World → Prop} (h : ∀ b w', b = w.heap.size → Ext w w' → w'.heap.size = w.heap.size + 1 → Blk w' b [] 90 → K (.pointer (some ⟨b, 0, none⟩)) w') : opW Tryd.prog w (Instr.alloc 90 true (.tuple #[])) K :=
  w_alloc (by kernel_rfl) h
theorem Tryd.stB_types_stuck {w : World} {K : World → Prop} {cs : Array Value} {b : Nat} {c : List Value} {T : TypeId} (B : Blk w b c T) (hl : c.length = 0) (hc : cs.size = 0) (h1 : ∀ u ∈ cs.toList, u.oneCell' = true) (h : ∀ w', ExtBut (· = b) w w' → w'.heap.size = w.heap.size → Blk w' b cs.toList T → K w') : opU Tryd.prog w (Instr.storeAt 90 (.pointer (some ⟨b, 0, none⟩)) (.agg cs)) K :=
  w_storeB (v := .agg cs) (by rw [show (Value.agg cs).cells.size = 0 from hc]; kernel_rfl) B (by rw [hl]; exact hc) h1 h
theorem Tryd.st_types_stuck {w : World} {K : World → Prop} {cs : Array Value} {b off : Nat} {c : List Value} {T : TypeId} (B : Blk w b c T) (hl : off + 0 ≤ c.length) (hc : cs.size = 0) (h1 : ∀ u ∈ cs.toList, u.oneCell' = true) (h : ∀ w', ExtBut (· = b) w w' → w'.heap.size = w.heap.size → Blk w' b (c.take off ++ cs.toList ++ c.drop (off + 0)) T → K w') : opU Tryd.prog w (Instr.storeAt 90 (.pointer (some ⟨b, off, none⟩)) (.agg cs)) K :=
  w_store (v := .agg cs) (by rw [show (Value.agg cs).cells.size = 0 from hc]; kernel_rfl) B (by rw [show (Value.agg cs).cells.size = 0 from hc]; exact hl) h1 (by rw [show (Value.agg cs).cells.size = 0 from hc]; exact h)
theorem Tryd.mk_S_bool {w : World} {K : Value → World → Prop} {kl : IntKind} {n : Int} (h0 : 0 ≤ n) (hb : (1 : Int) * n ≤ 281474976710656) (h : ∀ b w', b = w.heap.size → Ext w w' → w'.heap.size = w.heap.size + 1 → Blk w' b (List.replicate n.toNat (.bool false)) 4 → K (.slice (some ⟨b, 0, none⟩) n.toNat n.toNat) w') : opW Tryd.prog w (Instr.makeSlice 126 (.int kl n) (.int kl n)) K :=
  w_make (bytes := 1) (by kernel_rfl) (by kernel_rfl) h0 hb h
theorem Tryd.ix_S_bool {K : Value → Prop} {b off len cap : Nat} {kd : IntKind} {i : Int} (h0 : 0 ≤ i) (h1 : i < len) (k : K (.pointer (some ⟨b, off + i.toNat, none⟩))) : opP Tryd.prog (Instr.indexAt 126 (.slice (some ⟨b, off, none⟩) len cap) (.int kd i)) K :=
  p_index (e := 4) (n := 1) (by kernel_rfl) h0 h1 (by rw [Nat.mul_one]; exact k)
theorem Tryd.fa_loanwordref06_reader_2 {K : Value → Prop} {b off : Nat} (k : K (.pointer (some ⟨b, off + 2, none⟩))) : opP Tryd.prog (Instr.fieldAt 94 (.pointer (some ⟨b, off, none⟩)) 2) K :=
  p_field (by kernel_rfl) k
theorem Tryd.fa_loanwordref06_reader_1 {K : Value → Prop} {b off : Nat} (k : K (.pointer (some ⟨b, off + 1, none⟩))) : opP Tryd.prog (Instr.fieldAt 94 (.pointer (some ⟨b, off, none⟩)) 1) K :=
  p_field (by kernel_rfl) k
theorem Tryd.fa_loanwordref06_reader_0 {K : Value → Prop} {b off : Nat} (k : K (.pointer (some ⟨b, off + 0, none⟩))) : opP Tryd.prog (Instr.fieldAt 94 (.pointer (some ⟨b, off, none⟩)) 0) K :=
  p_field (by kernel_rfl) k
theorem Tryd.len_S_Constraint {K : Value → Prop} {p : Option Addr} {len cap : Nat} (k : K (.int .i64 len)) : opP Tryd.prog (Builtin.len_ #[28] 3 #[.slice p len cap]) K :=
  p_lenS (e := 35) (n := 2) (by kernel_rfl) k
theorem Tryd.ix_S_Constraint {K : Value → Prop} {b off len cap : Nat} {kd : IntKind} {i : Int} (h0 : 0 ≤ i) (h1 : i < len) (k : K (.pointer (some ⟨b, off + i.toNat * 2, none⟩))) : opP Tryd.prog (Instr.indexAt 28 (.slice (some ⟨b, off, none⟩) len cap) (.int kd i)) K :=
  p_index (e := 35) (n := 2) (by kernel_rfl) h0 h1 k
theorem Tryd.ldB_Constraint {w : World} {K : Value → Prop} {b : Nat} {c : List Value} {T : TypeId} (B : Blk w b c T) (hc : c.length = 2) (k : K (.agg c.toArray)) : opQ Tryd.prog w (Instr.loadAt 35 (.pointer (some ⟨b, 0, none⟩))) K :=
  q_loadB (by rw [hc]; kernel_rfl) B k
theorem Tryd.ldN_Constraint {w : World} {K : Value → Prop} {b off : Nat} {vs : List Value} (hc : vs.length = 2) (h : ∀ j v, vs[j]? = some v → w.cell? ⟨b, off + j, none⟩ = some v) (k : K (.agg vs.toArray)) : opQ Tryd.prog w (Instr.loadAt 35 (.pointer (some ⟨b, off, none⟩))) K :=
  q_loadN (by rw [hc]; kernel_rfl) h k
theorem Tryd.stB_Constraint {w : World} {K : World → Prop} {cs : Array Value} {b : Nat} {c : List Value} {T : TypeId} (B : Blk w b c T) (hl : c.length = 2) (hc : cs.size = 2) (h1 : ∀ u ∈ cs.toList, u.oneCell' = true) (h : ∀ w', ExtBut (· = b) w w' → w'.heap.size = w.heap.size → Blk w' b cs.toList T → K w') : opU Tryd.prog w (Instr.storeAt 35 (.pointer (some ⟨b, 0, none⟩)) (.agg cs)) K :=
  w_storeB (v := .agg cs) (by rw [show (Value.agg cs).cells.size = 2 from hc]; kernel_rfl) B (by rw [hl]; exact hc) h1 h
theorem Tryd.st_Constraint {w : World} {K : World → Prop} {cs : Array Value} {b off : Nat} {c : List Value} {T : TypeId} (B : Blk w b c T) (hl : off + 2 ≤ c.length) (hc : cs.size = 2) (h1 : ∀ u ∈ cs.toList, u.oneCell' = true) (h : ∀ w', ExtBut (· = b) w w' → w'.heap.size = w.heap.size → Blk w' b (c.take off ++ cs.toList ++ c.drop (off + 2)) T → K w') : opU Tryd.prog w (Instr.storeAt 35 (.pointer (some ⟨b, off, none⟩)) (.agg cs)) K :=
  w_store (v := .agg cs) (by rw [show (Value.agg cs).cells.size = 2 from hc]; kernel_rfl) B (by rw [show (Value.agg cs).cells.size = 2 from hc]; exact hl) h1 (by rw [show (Value.agg cs).cells.size = 2 from hc]; exact h)
theorem Tryd.fa_Constraint_0 {K : Value → Prop} {b off : Nat} (k : K (.pointer (some ⟨b, off + 0, none⟩))) : opP Tryd.prog (Instr.fieldAt 35 (.pointer (some ⟨b, off, none⟩)) 0) K :=
  p_field (by kernel_rfl) k
theorem Tryd.fa_Constraint_1 {K : Value → Prop} {b off : Nat} (k : K (.pointer (some ⟨b, off + 1, none⟩))) : opP Tryd.prog (Instr.fieldAt 35 (.pointer (some ⟨b, off, none⟩)) 1) K :=
  p_field (by kernel_rfl) k
theorem Tryd.al_Constraint {w : World} {K : Value → World → Prop} (h : ∀ b w', b = w.heap.size → Ext w w' → w'.heap.size = w.heap.size + 1 → Blk w' b [(.int .i64 0), (.int .i64 0)] 35 → K (.pointer (some ⟨b, 0, none⟩)) w') : opW Tryd.prog w (Instr.alloc 35 true (.tuple #[])) K :=
  w_alloc (by kernel_rfl) h
theorem Tryd.al_24_uint8 {w : World} {K : Value → World → Prop} (h : ∀ b w', b = w.heap.size → Ext w w' → w'.heap.size = w.heap.size + 1 → Blk w' b [(.int .u8 0), (.int .u8 0), (.int .u8 0), (.int .u8 0), (.int .u8 0), (.int .u8 0), (.int .u8 0), (.int .u8 0), (.int .u8 0), (.int .u8 0), (.int .u8 0), (.int .u8 0), (.int .u8 0), (.int .u8 0), (.int .u8 0), (.int .u8 0), (.int .u8 0), (.int .u8 0), (.int .u8 0), (.int .u8 0), (.int .u8 0), (.int .u8 0), (.int .u8 0), (.int .u8 0)] 129 → K (.pointer (some ⟨b, 0, none⟩)) w') : opW Tryd.prog w (Instr.alloc 129 true (.tuple #[])) K :=
  w_alloc (by kernel_rfl) h
theorem Tryd.st_uint8 {w : World} {K : World → Prop} {v : Value} {b off : Nat} {c : List Value} {T : TypeId} (B : Blk w b c T) (hl : off < c.length) (h1 : v.oneCell' = true) (h : ∀ w', ExtBut (· = b) w w' → w'.heap.size = w.heap.size → Blk w' b (c.set off v) T → K w') : opU Tryd.prog w (Instr.storeAt 5 (.pointer (some ⟨b, off, none⟩)) v) K :=
  w_store1 (by kernel_rfl) B hl h1 h
theorem Tryd.ld_uint64 {w : World} {K : Value → Prop} {a : Addr} {v : Value} (h : w.cell? a = some v) (k : K v) : opQ Tryd.prog w (Instr.loadAt 123 (.pointer (some a))) K :=
  q_load (by kernel_rfl) h k
theorem Tryd.ldB_uint64 {w : World} {K : Value → Prop} {b i : Nat} {c : List Value} {v : Value} {T : TypeId} (B : Blk w b c T) (h : c[i]? = some v) (k : K v) : opQ Tryd.prog w (Instr.loadAt 123 (.pointer (some ⟨b, i, none⟩))) K :=
  q_load (by kernel_rfl) ((B.cell i).trans h) k
theorem Tryd.len_S_uint8 {K : Value → Prop} {p : Option Addr} {len cap : Nat} (k : K (.int .i64 len)) : opP Tryd.prog (Builtin.len_ #[131] 3 #[.slice p len cap]) K :=
  p_lenS (e := 5) (n := 1) (by kernel_rfl) k
theorem Tryd.ix_S_uint8 {K : Value → Prop} {b off len cap : Nat} {kd : IntKind} {i : Int} (h0 : 0 ≤ i) (h1 : i < len) (k : K (.pointer (some ⟨b, off + i.toNat, none⟩))) : opP Tryd.prog (Instr.indexAt 131 (.slice (some ⟨b, off, none⟩) len cap) (.int kd i)) K :=
  p_index (e := 5) (n := 1) (by kernel_rfl) h0 h1 (by rw [Nat.mul_one]; exact k)
theorem Tryd.al_65_uint8 {w : World} {K : Value → World → Prop} (h : ∀ b w', b = w.heap.size → Ext w w' → w'.heap.size = w.heap.size + 1 → Blk w' b [(.int .u8 0), (.int .u8 0), (.int .u8 0), (.int .u8 0), (.int .u8 0), (.int .u8 0), (.int .u8 0), (.int .u8 0), (.int .u8 0), (.int .u8 0), (.int .u8 0), (.int .u8 0), (.int .u8 0), (.int .u8 0), (.int .u8 0), (.int .u8 0), (.int .u8 0), (.int .u8 0), (.int .u8 0), (.int .u8 0), (.int .u8 0), (.int .u8 0), (.int .u8 0), (.int .u8 0), (.int .u8 0), (.int .u8 0), (.int .u8 0), (.int .u8 0), (.int .u8 0), (.int .u8 0), (.int .u8 0), (.int .u8 0), (.int .u8 0), (.int .u8 0), (.int .u8 0), (.int .u8 0), (.int .u8 0), (.int .u8 0), (.int .u8 0), (.int .u8 0), (.int .u8 0), (.int .u8 0), (.int .u8 0), (.int .u8 0), (.int .u8 0), (.int .u8 0), (.int .u8 0), (.int .u8 0), (.int .u8 0), (.int .u8 0), (.int .u8 0), (.int .u8 0), (.int .u8 0), (.int .u8 0), (.int .u8 0), (.int .u8 0), (.int .u8 0), (.int .u8 0), (.int .u8 0), (.int .u8 0), (.int .u8 0), (.int .u8 0), (.int .u8 0), (.int .u8 0), (.int .u8 0)] 137 → K (.pointer (some ⟨b, 0, none⟩)) w') : opW Tryd.prog w (Instr.alloc 137 true (.tuple #[])) K :=
  w_alloc (by kernel_rfl) h
theorem Tryd.ap_S_uint8 {w : World} {K : Value → World → Prop} {base : Nat} {v : Value} {n : Nat} {xs : List Value} {p : Option Addr} {m c : Nat} {news : List Value} (hown : w.ownsRow base 5 1 v n xs) (hs : Sl w p news) (hl : news.length = m * 1) (hp : p = none → c = 0) (h1 : ∀ u ∈ news, u.oneCell' = true) (hb : (n + m) * 1 ≤ 140737488355328) (hbase : base ≤ w.heap.size) (h : ∀ v' w', w'.ownsRow base 5 1 v' (n + m) (xs ++ news) → ExtBut (fun k => v.ownBlock = some k) w w' → (v'.ownBlock = v.ownBlock ∨ v'.ownBlock = some w.heap.size) → (v' = .slice none 0 0 ↔ v = .slice none 0 0 ∧ m = 0) → K v' w') : opW Tryd.prog w (Builtin.append_ #[131, 131] 131 #[v, .slice p m c]) K :=
  w_append (by kernel_rfl) hown hs hl hp h1 hb hbase h
theorem Tryd.ld_uint8 {w : World} {K : Value → Prop} {a : Addr} {v : Value} (h : w.cell? a = some v) (k : K v) : opQ Tryd.prog w (Instr.loadAt 5 (.pointer (some a))) K :=
  q_load (by kernel_rfl) h k
theorem Tryd.ldB_uint8 {w : World} {K : Value → Prop} {b i : Nat} {c : List Value} {v : Value} {T : TypeId} (B : Blk w b c T) (h : c[i]? = some v) (k : K v) : opQ Tryd.prog w (Instr.loadAt 5 (.pointer (some ⟨b, i, none⟩))) K :=
  q_load (by kernel_rfl) ((B.cell i).trans h) k

end Go.Proofs
end

section
namespace Go.Proofs
open Go.Sh
set_option maxRecDepth 100000
/- 89: (*loanword/types.reader).comes -/
def Tryd.A_types_reader_comes : Ann := .s (.r (.op 0 .p (.nil))) (.s (.r (.op 0 .p (.op 1 .p (.op 2 .p (.op 3 .q (.op 4 .p (.op 5 .p (.op 6 .p (.op 7 .q (.op 8 .p (.op 9 .p (.op 10 .l (.op 11 .p (.nil)))))))))))))) (.n))
def Tryd.F_types_reader_comes (t0 : Value) (t1 : Value) (w : World) (K : Value → World → Prop) : Prop :=
 oNil t0 fun t6 =>
 opP Tryd.prog (Instr.fieldAt 88 t6 0) fun t7 =>
 opQ Tryd.prog w.drew (Instr.loadAt 9 t7) fun t8 =>
 oNil t0 fun t10 =>
 opP Tryd.prog (Instr.fieldAt 88 t10 1) fun t11 =>
 opQ Tryd.prog w.drew (Instr.loadAt 3 t11) fun t12 =>
 opP Tryd.prog (Instr.sliceAt 9 t8 (some t12) none none) fun t13 =>
 oCall Tryd.prog Tryd.n_strings_HasPrefix #[t13, t1] w.drew fun t15 w1 =>
 K t15 w1
theorem Tryd.E_types_reader_comes (t0 t1 : Value) (w : World) (K : Value → World → Prop) : sw ⟨false, false⟩ Tryd.prog (fun _ _ => False) Tryd.A_types_reader_comes (bodyOf Tryd.f89) [t0, t1, undef, undef, undef, undef, undef, undef, undef, undef, undef, undef, undef, undef, undef, undef] w (topQ false Tryd.prog Tryd.f89 w K) = Tryd.F_types_reader_comes t0 t1 w K := by kernel_rfl
theorem Tryd.C_types_reader_comes : chk ⟨false, false⟩ Tryd.prog false Tryd.A_types_reader_comes (bodyOf Tryd.f89) = true := by kernel_rfl
theorem Tryd.ok_types_reader_comes {t0 t1 : Value} {w : World} {K : Value → World → Prop} (h : Tryd.F_types_reader_comes t0 t1 w K) : oCall Tryd.prog Tryd.n_types_reader_comes #[t0, t1] w K :=
  calls_of_sw (cf := ⟨false, false⟩) Tryd.mixed Tryd.func89 rfl Tryd.C_types_reader_comes ((Tryd.E_types_reader_comes t0 t1 w K).mpr h)

/- 90: (*loanword/types.reader).take -/
def Tryd.A_types_reader_take : Ann := .s (.r (.op 0 .p (.op 1 .p (.op 2 .p (.nil))))) (.b (.lp [7] (.s (.r (.op 0 .p (.nil))) (.s (.c (.n) (.n)) (.s (.b (.s (.r (.op 0 .p (.op 1 .p (.nil)))) (.j [] (.s (.r (.op 0 .p (.op 1 .p (.op 2 .p (.op 3 .q (.op 4 .p (.op 5 .p (.op 6 .p (.op 7 .q (.op 8 .p (.op 9 .p (.op 10 .p (.grp 20 false [(11, .p), (12, .p), (13, .p), (14, .q), (15, .p), (16, .p), (17, .p), (18, .q), (19, .p), (20, .p), (21, .p), (22, .p), (23, .p)] [33] (.op 24 .p (.nil))))))))))))))) (.c (.r (.op 0 .p (.op 1 .p (.op 2 .l (.nil))))) (.n))) (.r (.op 0 .p (.op 1 .p (.op 2 .p (.op 3 .q (.op 4 .p (.op 5 .p (.op 6 .p (.op 7 .l (.nil))))))))))))) (.r (.op 0 .p (.op 1 .p (.nil)))))))))
def Tryd.F_types_reader_take (t0 : Value) (t1 : Value) (w : World) (K : Value → World → Prop) (Kp : List PanicEntry → World → Prop) : Prop :=
 opP Tryd.prog (Builtin.len_ #[9] 3 #[t1]) fun t6 =>
 sLoop [(Value.int .i64 0)] w (fun s2 _d3 w4 K1 =>
 opP Tryd.prog (bsem .lss 3 false (s2.getD 0 undef) t6) fun t8 =>
 oCond t8 (sJoin (fun K5 =>
 oNil t0 fun t11 =>
 opP Tryd.prog (Instr.fieldAt 88 t11 1) fun t12 =>
 opQ Tryd.prog w4.drew (Instr.loadAt 3 t12) fun t13 =>
 oNil t0 fun t15 =>
 opP Tryd.prog (Instr.fieldAt 88 t15 0) fun t16 =>
 opQ Tryd.prog w4.drew (Instr.loadAt 9 t16) fun t17 =>
 opP Tryd.prog (Builtin.len_ #[9] 3 #[t17]) fun t18 =>
 opP Tryd.prog (bsem .eql 3 false t13 t18) fun t19 =>
 sJoin (fun K9 => gIf t19 false (oNil t0 fun t22 =>
 opP Tryd.prog (Instr.fieldAt 88 t22 0) fun t23 =>
 opQ Tryd.prog w4.drew (Instr.loadAt 9 t23) fun t24 =>
 oNil t0 fun t26 =>
 opP Tryd.prog (Instr.fieldAt 88 t26 1) fun t27 =>
 opQ Tryd.prog w4.drew (Instr.loadAt 3 t27) fun t28 =>
 opP Tryd.prog (Instr.index 9 t24 t28) fun t29 =>
 opP Tryd.prog (Instr.index 9 t1 (s2.getD 0 undef)) fun t32 =>
 opP Tryd.prog (bsem .neq 5 false t29 t32) fun t33 =>
 K9 [t33] w4.drew) (K9 [undef] w4.drew)) (fun s10 _d11 w12 =>
 oPick t19 (Value.bool true) (s10.getD 0 undef) fun t34 =>
 oCond t34 (opP Tryd.prog (Instr.build 90 #[]) fun t35 =>
 opP Tryd.prog (Instr.makeInterface 90 t35) fun t36 =>
 ∃ v w13, (Instr.panic t36).run Tryd.prog w12 = .halt (.panic v) w13 ∧ (false = true → NC w12 w13) ∧ Kp [{ v, recovered := false }] w13) (K5 [] w12))) (fun _s6 _d7 w8 =>
 oNil t0 fun t38 =>
 opP Tryd.prog (Instr.fieldAt 88 t38 1) fun t39 =>
 opQ Tryd.prog w8 (Instr.loadAt 3 t39) fun t40 =>
 opP Tryd.prog (bsem .add 3 true t40 (Value.int .i64 1)) fun t41 =>
 oNil t0 fun t42 =>
 opP Tryd.prog (Instr.fieldAt 88 t42 1) fun t43 =>
 opU Tryd.prog w8 (Instr.storeAt 3 t43 t41) fun w14 =>
 opP Tryd.prog (bsem .add 3 true (s2.getD 0 undef) (Value.int .i64 1)) fun t44 =>
 K1 [t44] w14)) (K (.tuple #[]) w4))
theorem Tryd.E_types_reader_take (t0 t1 : Value) (w : World) (K : Value → World → Prop) (Kp : List PanicEntry → World → Prop) : sw ⟨false, true⟩ Tryd.prog Kp Tryd.A_types_reader_take (bodyOf Tryd.f90) [t0, t1, undef, undef, undef, undef, undef, undef, undef, undef, undef, undef, undef, undef, undef, undef, undef, undef, undef, undef, undef, undef, undef, undef, undef, undef, undef, undef, undef, undef, undef, undef, undef, undef, undef, undef, undef, undef, undef, undef, undef, undef, undef, undef, undef] w (topQ false Tryd.prog Tryd.f90 w K) = Tryd.F_types_reader_take t0 t1 w K Kp := by kernel_rfl
theorem Tryd.C_types_reader_take : chk ⟨false, true⟩ Tryd.prog false Tryd.A_types_reader_take (bodyOf Tryd.f90) = true := by kernel_rfl
theorem Tryd.ok_types_reader_take {t0 t1 : Value} {w : World} {K : Value → World → Prop} {Kp : List PanicEntry → World → Prop} (h : Tryd.F_types_reader_take t0 t1 w K Kp) : oCallP Tryd.prog Tryd.n_types_reader_take #[t0, t1] w K Kp :=
  callsP_of_sw (cf := ⟨false, true⟩) (Kp0 := Kp) (fun _ _ h => h) Tryd.mixed Tryd.func90 rfl Tryd.C_types_reader_take ((Tryd.E_types_reader_take t0 t1 w K Kp).mpr h)

/- 91: (*loanword/types.reader).digits -/
def Tryd.A_types_reader_digits : Ann := .s (.r (.op 0 .p (.nil))) (.s (.r (.op 0 .p (.op 1 .p (.op 2 .p (.op 3 .q (.op 4 .p (.op 5 .p (.nil)))))))) (.j [6] (.b (.lp [6] (.s (.s (.r (.op 0 .p (.op 1 .p (.op 2 .p (.op 3 .q (.op 4 .p (.op 5 .p (.op 6 .p (.op 7 .q (.op 8 .p (.op 9 .p (.op 10 .p (.grp 22 true [(11, .p), (12, .p), (13, .p), (14, .q), (15, .p), (16, .p), (17, .p), (18, .q), (19, .p), (20, .p)] [32] (.op 21 .p (.op 22 .p (.grp 34 true [(23, .p), (24, .p), (25, .p), (26, .q), (27, .p), (28, .p), (29, .p), (30, .q), (31, .p), (32, .p)] [44] (.op 33 .p (.nil)))))))))))))))))) (.c (.n) (.n))) (.b (.s (.r (.op 0 .p (.op 1 .p (.op 2 .p (.op 3 .q (.op 4 .p (.op 5 .p (.op 6 .p (.op 7 .q (.op 8 .p (.op 9 .p (.op 10 .p (.op 11 .p (.nil)))))))))))))) (.s (.s (.r (.op 0 .p (.op 1 .p (.op 2 .p (.op 3 .q (.op 4 .p (.op 5 .p (.op 6 .p (.grp 63 true [(7, .p), (8, .p), (9, .p), (10, .q), (11, .p), (12, .p), (13, .p)] [70] (.op 14 .p (.op 15 .p (.grp 72 false [(16, .p), (17, .p), (18, .p), (19, .p), (20, .p), (21, .p)] [78] (.op 22 .p (.nil)))))))))))))) (.c (.n) (.n))) (.s (.r (.op 0 .p (.op 1 .p (.op 2 .p (.op 3 .p (.op 4 .p (.nil))))))) (.r (.op 0 .p (.op 1 .p (.op 2 .p (.op 3 .q (.op 4 .p (.op 5 .p (.op 6 .p (.op 7 .l (.nil))))))))))))))))) (.j [] (.s (.r (.op 0 .p (.op 1 .p (.op 2 .p (.op 3 .q (.op 4 .p (.op 5 .p (.nil)))))))) (.c (.r (.op 0 .p (.op 1 .p (.op 2 .l (.nil))))) (.n))) (.s (.r (.op 0 .p (.op 1 .p (.nil)))) (.n)))))
def Tryd.F_types_reader_digits (t0 : Value) (t1 : Value) (w : World) (K : Value → World → Prop) (Kp : List PanicEntry → World → Prop) : Prop :=
 oNil t0 fun t9 =>
 opP Tryd.prog (Instr.fieldAt 88 t9 1) fun t10 =>
 opQ Tryd.prog w (Instr.loadAt 3 t10) fun t11 =>
 sJoin (fun K1 =>
 sLoop [(Value.int .i64 0)] w (fun s6 _d7 w8 K5 =>
 oNil t0 fun t13 =>
 opP Tryd.prog (Instr.fieldAt 88 t13 1) fun t14 =>
 opQ Tryd.prog w8.drew (Instr.loadAt 3 t14) fun t15 =>
 oNil t0 fun t17 =>
 opP Tryd.prog (Instr.fieldAt 88 t17 0) fun t18 =>
 opQ Tryd.prog w8.drew (Instr.loadAt 9 t18) fun t19 =>
 opP Tryd.prog (Builtin.len_ #[9] 3 #[t19]) fun t20 =>
 opP Tryd.prog (bsem .lss 3 false t15 t20) fun t21 =>
 sJoin (fun K9 => gIf t21 true (oNil t0 fun t24 =>
 opP Tryd.prog (Instr.fieldAt 88 t24 0) fun t25 =>
 opQ Tryd.prog w8.drew (Instr.loadAt 9 t25) fun t26 =>
 oNil t0 fun t28 =>
 opP Tryd.prog (Instr.fieldAt 88 t28 1) fun t29 =>
 opQ Tryd.prog w8.drew (Instr.loadAt 3 t29) fun t30 =>
 opP Tryd.prog (Instr.index 9 t26 t30) fun t31 =>
 opP Tryd.prog (bsem .geq 5 true t31 (Value.int .u8 48)) fun t32 =>
 K9 [t32] w8.drew) (K9 [undef] w8.drew)) (fun s10 _d11 w12 =>
 oPick t21 (s10.getD 0 undef) (Value.bool false) fun t33 =>
 sJoin (fun K13 => gIf t33 true (oNil t0 fun t36 =>
 opP Tryd.prog (Instr.fieldAt 88 t36 0) fun t37 =>
 opQ Tryd.prog w12 (Instr.loadAt 9 t37) fun t38 =>
 oNil t0 fun t40 =>
 opP Tryd.prog (Instr.fieldAt 88 t40 1) fun t41 =>
 opQ Tryd.prog w12 (Instr.loadAt 3 t41) fun t42 =>
 opP Tryd.prog (Instr.index 9 t38 t42) fun t43 =>
 opP Tryd.prog (bsem .leq 5 true t43 (Value.int .u8 57)) fun t44 =>
 K13 [t44] w12) (K13 [undef] w12)) (fun s14 _d15 w16 =>
 oPick t33 (s14.getD 0 undef) (Value.bool false) fun t45 =>
 oCond t45 (oNil t0 fun t47 =>
 opP Tryd.prog (Instr.fieldAt 88 t47 0) fun t48 =>
 opQ Tryd.prog w16.drew (Instr.loadAt 9 t48) fun t49 =>
 oNil t0 fun t51 =>
 opP Tryd.prog (Instr.fieldAt 88 t51 1) fun t52 =>
 opQ Tryd.prog w16.drew (Instr.loadAt 3 t52) fun t53 =>
 opP Tryd.prog (Instr.index 9 t49 t53) fun t54 =>
 opP Tryd.prog (bsem .sub 5 true t54 (Value.int .u8 48)) fun t55 =>
 opP Tryd.prog (convert 5 3 t55) fun t56 =>
 oNil t0 fun t58 =>
 opP Tryd.prog (Instr.fieldAt 88 t58 1) fun t59 =>
 opQ Tryd.prog w16.drew (Instr.loadAt 3 t59) fun t60 =>
 opP Tryd.prog (bsem .gtr 3 false t60 t11) fun t62 =>
 sJoin (fun K17 => gIf t62 true (oNil t0 fun t65 =>
 opP Tryd.prog (Instr.fieldAt 88 t65 0) fun t66 =>
 opQ Tryd.prog w16.drew (Instr.loadAt 9 t66) fun t67 =>
 opP Tryd.prog (Instr.index 9 t67 t11) fun t69 =>
 opP Tryd.prog (bsem .eql 5 true t69 (Value.int .u8 48)) fun t70 =>
 K17 [t70] w16.drew) (K17 [undef] w16.drew)) (fun s18 _d19 w20 =>
 oPick t62 (s18.getD 0 undef) (Value.bool false) fun t71 =>
 sJoin (fun K21 => gIf t71 false (opP Tryd.prog (bsem .sub 3 false t1 t56) fun t76 =>
 opP Tryd.prog (bsem .quo 3 true t76 (Value.int .i64 10)) fun t77 =>
 opP Tryd.prog (bsem .gtr 3 false (s6.getD 0 undef) t77) fun t78 =>
 K21 [t78] w20) (K21 [undef] w20)) (fun s22 _d23 w24 =>
 oPick t71 (Value.bool true) (s22.getD 0 undef) fun t79 =>
 oCond t79 (K1 [(s6.getD 0 undef)] w24) (opP Tryd.prog (bsem .mul 3 true (Value.int .i64 10) (s6.getD 0 undef)) fun t81 =>
 opP Tryd.prog (bsem .add 3 false t81 t56) fun t83 =>
 oNil t0 fun t85 =>
 opP Tryd.prog (Instr.fieldAt 88 t85 1) fun t86 =>
 opQ Tryd.prog w24 (Instr.loadAt 3 t86) fun t87 =>
 opP Tryd.prog (bsem .add 3 true t87 (Value.int .i64 1)) fun t88 =>
 oNil t0 fun t89 =>
 opP Tryd.prog (Instr.fieldAt 88 t89 1) fun t90 =>
 opU Tryd.prog w24 (Instr.storeAt 3 t90 t88) fun w25 =>
 K5 [t83] w25)))) (K1 [(s6.getD 0 undef)] w16))))) (fun s2 _d3 w4 =>
 sJoin (fun K26 =>
 oNil t0 fun t92 =>
 opP Tryd.prog (Instr.fieldAt 88 t92 1) fun t93 =>
 opQ Tryd.prog w4 (Instr.loadAt 3 t93) fun t94 =>
 opP Tryd.prog (bsem .eql 3 false t94 t11) fun t96 =>
 oCond t96 (opP Tryd.prog (Instr.build 90 #[]) fun t97 =>
 opP Tryd.prog (Instr.makeInterface 90 t97) fun t98 =>
 ∃ v w30, (Instr.panic t98).run Tryd.prog w4 = .halt (.panic v) w30 ∧ (false = true → NC w4 w30) ∧ Kp [{ v, recovered := false }] w30) (K26 [] w4)) (fun _s27 _d28 w29 =>
 K (s2.getD 0 undef) w29))
theorem Tryd.E_types_reader_digits (t0 t1 : Value) (w : World) (K : Value → World → Prop) (Kp : List PanicEntry → World → Prop) : sw ⟨false, true⟩ Tryd.prog Kp Tryd.A_types_reader_digits (bodyOf Tryd.f91) [t0, t1, undef, undef, undef, undef, undef, undef, undef, undef, undef, undef, undef, undef, undef, undef, undef, undef, undef, undef, undef, undef, undef, undef, undef, undef, undef, undef, undef, undef, undef, undef, undef, undef, undef, undef, undef, undef, undef, undef, undef, undef, undef, undef, undef, undef, undef, undef, undef, undef, undef, undef, undef, undef, undef, undef, undef, undef, undef, undef, undef, undef, undef, undef, undef, undef, undef, undef, undef, undef, undef, undef, undef, undef, undef, undef, undef, undef, undef, undef, undef, undef, undef, undef, undef, undef, undef, undef, undef, undef, undef, undef, undef, undef, undef, undef, undef, undef, undef, undef] w (topQ false Tryd.prog Tryd.f91 w K) = Tryd.F_types_reader_digits t0 t1 w K Kp := by kernel_rfl
theorem Tryd.C_types_reader_digits : chk ⟨false, true⟩ Tryd.prog false Tryd.A_types_reader_digits (bodyOf Tryd.f91) = true := by kernel_rfl
theorem Tryd.ok_types_reader_digits {t0 t1 : Value} {w : World} {K : Value → World → Prop} {Kp : List PanicEntry → World → Prop} (h : Tryd.F_types_reader_digits t0 t1 w K Kp) : oCallP Tryd.prog Tryd.n_types_reader_digits #[t0, t1] w K Kp :=
  callsP_of_sw (cf := ⟨false, true⟩) (Kp0 := Kp) (fun _ _ h => h) Tryd.mixed Tryd.func91 rfl Tryd.C_types_reader_digits ((Tryd.E_types_reader_digits t0 t1 w K Kp).mpr h)

/- 58: (*loanword/types.reader).kind -/
def Tryd.A_types_reader_kind : Ann := .s (.r (.op 0 .l (.nil))) (.s (.s (.r (.op 0 .p (.op 1 .p (.op 2 .p (.nil))))) (.b (.s (.r (.op 0 .p (.op 1 .l (.op 2 .p (.nil))))) (.c (.s (.r (.op 0 .p (.op 1 .l (.nil)))) (.s (.r (.op 0 .p (.op 1 .l (.nil)))) (.n))) (.s (.r (.op 0 .p (.op 1 .l (.op 2 .p (.nil))))) (.c (.s (.r (.op 0 .p (.op 1 .l (.nil)))) (.s (.r (.op 0 .p (.op 1 .l (.nil)))) (.n))) (.s (.r (.op 0 .p (.op 1 .l (.op 2 .p (.nil))))) (.c (.s (.r (.op 0 .p (.op 1 .l (.nil)))) (.s (.r (.op 0 .p (.op 1 .l (.op 2 .p (.op 3 .l (.nil)))))) (.n))) (.s (.r (.op 0 .p (.op 1 .l (.op 2 .p (.grp 32 true [(3, .p)] [33] (.op 4 .p (.op 5 .p (.nil)))))))) (.c (.s (.r (.op 0 .p (.op 1 .l (.nil)))) (.s (.r (.op 0 .p (.op 1 .p (.op 2 .p (.op 3 .l (.op 4 .l (.op 5 .l (.nil)))))))) (.s (.r (.op 0 .p (.op 1 .l (.nil)))) (.s (.r (.op 0 .q (.op 1 .l (.op 2 .p (.op 3 .l (.nil)))))) (.n))))) (.s (.r (.op 0 .p (.op 1 .l (.op 2 .p (.grp 49 true [(3, .p)] [50] (.op 4 .p (.op 5 .p (.nil)))))))) (.c (.s (.r (.op 0 .p (.op 1 .p (.op 2 .l (.op 3 .l (.nil)))))) (.n)) (.n))))))))))))) (.r (.op 0 .p (.op 1 .p (.op 2 .l (.nil))))))
def Tryd.F_types_reader_kind (t0 : Value) (t1 : Value) (w : World) (K : Value → World → Prop) (Kp : List PanicEntry → World → Prop) : Prop :=
 opW Tryd.prog w (Instr.alloc 25 true (.tuple #[])) fun t4 w1 =>
 opP Tryd.prog (bsem .gtr 3 true t1 (Value.int .i64 1)) fun t8 =>
 oCallP Tryd.prog Tryd.n_types_reader_comes #[t0, (Value.string { data := #[105] })] w1 (fun t11 w2 =>
 oCond t11 (oCallP Tryd.prog Tryd.n_types_reader_take #[t0, (Value.string { data := #[105, 54, 52] })] w2 (fun _t13 w3 =>
 opP Tryd.prog (Instr.build 25 #[(0, (Value.int .u8 1))]) fun t14 =>
 opU Tryd.prog w3 (Instr.storeAt 25 t4 t14) fun w4 =>
 opQ Tryd.prog w4 (cellSem 25 t4) fun r5 =>
 K r5 w4) (fun c w3 => (false = true → NC w2 w3) ∧ Kp c w3)) (oCallP Tryd.prog Tryd.n_types_reader_comes #[t0, (Value.string { data := #[98] })] w2 (fun t17 w6 =>
 oCond t17 (oCallP Tryd.prog Tryd.n_types_reader_take #[t0, (Value.string { data := #[98, 111, 111, 108] })] w6 (fun _t19 w7 =>
 opP Tryd.prog (Instr.build 25 #[(0, (Value.int .u8 2))]) fun t20 =>
 opU Tryd.prog w7 (Instr.storeAt 25 t4 t20) fun w8 =>
 opQ Tryd.prog w8 (cellSem 25 t4) fun r9 =>
 K r9 w8) (fun c w7 => (false = true → NC w6 w7) ∧ Kp c w7)) (oCallP Tryd.prog Tryd.n_types_reader_comes #[t0, (Value.string { data := #[35] })] w6 (fun t23 w10 =>
 oCond t23 (oCallP Tryd.prog Tryd.n_types_reader_take #[t0, (Value.string { data := #[35] })] w10 (fun _t25 w11 =>
 oCallP Tryd.prog Tryd.n_types_reader_digits #[t0, (Value.int .i64 31)] w11 (fun t27 w12 =>
 opP Tryd.prog (Instr.build 25 #[(0, (Value.int .u8 5)), (3, t27)]) fun t28 =>
 opU Tryd.prog w12 (Instr.storeAt 25 t4 t28) fun w13 =>
 opQ Tryd.prog w13 (cellSem 25 t4) fun r14 =>
 K r14 w13) (fun c w12 => (false = true → NC w11 w12) ∧ Kp c w12)) (fun c w11 => (false = true → NC w10 w11) ∧ Kp c w11)) (oCallP Tryd.prog Tryd.n_types_reader_comes #[t0, (Value.string { data := #[66] })] w10 (fun t31 w15 =>
 sJoin (fun K16 => gIf t31 true (K16 [t8] w15) (K16 [undef] w15)) (fun s17 _d18 w19 =>
 oPick t31 (s17.getD 0 undef) (Value.bool false) fun t34 =>
 oCond t34 (oCallP Tryd.prog Tryd.n_types_reader_take #[t0, (Value.string { data := #[66, 111, 120, 60] })] w19 (fun _t36 w20 =>
 opP Tryd.prog (bsem .sub 3 true t1 (Value.int .i64 1)) fun t39 =>
 oCallP Tryd.prog Tryd.n_types_reader_kind #[t0, t39] w20 (fun t40 w21 =>
 opW Tryd.prog w21 (Instr.alloc 25 true (.tuple #[])) fun t6 w22 =>
 opU Tryd.prog w22 (Instr.storeAt 25 t6 t40) fun w23 =>
 oCallP Tryd.prog Tryd.n_types_reader_take #[t0, (Value.string { data := #[62] })] w23 (fun _t42 w24 =>
 opQ Tryd.prog w24 (Instr.loadAt 25 t6) fun t43 =>
 opW Tryd.prog w24 (Instr.buildSlice 23 1 #[(0, t43)]) fun t44 w25 =>
 opP Tryd.prog (Instr.build 25 #[(0, (Value.int .u8 3)), (4, t44)]) fun t45 =>
 opU Tryd.prog w25 (Instr.storeAt 25 t4 t45) fun w26 =>
 opQ Tryd.prog w26 (cellSem 25 t4) fun r27 =>
 K r27 w26) (fun c w24 => (false = true → NC w23 w24) ∧ Kp c w24)) (fun c w21 => (false = true → NC w20 w21) ∧ Kp c w21)) (fun c w20 => (false = true → NC w19 w20) ∧ Kp c w20)) (oCallP Tryd.prog Tryd.n_types_reader_comes #[t0, (Value.string { data := #[38] })] w19 (fun t48 w28 =>
 sJoin (fun K29 => gIf t48 true (K29 [t8] w28) (K29 [undef] w28)) (fun s30 _d31 w32 =>
 oPick t48 (s30.getD 0 undef) (Value.bool false) fun t51 =>
 oCond t51 (oCallP Tryd.prog Tryd.n_types_reader_ref #[t0, t1] w32 (fun t54 w33 =>
 opU Tryd.prog w33 (Instr.storeAt 25 t4 t54) fun w34 =>
 opQ Tryd.prog w34 (cellSem 25 t4) fun r35 =>
 K r35 w34) (fun c w33 => (false = true → NC w32 w33) ∧ Kp c w33)) (opP Tryd.prog (Instr.build 90 #[]) fun t55 =>
 opP Tryd.prog (Instr.makeInterface 90 t55) fun t56 =>
 ∃ v w36, (Instr.panic t56).run Tryd.prog w32 = .halt (.panic v) w36 ∧ (false = true → NC w32 w36) ∧ Kp [{ v, recovered := false }] w36))) (fun c w28 => (false = true → NC w19 w28) ∧ Kp c w28)))) (fun c w15 => (false = true → NC w10 w15) ∧ Kp c w15))) (fun c w10 => (false = true → NC w6 w10) ∧ Kp c w10))) (fun c w6 => (false = true → NC w2 w6) ∧ Kp c w6))) (fun c w2 => (false = true → NC w1 w2) ∧ Kp c w2)
theorem Tryd.E_types_reader_kind (t0 t1 : Value) (w : World) (K : Value → World → Prop) (Kp : List PanicEntry → World → Prop) : sw ⟨false, true⟩ Tryd.prog Kp Tryd.A_types_reader_kind (bodyOf Tryd.f58) [t0, t1, undef, undef, undef, undef, undef, undef, undef, undef, undef, undef, undef, undef, undef, undef, undef, undef, undef, undef, undef, undef, undef, undef, undef, undef, undef, undef, undef, undef, undef, undef, undef, undef, undef, undef, undef, undef, undef, undef, undef, undef, undef, undef, undef, undef, undef, undef, undef, undef, undef, undef, undef, undef, undef, undef, undef] w (topQ false Tryd.prog Tryd.f58 w K) = Tryd.F_types_reader_kind t0 t1 w K Kp := by kernel_rfl
theorem Tryd.C_types_reader_kind : chk ⟨false, true⟩ Tryd.prog false Tryd.A_types_reader_kind (bodyOf Tryd.f58) = true := by kernel_rfl
theorem Tryd.ok_types_reader_kind {t0 t1 : Value} {w : World} {K : Value → World → Prop} {Kp : List PanicEntry → World → Prop} (h : Tryd.F_types_reader_kind t0 t1 w K Kp) : oCallP Tryd.prog Tryd.n_types_reader_kind #[t0, t1] w K Kp :=
  callsP_of_sw (cf := ⟨false, true⟩) (Kp0 := Kp) (fun _ _ h => h) Tryd.mixed Tryd.func58 rfl Tryd.C_types_reader_kind ((Tryd.E_types_reader_kind t0 t1 w K Kp).mpr h)

/- 92: (*loanword/types.reader).ref -/
def Tryd.A_types_reader_ref : Ann := .s (.r (.op 0 .l (.nil))) (.s (.r (.op 0 .p (.op 1 .l (.nil)))) (.s (.r (.op 0 .p (.op 1 .l (.op 2 .l (.nil))))) (.j [] (.s (.r (.op 0 .p (.op 1 .l (.nil)))) (.c (.s (.r (.op 0 .p (.op 1 .l (.nil)))) (.s (.r (.op 0 .p (.op 1 .l (.op 2 .p (.op 3 .l (.nil)))))) (.r (.op 0 .p (.op 1 .l (.nil)))))) (.n))) (.j [] (.s (.r (.op 0 .p (.op 1 .l (.nil)))) (.c (.s (.r (.op 0 .p (.op 1 .l (.nil)))) (.r (.op 0 .p (.op 1 .l (.nil))))) (.n))) (.j [] (.s (.r (.op 0 .p (.op 1 .q (.op 2 .p (.op 3 .p (.grp 27 true [(4, .p), (5, .q), (6, .p)] [30] (.op 7 .p (.op 8 .p (.nil))))))))) (.s (.r (.op 0 .p (.op 1 .p (.grp 33 true [(2, .p), (3, .l)] [35] (.op 4 .p (.nil)))))) (.c (.r (.op 0 .p (.op 1 .p (.op 2 .l (.nil))))) (.s (.r (.op 0 .p (.op 1 .p (.grp 40 true [(2, .p), (3, .l)] [42] (.op 4 .p (.op 5 .p (.grp 44 true [(6, .p), (7, .p)] [46] (.op 8 .p (.nil))))))))) (.c (.s (.r (.op 0 .p (.op 1 .l (.nil)))) (.s (.r (.op 0 .p (.op 1 .l (.op 2 .p (.nil))))) (.c (.r (.op 0 .p (.op 1 .p (.op 2 .l (.nil))))) (.n)))) (.n)))))) (.s (.r (.op 0 .p (.op 1 .p (.op 2 .p (.op 3 .l (.op 4 .l (.op 5 .p (.op 6 .l (.nil))))))))) (.s (.r (.op 0 .q (.op 1 .l (.nil)))) (.n))))))))
def Tryd.F_types_reader_ref (t0 : Value) (t1 : Value) (w : World) (K : Value → World → Prop) (Kp : List PanicEntry → World → Prop) : Prop :=
 opW Tryd.prog w (Instr.alloc 25 true (.tuple #[])) fun t4 w1 =>
 oCallP Tryd.prog Tryd.n_types_reader_take #[t0, (Value.string { data := #[38] })] w1 (fun _t8 w2 =>
 opP Tryd.prog (Instr.build 25 #[(0, (Value.int .u8 4)), (2, (Value.int .i64 (-1)))]) fun t9 =>
 opW Tryd.prog w2 (Instr.alloc 25 true (.tuple #[])) fun t5 w3 =>
 opU Tryd.prog w3 (Instr.storeAt 25 t5 t9) fun w4 =>
 sJoin (fun K5 =>
 oCallP Tryd.prog Tryd.n_types_reader_comes #[t0, (Value.string { data := #[39] })] w4 (fun t11 w9 =>
 oCond t11 (oCallP Tryd.prog Tryd.n_types_reader_take #[t0, (Value.string { data := #[39] })] w9 (fun _t13 w10 =>
 oCallP Tryd.prog Tryd.n_types_reader_digits #[t0, (Value.int .i64 9223372036854775807)] w10 (fun t15 w11 =>
 opP Tryd.prog (Instr.fieldAt 25 t5 2) fun t16 =>
 opU Tryd.prog w11 (Instr.storeAt 3 t16 t15) fun w12 =>
 oCallP Tryd.prog Tryd.n_types_reader_take #[t0, (Value.string { data := #[32] })] w12 (fun _t18 w13 =>
 K5 [] w13) (fun c w13 => (false = true → NC w12 w13) ∧ Kp c w13)) (fun c w11 => (false = true → NC w10 w11) ∧ Kp c w11)) (fun c w10 => (false = true → NC w9 w10) ∧ Kp c w10)) (K5 [] w9)) (fun c w9 => (false = true → NC w4 w9) ∧ Kp c w9)) (fun _s6 _d7 w8 =>
 sJoin (fun K14 =>
 oCallP Tryd.prog Tryd.n_types_reader_comes #[t0, (Value.string { data := #[109] })] w8 (fun t20 w18 =>
 oCond t20 (oCallP Tryd.prog Tryd.n_types_reader_take #[t0, (Value.string { data := #[109, 117, 116, 32] })] w18 (fun _t22 w19 =>
 opP Tryd.prog (Instr.fieldAt 25 t5 1) fun t23 =>
 opU Tryd.prog w19 (Instr.storeAt 4 t23 (Value.bool true)) fun w20 =>
 K14 [] w20) (fun c w19 => (false = true → NC w18 w19) ∧ Kp c w19)) (K14 [] w18)) (fun c w18 => (false = true → NC w8 w18) ∧ Kp c w18)) (fun _s15 _d16 w17 =>
 sJoin (fun K21 =>
 opP Tryd.prog (Instr.fieldAt 25 t5 2) fun t24 =>
 opQ Tryd.prog w17 (Instr.loadAt 3 t24) fun t25 =>
 opP Tryd.prog (bsem .lss 3 true t25 (Value.int .i64 0)) fun t26 =>
 sJoin (fun K25 => gIf t26 true (opP Tryd.prog (Instr.fieldAt 25 t5 1) fun t28 =>
 opQ Tryd.prog w17 (Instr.loadAt 4 t28) fun t29 =>
 opP Tryd.prog (Op.unary .not t29) fun t30 =>
 K25 [t30] w17) (K25 [undef] w17)) (fun s26 _d27 w28 =>
 oPick t26 (s26.getD 0 undef) (Value.bool false) fun t31 =>
 sJoin (fun K29 => gIf t31 true (oCallP Tryd.prog Tryd.n_types_reader_comes #[t0, (Value.string { data := #[38] })] w28 (fun t35 w33 =>
 K29 [t35] w33) (fun c w33 => (false = true → NC w28 w33) ∧ Kp c w33)) (K29 [undef] w28)) (fun s30 _d31 w32 =>
 oPick t31 (s30.getD 0 undef) (Value.bool false) fun t36 =>
 oCond t36 (opP Tryd.prog (Instr.build 90 #[]) fun t37 =>
 opP Tryd.prog (Instr.makeInterface 90 t37) fun t38 =>
 ∃ v w34, (Instr.panic t38).run Tryd.prog w32 = .halt (.panic v) w34 ∧ (false = true → NC w32 w34) ∧ Kp [{ v, recovered := false }] w34) (sJoin (fun K35 => gIf t31 true (oCallP Tryd.prog Tryd.n_types_reader_comes #[t0, (Value.string { data := #[32] })] w32 (fun t42 w39 =>
 K35 [t42] w39) (fun c w39 => (false = true → NC w32 w39) ∧ Kp c w39)) (K35 [undef] w32)) (fun s36 _d37 w38 =>
 oPick t31 (s36.getD 0 undef) (Value.bool false) fun t43 =>
 sJoin (fun K40 => gIf t43 true (opP Tryd.prog (bsem .gtr 3 true t1 (Value.int .i64 2)) fun t46 =>
 K40 [t46] w38) (K40 [undef] w38)) (fun s41 _d42 w43 =>
 oPick t43 (s41.getD 0 undef) (Value.bool false) fun t47 =>
 oCond t47 (oCallP Tryd.prog Tryd.n_types_reader_take #[t0, (Value.string { data := #[32] })] w43 (fun _t49 w44 =>
 oCallP Tryd.prog Tryd.n_types_reader_comes #[t0, (Value.string { data := #[38] })] w44 (fun t51 w45 =>
 opP Tryd.prog (Op.unary .not t51) fun t52 =>
 oCond t52 (opP Tryd.prog (Instr.build 90 #[]) fun t53 =>
 opP Tryd.prog (Instr.makeInterface 90 t53) fun t54 =>
 ∃ v w46, (Instr.panic t54).run Tryd.prog w45 = .halt (.panic v) w46 ∧ (false = true → NC w45 w46) ∧ Kp [{ v, recovered := false }] w46) (K21 [] w45)) (fun c w45 => (false = true → NC w44 w45) ∧ Kp c w45)) (fun c w44 => (false = true → NC w43 w44) ∧ Kp c w44)) (K21 [] w43))))))) (fun _s22 _d23 w24 =>
 opP Tryd.prog (bsem .sub 3 true t1 (Value.int .i64 1)) fun t57 =>
 oCallP Tryd.prog Tryd.n_types_reader_kind #[t0, t57] w24 (fun t58 w47 =>
 opW Tryd.prog w47 (Instr.buildSlice 23 1 #[(0, t58)]) fun t59 w48 =>
 opP Tryd.prog (Instr.fieldAt 25 t5 4) fun t60 =>
 opU Tryd.prog w48 (Instr.storeAt 23 t60 t59) fun w49 =>
 opQ Tryd.prog w49 (Instr.loadAt 25 t5) fun t61 =>
 opU Tryd.prog w49 (Instr.storeAt 25 t4 t61) fun w50 =>
 opQ Tryd.prog w50 (cellSem 25 t4) fun r51 =>
 K r51 w50) (fun c w47 => (false = true → NC w24 w47) ∧ Kp c w47))))) (fun c w2 => (false = true → NC w1 w2) ∧ Kp c w2)
theorem Tryd.E_types_reader_ref (t0 t1 : Value) (w : World) (K : Value → World → Prop) (Kp : List PanicEntry → World → Prop) : sw ⟨false, true⟩ Tryd.prog Kp Tryd.A_types_reader_ref (bodyOf Tryd.f92) [t0, t1, undef, undef, undef, undef, undef, undef, undef, undef, undef, undef, undef, undef, undef, undef, undef, undef, undef, undef, undef, undef, undef, undef, undef, undef, undef, undef, undef, undef, undef, undef, undef, undef, undef, undef, undef, undef, undef, undef, undef, undef, undef, undef, undef, undef, undef, undef, undef, undef, undef, undef, undef, undef, undef, undef, undef, undef, undef, undef, undef, undef] w (topQ false Tryd.prog Tryd.f92 w K) = Tryd.F_types_reader_ref t0 t1 w K Kp := by kernel_rfl
theorem Tryd.C_types_reader_ref : chk ⟨false, true⟩ Tryd.prog false Tryd.A_types_reader_ref (bodyOf Tryd.f92) = true := by kernel_rfl
theorem Tryd.ok_types_reader_ref {t0 t1 : Value} {w : World} {K : Value → World → Prop} {Kp : List PanicEntry → World → Prop} (h : Tryd.F_types_reader_ref t0 t1 w K Kp) : oCallP Tryd.prog Tryd.n_types_reader_ref #[t0, t1] w K Kp :=
  callsP_of_sw (cf := ⟨false, true⟩) (Kp0 := Kp) (fun _ _ h => h) Tryd.mixed Tryd.func92 rfl Tryd.C_types_reader_ref ((Tryd.E_types_reader_ref t0 t1 w K Kp).mpr h)

/- 16: loanword/types.Read -/
def Tryd.A_types_Read : DAnn := .s (.r (.op 0 .l (.op 1 .l (.op 2 .l (.nil))))) (.s (.r (.op 0 .p (.op 1 .p (.op 2 .l (.op 3 .l (.op 4 .l (.nil))))))) (.d (.s (.r (.op 0 .q (.op 1 .l (.op 2 .l (.nil))))) (.j [] (.s (.r (.op 0 .q (.op 1 .p (.op 2 .p (.op 3 .q (.op 4 .p (.op 5 .p (.op 6 .p (.nil))))))))) (.c (.r (.op 0 .p (.op 1 .p (.op 2 .l (.nil))))) (.n))) (.s (.r (.op 0 .q (.op 1 .l (.op 2 .l (.op 3 .l (.nil)))))) (.n))))))
def Tryd.B_types_Read (t0 : Value) (t2 : Value) (t3 : Value) (t4 : Value) (t5 : Value) (w : World) (Kd : FrameMode → World → Prop) : Prop :=
 opQ Tryd.prog w (Instr.loadAt 86 t5) fun t10 =>
 oCallP Tryd.prog Tryd.n_types_reader_kind #[t10, (Value.int .i64 48)] w (fun t11 w7 =>
 opU Tryd.prog w7 (Instr.storeAt 25 t2 t11) fun w8 =>
 sJoin (fun K9 =>
 opQ Tryd.prog w8 (Instr.loadAt 86 t5) fun t12 =>
 oNil t12 fun t13 =>
 opP Tryd.prog (Instr.fieldAt 88 t13 1) fun t14 =>
 opQ Tryd.prog w8 (Instr.loadAt 3 t14) fun t15 =>
 opP Tryd.prog (Builtin.len_ #[9] 3 #[t0]) fun t17 =>
 opP Tryd.prog (bsem .lss 3 false t15 t17) fun t18 =>
 oCond t18 (opP Tryd.prog (Instr.build 90 #[]) fun t19 =>
 opP Tryd.prog (Instr.makeInterface 90 t19) fun t20 =>
 ∃ v w13, (Instr.panic t20).run Tryd.prog w8 = .halt (.panic v) w13 ∧ (false = true → NC w8 w13) ∧ Kd (.panicking [{ v, recovered := false }]) w13) (K9 [] w8)) (fun _s10 _d11 w12 =>
 opQ Tryd.prog w12 (Instr.loadAt 25 t2) fun t21 =>
 opU Tryd.prog w12 (Instr.storeAt 25 t2 t21) fun w14 =>
 opU Tryd.prog w14 (Instr.storeAt 3 t3 (Value.int .i64 0)) fun w15 =>
 opU Tryd.prog w15 (Instr.storeAt 29 t4 (Value.int .i64 0)) fun w16 =>
 Kd .returning w16)) (fun c w7 => (false = true → NC w w7) ∧ Kd (.panicking c) w7)
def Tryd.F_types_Read (t0 : Value) (w : World) (K : Value → World → Prop) (Kp : List PanicEntry → World → Prop) : Prop :=
 opW Tryd.prog w (Instr.alloc 25 true (.tuple #[])) fun t2 w1 =>
 opW Tryd.prog w1 (Instr.alloc 3 true (.tuple #[])) fun t3 w2 =>
 opW Tryd.prog w2 (Instr.alloc 29 true (.tuple #[])) fun t4 w3 =>
 opP Tryd.prog (Instr.build 88 #[(0, t0)]) fun t7 =>
 opW Tryd.prog w3 (Instr.box 88 t7) fun t8 w4 =>
 opW Tryd.prog w4 (Instr.alloc 86 true (.tuple #[])) fun t5 w5 =>
 opU Tryd.prog w5 (Instr.storeAt 86 t5 t8) fun w6 =>
 Tryd.B_types_Read t0 t2 t3 t4 t5 w6 fun u w => oDef Tryd.prog Tryd.n_types_Read_1 #[t5, t2, t3, t4] u w (fun u w => eEnd (fun w => opQ Tryd.prog w (cellSem 25 t2) fun r17 => opQ Tryd.prog w (cellSem 3 t3) fun r18 => opQ Tryd.prog w (cellSem 29 t4) fun r19 => K (.tuple #[r17, r18, r19]) w) Kp (settle u) w) (fun c u w => eEnd (fun w => opQ Tryd.prog w (cellSem 25 t2) fun r17 => opQ Tryd.prog w (cellSem 3 t3) fun r18 => opQ Tryd.prog w (cellSem 29 t4) fun r19 => K (.tuple #[r17, r18, r19]) w) Kp (raised u c) w)
theorem Tryd.E_types_Read (t0 : Value) (w : World) (K : Value → World → Prop) (Kp : List PanicEntry → World → Prop) : swD Tryd.prog Tryd.f16 K Kp Tryd.A_types_Read (bodyOf Tryd.f16) [t0, undef, undef, undef, undef, undef, undef, undef, undef, undef, undef, undef, undef, undef, undef, undef, undef, undef, undef, undef, undef, undef] w = Tryd.F_types_Read t0 w K Kp := by kernel_rfl
theorem Tryd.C_types_Read : chkD Tryd.prog Tryd.f16 Tryd.A_types_Read (bodyOf Tryd.f16) = true := by kernel_rfl
theorem Tryd.ok_types_Read {t0 : Value} {w : World} {K : Value → World → Prop} (h : Tryd.F_types_Read t0 w K fun _ _ => False) : oCall Tryd.prog Tryd.n_types_Read #[t0] w K :=
  calls_of_swD Tryd.mixed Tryd.func16 rfl Tryd.C_types_Read ((Tryd.E_types_Read t0 w K _).mpr h)
theorem Tryd.okP_types_Read {t0 : Value} {w : World} {K : Value → World → Prop} {Kp : List PanicEntry → World → Prop} (h : Tryd.F_types_Read t0 w K Kp) : oCallP Tryd.prog Tryd.n_types_Read #[t0] w K Kp :=
  callsP_of_swD Tryd.mixed Tryd.func16 rfl Tryd.C_types_Read ((Tryd.E_types_Read t0 w K Kp).mpr h)

/- 57: loanword/types.Read$1 -/
def Tryd.A_types_Read_1 : Ann := .b (.s (.r (.op 0 .q (.nil))) (.c (.r (.op 0 .p (.nil))) (.s (.r (.op 0 .p (.op 1 .p (.op 2 .p (.nil))))) (.c (.s (.r (.op 0 .l (.op 1 .l (.nil)))) (.r (.op 0 .p (.op 1 .q (.op 2 .p (.op 3 .p (.op 4 .q (.op 5 .l (.op 6 .l (.op 7 .l (.nil))))))))))) (.s (.r (.op 0 .p (.nil))) (.r (.op 0 .p (.op 1 .l (.nil)))))))))
def Tryd.F_types_Read_1 (t0 : Value) (t1 : Value) (t2 : Value) (t3 : Value) (tr : Value) (w : World) (R : World → Prop) (Kp : List PanicEntry → World → Prop) : Prop :=
 opQ Tryd.prog w (bsem .eql 20 true tr Value.nilIface) fun t9 =>
 oCond t9 (R w) (opP Tryd.prog (Instr.typeAssert tr 20 90 true) fun t10 =>
 opP Tryd.prog (Instr.extract t10 1) fun t11 =>
 opP Tryd.prog (Instr.extract t10 0) fun t12 =>
 oCond t11 (opW Tryd.prog w (Instr.alloc 90 true (.tuple #[])) fun t5 w1 =>
 opU Tryd.prog w1 (Instr.storeAt 90 t5 t12) fun w2 =>
 opP Tryd.prog (Instr.build 25 #[]) fun t13 =>
 opQ Tryd.prog w2 (Instr.loadAt 86 t0) fun t14 =>
 oNil t14 fun t15 =>
 opP Tryd.prog (Instr.fieldAt 88 t15 1) fun t16 =>
 opQ Tryd.prog w2 (Instr.loadAt 3 t16) fun t17 =>
 opU Tryd.prog w2 (Instr.storeAt 25 t1 t13) fun w3 =>
 opU Tryd.prog w3 (Instr.storeAt 3 t2 t17) fun w4 =>
 opU Tryd.prog w4 (Instr.storeAt 29 t3 (Value.int .i64 60)) fun w5 =>
 R w5) (∃ v w6, (Instr.panic tr).run Tryd.prog w = .halt (.panic v) w6 ∧ (false = true → NC w w6) ∧ Kp [{ v, recovered := false }] w6))
theorem Tryd.E_types_Read_1 (t0 t1 t2 t3 : Value) (tr : Value) (w : World) (R : World → Prop) (Kp : List PanicEntry → World → Prop) : sw ⟨false, true⟩ Tryd.prog Kp Tryd.A_types_Read_1 (codeTail (bodyOf Tryd.f57)) (st [t0, t1, t2, t3, undef, undef, undef, undef, undef, undef, undef, undef, undef, undef, undef, undef, undef, undef] (some 7) tr) w (fun
  | .normal, _, w' => R w'
  | .ret, _, w' => R w'
  | _, _, _ => False) = Tryd.F_types_Read_1 t0 t1 t2 t3 tr w R Kp := by kernel_rfl
theorem Tryd.C_types_Read_1 : chk ⟨false, true⟩ Tryd.prog false Tryd.A_types_Read_1 (codeTail (bodyOf Tryd.f57)) = true := by kernel_rfl
theorem Tryd.ok_types_Read_1 {t0 t1 t2 t3 : Value} {u : FrameMode} {w : World} {R : FrameMode → World → Prop} {Rp : List PanicEntry → FrameMode → World → Prop} (h : Tryd.F_types_Read_1 t0 t1 t2 t3 (recov u).1 w (R (recov u).2) fun c w' => Rp c (recov u).2 w') : oDef Tryd.prog Tryd.n_types_Read_1 #[t0, t1, t2, t3] u w R Rp :=
  oDef_of (pan := true) Tryd.mixed Tryd.func57 rfl (by kernel_rfl) rfl Tryd.C_types_Read_1 ((Tryd.E_types_Read_1 t0 t1 t2 t3 _ w _ _).mpr h)

end Go.Proofs
end
