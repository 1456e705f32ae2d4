/-
  A way of walking: a memory that stays (a ghost), the cells that the walk itself has made, and one fact that carries both from world to world. Steps by classes.
-/
import Derived.Test.YtajllnahceaipaaDoorShD
namespace Go.Sh
open Go.RowKit

/-! ### Steps that ask nothing of memory -/
class PStep (P : Program) (s : Sem Value) (v : outParam Value) : Prop where
  yields : ∀ w, s.run P w = .ok v w
class PCond (P : Program) (s : Sem Value) (v : outParam Value) (c : outParam Prop) : Prop where
  yields : c → ∀ w, s.run P w = .ok v w
section
variable {P : Program} {s : Sem Value} {v : Value} {c : Prop}
theorem s_p {K : Value → Prop} [i : PStep P s v] (k : K v) : opP P s K := p_of i.yields k
theorem s_c {K : Value → Prop} [i : PCond P s v c] (h : c) (k : K v) : opP P s K := p_of (i.yields h) k
theorem s_q {w : World} {K : Value → Prop} [i : PStep P s v] (k : K v) : opQ P w s K := q_of_p (s_p k)
theorem s_qc {w : World} {K : Value → Prop} [i : PCond P s v c] (h : c) (k : K v) : opQ P w s K := q_of_p (s_c h k)
theorem PStep.of (h : ∀ K : Value → Prop, K v → opP P s K) : PStep P s v := ⟨by
  obtain ⟨v', h1, rfl⟩ := h (fun x => x = v) rfl
  exact h1⟩
theorem PCond.of (h : c → ∀ K : Value → Prop, K v → opP P s K) : PCond P s v c := ⟨fun hc => by
  obtain ⟨v', h1, rfl⟩ := h hc (fun x => x = v) rfl
  exact h1⟩
end

/-! ### What is asked of types -/
class FldT (P : Program) (t : TypeId) (i : Nat) (n : outParam Nat) : Prop where
  h : fldT P t i = some n
class SlT (P : Program) (t : TypeId) (e : outParam TypeId) (n : outParam Nat) : Prop where
  h : slT P t = some (e, n)
class StrT (P : Program) (t : TypeId) : Prop where
  h : strT P t = true
class Ld1 (P : Program) (t : TypeId) : Prop where
  h : ld1 P t = true
class LdN (P : Program) (t : TypeId) (n : outParam Nat) : Prop where
  h : ldN P t = some n
class SzT (P : Program) (t : TypeId) (n : outParam Nat) : Prop where
  h : szT P t = some n
class ZrT (P : Program) (t : TypeId) (c : outParam (List Value)) : Prop where
  h : zrT P t = some c
class ApT (P : Program) (t : TypeId) (e : outParam TypeId) (n b : outParam Nat) : Prop where
  h : apT P t = some (e, n, b)
class ArT (P : Program) (t : TypeId) (l : outParam Nat) (e : outParam TypeId) (n : outParam Nat) : Prop where
  h : arT P t = some (l, e, n)
class KdT (P : Program) (t : TypeId) (k : outParam IntKind) : Prop where
  h : kdT P t = some k
class KdB (P : Program) (t : TypeId) : Prop where
  h : kdB P t = true
class FnT (P : Program) (t : TypeId) : Prop where
  h : fnT P t = true
class BytT (P : Program) (t : TypeId) : Prop where
  h : bytT P t = true
section
variable {P : Program} {t ty e : TypeId} {c : Bool} {i j : IntKind} {a b : Int} {n l : Nat}
instance : PStep P (bsem .lss t c (.int i a) (.int i b)) (.bool (decide (a < b))) := .of fun _ k => p_lss k
instance : PStep P (bsem .leq t c (.int i a) (.int i b)) (.bool (decide (a ≤ b))) := .of fun _ k => p_leq k
instance : PStep P (bsem .gtr t c (.int i a) (.int i b)) (.bool (decide (b < a))) := .of fun _ k => p_gtr k
instance : PStep P (bsem .geq t c (.int i a) (.int i b)) (.bool (decide (b ≤ a))) := .of fun _ k => p_geq k
instance : PStep P (bsem .eql t c (.int i a) (.int i b)) (.bool (decide (a = b))) := .of fun _ k => p_eql k
instance : PStep P (bsem .neq t c (.int i a) (.int i b)) (.bool (decide (a ≠ b))) := .of fun _ k => p_neq k
instance {x : Bool} : PStep P (Op.unary .not (.bool x)) (.bool (!x)) := .of fun _ k => p_not k
instance : PCond P (bsem .add t c (.int .i64 a) (.int .i64 b)) (.int .i64 (a + b)) (-9223372036854775808 ≤ a + b ∧ a + b < 9223372036854775808) := .of fun h _ k => p_add h k
instance : PCond P (bsem .sub t c (.int .i64 a) (.int .i64 b)) (.int .i64 (a - b)) (-9223372036854775808 ≤ a - b ∧ a - b < 9223372036854775808) := .of fun h _ k => p_sub h k
instance : PCond P (bsem .mul t c (.int .i64 a) (.int .i64 b)) (.int .i64 (a * b)) (-9223372036854775808 ≤ a * b ∧ a * b < 9223372036854775808) := .of fun h _ k => p_mul h k
instance : PCond P (bsem .quo t c (.int .i64 a) (.int .i64 b)) (.int .i64 (a / b)) (0 ≤ a ∧ a < 9223372036854775808 ∧ 0 < b) := .of fun h _ k => p_quo h.1 h.2.1 h.2.2 k
instance : PCond P (bsem .rem t c (.int .i64 a) (.int .i64 b)) (.int .i64 (a % b)) (0 ≤ a ∧ 0 < b) := .of fun h _ k => p_rem h.1 h.2 k
instance : PCond P (Op.unary .neg (.int .i64 a)) (.int .i64 (-a)) (-9223372036854775808 ≤ -a ∧ -a < 9223372036854775808) := .of fun h _ k => p_neg h k
instance {x y : BitVec 64} : PStep P (bsem .and t c (u64 x) (u64 y)) (u64 (x &&& y)) := .of fun _ k => p_and64 (by rw [of64]; exact k)
instance {x y : BitVec 64} : PStep P (bsem .or t c (u64 x) (u64 y)) (u64 (x ||| y)) := .of fun _ k => p_or64 (by rw [of64]; exact k)
instance {x y : BitVec 64} : PStep P (bsem .xor t c (u64 x) (u64 y)) (u64 (x ^^^ y)) := .of fun _ k => p_xor64 (by rw [of64]; exact k)
instance {x y : BitVec 64} : PStep P (bsem .andNot t c (u64 x) (u64 y)) (u64 (x &&& ~~~ y)) := .of fun _ k => p_andNot64 (by rw [of64]; exact k)
instance {x y : BitVec 64} : PStep P (bsem .sub t c (u64 x) (u64 y)) (u64 (x - y)) := .of fun _ k => p_sub64 (by rw [of64]; exact k)
instance {x y : BitVec 64} : PStep P (bsem .add t c (u64 x) (u64 y)) (u64 (x + y)) := .of fun _ k => p_add64 k
instance (priority := low) {x : BitVec 64} : PStep P (bsem .and t c (u64 x) (.int .u64 a)) (u64 (x &&& BitVec.ofInt 64 a)) := .of fun _ k => p_and64 k
instance (priority := low) {x : BitVec 64} : PStep P (bsem .or t c (u64 x) (.int .u64 a)) (u64 (x ||| BitVec.ofInt 64 a)) := .of fun _ k => p_or64 k
instance (priority := low) {x : BitVec 64} : PStep P (bsem .xor t c (u64 x) (.int .u64 a)) (u64 (x ^^^ BitVec.ofInt 64 a)) := .of fun _ k => p_xor64 k
instance (priority := low) {x : BitVec 64} : PStep P (bsem .sub t c (u64 x) (.int .u64 a)) (u64 (x - BitVec.ofInt 64 a)) := .of fun _ k => p_sub64 k
instance {x : BitVec 64} : PStep P (Op.unary .xor (u64 x)) (u64 (~~~ x)) := .of fun _ k => p_not64 k
instance {x : BitVec 64} : PCond P (bsem .shr t c (u64 x) (.int i a)) (u64 (x >>> a.toNat)) (0 ≤ a) := .of fun h _ k => p_shr64 h k
instance : PCond P (bsem .shl t c (.int .u64 b) (.int i a)) (u64 (BitVec.ofInt 64 b <<< a.toNat)) (0 ≤ a) := .of fun h _ k => p_shl64 h k
instance {x y : BitVec 8} : PStep P (bsem .and t c (u8 x) (u8 y)) (u8 (x &&& y)) := .of fun _ k => p_and88 k
instance {x y : BitVec 8} : PStep P (bsem .or t c (u8 x) (u8 y)) (u8 (x ||| y)) := .of fun _ k => p_or88 k
instance {x : BitVec 8} : PCond P (bsem .shr t c (u8 x) (.int i a)) (u8 (x >>> a.toNat)) (0 ≤ a) := .of fun h _ k => p_shr8 h k
instance {f : Fn} {x y : Array Value} : PStep P (Instr.makeFunc f x y) (.func f x y) := .of fun _ k => p_func k
instance {b off k : Nat} [h : FldT P t k n] : PStep P (Instr.fieldAt t (.pointer (some ⟨b, off, none⟩)) k) (.pointer (some ⟨b, off + n, none⟩)) := .of fun _ k => p_field h.h k
instance {p : Option Addr} {len cap : Nat} [h : SlT P t e n] : PStep P (Builtin.len_ #[t] ty #[.slice p len cap]) (.int .i64 len) := .of fun _ k => p_lenS h.h k
instance {p : Option Addr} {len cap : Nat} [h : SlT P t e n] : PStep P (Builtin.cap_ #[t] ty #[.slice p len cap]) (.int .i64 cap) := .of fun _ k => p_capS h.h k
instance {x : ByteArray} [h : StrT P t] : PStep P (Builtin.len_ #[t] ty #[.string x]) (.int .i64 x.size) := .of fun _ k => p_lenStr h.h k
instance : PStep P (Builtin.min_ #[t, e] ty #[.int .i64 a, .int .i64 b]) (.int .i64 (min a b)) := .of fun _ k => p_min k
instance {b off len cap : Nat} [h : SlT P t e 1] : PCond P (Instr.indexAt t (.slice (some ⟨b, off, none⟩) len cap) (.int i a)) (.pointer (some ⟨b, off + a.toNat, none⟩)) (0 ≤ a ∧ a < len) :=
  .of fun x _ k => p_index (e := e) (n := 1) h.h x.1 x.2 (by rw [Nat.mul_one]; exact k)
instance (priority := low) {b off len cap : Nat} [h : SlT P t e n] : PCond P (Instr.indexAt t (.slice (some ⟨b, off, none⟩) len cap) (.int i a)) (.pointer (some ⟨b, off + a.toNat * n, none⟩)) (0 ≤ a ∧ a < len) :=
  .of fun x _ k => p_index (e := e) (n := n) h.h x.1 x.2 k
instance {b off : Nat} [h : ArT P t l e n] : PCond P (Instr.indexAt t (.pointer (some ⟨b, off, none⟩)) (.int i a)) (.pointer (some ⟨b, off + a.toNat * n, none⟩)) (0 ≤ a ∧ a < l) :=
  .of fun x _ k => p_indexA h.h x.1 x.2 k
instance {p : Option Addr} {len cap : Nat} [h : SlT P t e n] : PCond P (Instr.sliceAt t (.slice p len cap) none (some (.int i a)) none) (.slice p a.toNat cap) (0 ≤ a ∧ a ≤ cap) :=
  .of fun x _ k => p_sliceHi (e := e) (n := n) h.h x.1 x.2 k
instance {p : Option Addr} {len cap : Nat} [h : SlT P t e n] : PCond P (Instr.sliceAt t (.slice p len cap) (some (.int i a)) none none) (.slice (if cap = a.toNat then p else p.map (·.add (a.toNat * n))) (len - a.toNat) (cap - a.toNat)) (0 ≤ a ∧ a ≤ len) :=
  .of fun x _ k => p_sliceLo (e := e) (n := n) h.h x.1 x.2 k
instance {x : ByteArray} [h : StrT P t] : PCond P (Instr.sliceAt t (.string x) none (some (.int i a)) none) (.string (x.extract 0 a.toNat)) (0 ≤ a ∧ a ≤ x.size) := .of fun y _ k => p_strHi h.h y.1 y.2 k
instance {x : ByteArray} [h : StrT P t] : PCond P (Instr.sliceAt t (.string x) (some (.int i a)) none none) (.string (x.extract a.toNat x.size)) (0 ≤ a ∧ a ≤ x.size) := .of fun y _ k => p_strLo h.h y.1 y.2 k
instance {p : Option Addr} {len cap l' c' : Nat} [h : SlT P t e n] : PStep P (bsem .eql t c (.slice p len cap) (.slice none l' c')) (.bool p.isNone) := .of fun _ k => p_eqNilS h.h k
instance {p : Option Addr} {len cap l' c' : Nat} [h : SlT P t e n] : PStep P (bsem .neq t c (.slice p len cap) (.slice none l' c')) (.bool (!p.isNone)) := .of fun _ k => p_neqNilS h.h k
instance {x y : Bool} [h : KdB P t] : PStep P (bsem .eql t c (.bool x) (.bool y)) (.bool (x == y)) := .of fun _ k => p_eqlB h.h k
instance {x y : Bool} [h : KdB P t] : PStep P (bsem .neq t c (.bool x) (.bool y)) (.bool (!(x == y))) := .of fun _ k => p_neqB h.h k
instance {f : Fn} {x y : Array Value} [h : FnT P t] : PStep P (bsem .eql t c (.func f x y) .nilFunc) (.bool false) := .of fun _ k => p_eqlFn h.h k
instance {f : Fn} {x y : Array Value} [h : FnT P t] : PStep P (bsem .neq t c (.func f x y) .nilFunc) (.bool true) := .of fun _ k => p_neqFn h.h k
instance {s : TypeId} {k1 k3 : IntKind} [h1 : KdT P s k1] [h2 : KdT P t .i64] : PCond P (convert s t (.int k3 a)) (.int .i64 a) (-9223372036854775808 ≤ a ∧ a < 9223372036854775808) := .of fun x _ k => p_cvt64 h1.h h2.h x k
instance {a b : Value} : PStep P (Instr.extract (.tuple #[a, b]) 0) a := .of fun _ k => x20 k
instance {a b : Value} : PStep P (Instr.extract (.tuple #[a, b]) 1) b := .of fun _ k => x21 k
instance {a b d : Value} : PStep P (Instr.extract (.tuple #[a, b, d]) 0) a := .of fun _ k => x30 k
instance {a b d : Value} : PStep P (Instr.extract (.tuple #[a, b, d]) 1) b := .of fun _ k => x31 k
instance {a b d : Value} : PStep P (Instr.extract (.tuple #[a, b, d]) 2) d := .of fun _ k => x32 k
instance {a b d x : Value} : PStep P (Instr.extract (.tuple #[a, b, d, x]) 0) a := .of fun _ k => x40 k
instance {a b d x : Value} : PStep P (Instr.extract (.tuple #[a, b, d, x]) 1) b := .of fun _ k => x41 k
instance {a b d x : Value} : PStep P (Instr.extract (.tuple #[a, b, d, x]) 2) d := .of fun _ k => x42 k
instance {a b d x : Value} : PStep P (Instr.extract (.tuple #[a, b, d, x]) 3) x := .of fun _ k => x43 k
end

/-! ### What stays -/
/-- some blocks and what lies there -/
abbrev Gh := Nat → Obj → Prop
def Gh.or (r s : Gh) : Gh := fun b o => r b o ∨ s b o
def Holds (r : Gh) (w : World) : Prop := ∀ b o, r b o → w.heap[b]? = some o
theorem Holds.lt {r : Gh} {w : World} (h : Holds r w) {b : Nat} {o : Obj} (hb : r b o) : b < w.heap.size := (Array.getElem?_eq_some_iff.1 (h b o hb)).1
theorem Holds.ext {r : Gh} {w w' : World} (h : Holds r w) (e : Ext w w') : Holds r w' := fun b o hb => (e.block b (h.lt hb)).trans (h b o hb)
theorem Holds.but {r : Gh} {S : Nat → Prop} {w w' : World} (h : Holds r w) (e : ExtBut S w w') (hS : ∀ b o, r b o → ¬ S b) : Holds r w' := fun b o hb => (e.block b (h.lt hb) (hS b o hb)).trans (h b o hb)
theorem Holds.or {r s : Gh} {w : World} (h : Holds r w) (k : Holds s w) : Holds (r.or s) w := fun b o hb => hb.elim (h b o) (k b o)
class Le (r s : Gh) : Prop where
  le : ∀ b o, r b o → s b o
instance {r : Gh} : Le r r := ⟨fun _ _ h => h⟩
instance (priority := high) {r s t : Gh} [h : Le r t] [k : Le s t] : Le (r.or s) t := ⟨fun b o x => x.elim (h.le b o) (k.le b o)⟩
instance {r s t : Gh} [h : Le r s] : Le r (s.or t) := ⟨fun b o k => .inl (h.le b o k)⟩
instance {r s t : Gh} [h : Le r t] : Le r (s.or t) := ⟨fun b o k => .inr (h.le b o k)⟩
theorem Holds.le {r s : Gh} {w : World} [h : Le r s] (k : Holds s w) : Holds r w := fun b o hb => k b o (h.le b o hb)
/-- it is so in every world that holds these -/
def Ob (r : Gh) (p : World → Prop) : Prop := ∀ w, Holds r w → p w
theorem Ob.up {r s : Gh} {p : World → Prop} (h : Ob r p) [l : Le r s] : Ob s p := fun w k => h w (k.le (h := l))
theorem Ob.mono {r : Gh} {p q : World → Prop} (h : Ob r p) (k : ∀ w, p w → q w) : Ob r q := fun w x => k w (h w x)
/-- all that a world holds -/
def all (w : World) : Gh := fun b o => w.heap[b]? = some o
theorem all_holds (w : World) : Holds (all w) w := fun _ _ h => h
/-- all that a world holds that another one did not -/
def news (w w' : World) : Gh := fun b o => w.heap.size ≤ b ∧ w'.heap[b]? = some o
theorem news_holds (w w' : World) : Holds (news w w') w' := fun _ _ h => h.2
theorem cell_all {w : World} {a : Addr} {v : Value} (h : w.cell? a = some v) : Ob (all w) fun w' => w'.cell? a = some v := fun w' k => by
  have hl := cell_lt h
  show w'.cell? a = some v
  rw [World.cell?_of_block (w := w) ((k a.block _ (Array.getElem?_eq_getElem hl)).trans (Array.getElem?_eq_getElem hl).symm)]; exact h
theorem Sl.all {w : World} {p : Option Addr} {vs : List Value} (h : Sl w p vs) : Ob (all w) fun w' => Sl w' p vs := fun w' k i v hv => by
  obtain ⟨b, off, hp, hc⟩ := h i v hv
  exact ⟨b, off, hp, cell_all hc w' k⟩
/-- one block -/
def one (b : Nat) (c : List Value) (T : TypeId) : Gh := fun k o => k = b ∧ o = .cells c.toArray T (0, 0)
theorem one_holds {w : World} {b : Nat} {c : List Value} {T : TypeId} (h : Blk w b c T) : Holds (one b c T) w := by rintro _ _ ⟨rfl, rfl⟩; exact h
theorem one_blk {b : Nat} {c : List Value} {T : TypeId} : Ob (one b c T) fun w => Blk w b c T := fun _ h => h b _ ⟨rfl, rfl⟩
/-- what a call has laid anew -/
structure New (w : World) (s : Gh) (w' : World) : Prop where
  holds : Holds s w'
  fresh : ∀ b o, s b o → w.heap.size ≤ b
theorem New.one {w w' : World} {b : Nat} {c : List Value} {T : TypeId} (h : Blk w' b c T) (hb : w.heap.size ≤ b) : New w (one b c T) w' := ⟨one_holds h, by rintro _ _ ⟨rfl, _⟩; exact hb⟩
theorem New.ext {w w' w'' : World} {s : Gh} (h : New w s w') (e : Ext w' w'') : New w s w'' := ⟨h.holds.ext e, h.fresh⟩
theorem New.back {w0 w w' : World} {s : Gh} (h : New w s w') (e : Ext w0 w) : New w0 s w' := ⟨h.holds, fun b o hb => Nat.le_trans e.size (h.fresh b o hb)⟩
/-- no block in common -/
def Dis (r s : Gh) : Prop := ∀ b o o', r b o → ¬ s b o'
theorem Dis.or {r s t : Gh} (h : Dis r s) (k : Dis r t) : Dis r (s.or t) := fun b o o' x y => y.elim (h b o o' x) (k b o o' x)
theorem Dis.of {r s t : Gh} (h : Dis s r) [l : Le t r] : Dis t s := fun b o o' x y => h b o' o y (l.le b o x)
theorem Dis.le {r s t : Gh} (h : Dis s r) [l : Le t r] : Dis s t := fun b o o' x y => h b o o' x (l.le b o' y)
/-- all of it is made behind a world's end -/
def Above (w : World) (s : Gh) : Prop := ∀ b o, s b o → w.heap.size ≤ b
def nothing : Gh := fun _ _ => False
theorem New.nothing {w w' : World} : New w nothing w' := ⟨fun _ _ h => h.elim, fun _ _ h => h.elim⟩
instance {r : Gh} : Le nothing r := ⟨fun _ _ h => h.elim⟩

/-! ### What the walk itself has made -/
inductive Asr where
  | cell (b : Nat) (c : List Value) (T : TypeId)
  | row (v : Value) (e : TypeId) (sz n : Nat) (xs : List Value)
def Asr.has (base : Nat) : Asr → World → Prop
  | .cell b c T, w => Blk w b c T
  | .row v e sz n xs, w => w.ownsRow base e sz v n xs
def Asr.dom : Asr → Nat → Prop
  | .cell b _ _, k => k = b
  | .row v _ _ _ _, k => v.ownBlock = some k
theorem row_cases {w : World} {base : Nat} {e : TypeId} {size : Nat} {v : Value} {n : Nat} {xs : List Value} (h : w.ownsRow base e size v n xs) :
    v.ownBlock = none ∨ ∃ g cap c, v.ownBlock = some g ∧ v = .slice (some ⟨g, 0, none⟩) n cap ∧ Blk w g c e ∧ base ≤ g := by
  rcases own_blk h with ⟨rfl, _, _⟩ | ⟨g, cap, c, rfl, hb, B, _⟩
  · exact .inl rfl
  · exact .inr ⟨g, cap, c, rfl, rfl, B, hb⟩
theorem row_keep {w w' : World} {base : Nat} {e : TypeId} {size : Nat} {v : Value} {n : Nat} {xs : List Value} (h : w.ownsRow base e size v n xs)
    (hk : ∀ g, v.ownBlock = some g → w'.heap[g]? = w.heap[g]?) : w'.ownsRow base e size v n xs := by
  rcases h with ⟨hl, h | ⟨g, cap, cur, rfl, hb, hg, hr⟩⟩
  · exact ⟨hl, .inl h⟩
  · exact ⟨hl, .inr ⟨g, cap, cur, rfl, hb, (hk g rfl).trans hg, hr⟩⟩
theorem Asr.lt {base : Nat} {x : Asr} {w : World} (h : x.has base w) {k : Nat} (hk : x.dom k) : k < w.heap.size := by
  cases x with
  | cell b c T => cases hk; exact Blk.lt h
  | row v e sz n xs =>
    rcases row_cases h with h0 | ⟨g, cap, c, h1, h2, B, _⟩
    · rw [Asr.dom, h0] at hk; cases hk
    · rw [Asr.dom, h1] at hk; cases hk; exact B.lt
theorem Asr.keep {base : Nat} {x : Asr} {w w' : World} (h : x.has base w) (hk : ∀ k, x.dom k → w'.heap[k]? = w.heap[k]?) : x.has base w' := by
  cases x with
  | cell b c T => exact (hk b rfl).trans h
  | row v e sz n xs => exact row_keep h hk

/-- WHERE THE WALK STANDS: what was there when it began lies as it lay (X apart); what stays, stays; its own cells hold these. -/
structure StX (X : Nat → Prop) (w0 : World) (r : Gh) (w : World) (L : List Asr) : Prop where
  x : ExtBut X w0 w
  holds : Holds r w
  has : ∀ x ∈ L, x.has 0 w
  mine : ∀ x ∈ L, ∀ k, x.dom k → (w0.heap.size ≤ k ∨ X k) ∧ ∀ o, ¬ r k o
  apart : L.Pairwise fun x y => ∀ k, x.dom k → ¬ y.dom k
abbrev noX : Nat → Prop := fun _ => False
abbrev St := StX noX
theorem ExtBut.ext {w w' : World} (h : ExtBut noX w w') : Ext w w' := ⟨h.os, h.tape, h.output, h.size, fun k hk => h.block k hk (fun hf => hf)⟩
theorem ExtBut.but {X Y : Nat → Prop} {w0 w w' : World} (h : ExtBut X w0 w) (e : ExtBut Y w w') (hY : ∀ k, Y k → w0.heap.size ≤ k ∨ X k) : ExtBut X w0 w' :=
  ⟨e.os.trans h.os, e.tape.trans h.tape, e.output.trans h.output, Nat.le_trans h.size e.size, fun k hk hx =>
    (e.block k (Nat.lt_of_lt_of_le hk h.size) (fun hy => (hY k hy).elim (fun h => by omega) hx)).trans (h.block k hk hx)⟩
section
variable {X : Nat → Prop} {w0 w w' : World} {r s : Gh} {L : List Asr}
theorem StX.ext (S : StX noX w0 r w L) : Ext w0 w := S.x.ext
theorem St.start (h : Holds r w) : St w r w [] := ⟨.refl _ _, h, by simp, by simp, .nil⟩
theorem StX.at (S : StX X w0 r w L) {q : Gh} {p : World → Prop} (h : Ob q p) [l : Le q r] : p w := h w (S.holds.le (h := l))
theorem StX.go (S : StX X w0 r w L) (e : Ext w w') : StX X w0 r w' L :=
  ⟨S.x.trans (.of_ext e), S.holds.ext e, fun x hx => Asr.keep (S.has x hx) fun k hk => e.block k (Asr.lt (S.has x hx) hk), S.mine, S.apart⟩
theorem StX.new (S : StX X w0 r w L) (e : Ext w w') (n : New w s w') : StX X w0 (r.or s) w' L :=
  { S.go e with
    holds := (S.holds.ext e).or n.holds
    mine := fun x hx k hk => ⟨(S.mine x hx k hk).1, fun o ho => ho.elim ((S.mine x hx k hk).2 o) fun h => by
      have := n.fresh k o h; have := Asr.lt (S.has x hx) hk; omega⟩ }
theorem StX.tell (S : StX X w0 r w L) (e : Ext w w') (n : New w s w') : StX X w0 (r.or s) w' L ∧ Dis s r ∧ Above w0 s :=
  ⟨S.new e n, fun b o o' h h' => by have := n.fresh b o h; have := S.holds.lt h'; omega, fun b o h => by have := n.fresh b o h; have := S.x.size; omega⟩
theorem StX.cells (S : StX X w0 r w L) (x : Asr) (hx : x ∈ L) : x.has 0 w := S.has x hx
/-- other blocks than its own, made since it began and not among what stays, may turn -/
theorem StX.but (S : StX X w0 r w L) {Y : Nat → Prop} {q : Gh} (e : ExtBut Y w w') (hq : ∀ b o, q b o → r b o ∧ ¬ Y b) (hX : ∀ b, Y b → w0.heap.size ≤ b) (hL : ∀ x ∈ L, ∀ k, x.dom k → ¬ Y k) : StX X w0 q w' L :=
  ⟨S.x.but e fun k hk => .inl (hX k hk), fun b o hb => (e.block b (S.holds.lt (hq b o hb).1) (hq b o hb).2).trans (S.holds b o (hq b o hb).1),
    fun x hx => Asr.keep (S.has x hx) fun k hk => e.block k (Asr.lt (S.has x hx) hk) (hL x hx k hk), fun x hx k hk => ⟨(S.mine x hx k hk).1, fun o ho => (S.mine x hx k hk).2 o (hq k o ho).1⟩, S.apart⟩
/-- book-keeping turns; no cell is book-keeping -/
theorem StX.nlX (S : StX X w0 r w L) {n : Nat} (hn : w0.heap.size ≤ n) (hr : ∀ b o, r b o → b < n ∨ Obj.isBook o = false) (e : Nl n w w') : StX X w0 r w' L := by
  refine ⟨⟨e.os.trans S.x.os, e.tape.trans S.x.tape, e.output.trans S.x.output, Nat.le_trans S.x.size e.size, fun k hk hx => ?_⟩, fun b o hb => e.block b o (S.holds b o hb) (hr b o hb), fun x hx => ?_, S.mine, S.apart⟩
  · have h1 := S.x.block k hk hx
    have hkw : k < w.heap.size := Nat.lt_of_lt_of_le hk S.x.size
    rw [← h1, Array.getElem?_eq_getElem hkw]
    exact e.block k _ (Array.getElem?_eq_getElem hkw) (.inl (by omega))
  have hx' := S.has x hx
  cases x with
  | cell b c T => exact Blk.nl hx' e
  | row v e' sz k xs =>
    refine row_keep hx' fun g hg => ?_
    rcases row_cases hx' with h0 | ⟨g', cap, c, h1, h2, B, _⟩
    · rw [h0] at hg; cases hg
    · rw [h1] at hg; cases hg; exact (B.nl e).trans B.symm
/-- fewer cells, less that stays -/
theorem StX.less (S : StX X w0 r w L) {q : Gh} {M : List Asr} (hq : ∀ b o, q b o → r b o) (hM : M.Sublist L) : StX X w0 q w M :=
  ⟨S.x, fun b o h => S.holds b o (hq b o h), fun x hx => S.has x (hM.subset hx), fun x hx k hk => ⟨(S.mine x (hM.subset hx) k hk).1, fun o ho => (S.mine x (hM.subset hx) k hk).2 o (hq k o ho)⟩, S.apart.sublist hM⟩
theorem StX.add (S : StX X w0 r w L) (e : Ext w w') {b : Nat} {c : List Value} {T : TypeId} (hb : w.heap.size ≤ b) (B : Blk w' b c T) : StX X w0 r w' (.cell b c T :: L) := by
  have S' := S.go e
  refine ⟨S'.x, S'.holds, ?_, ?_, .cons ?_ S'.apart⟩
  · intro x hx; rcases List.mem_cons.1 hx with rfl | hx
    · exact B
    · exact S'.has x hx
  · intro x hx; rcases List.mem_cons.1 hx with rfl | hx
    · rintro k rfl
      exact ⟨.inl (by have := S.x.size; omega), fun o ho => by have := S.holds.lt ho; omega⟩
    · exact S'.mine x hx
  · rintro y hy k rfl hk
    have := Asr.lt (S.has y hy) hk; omega
/-- one of its own turns: another block in its stead, at the same place or a new one -/
theorem StX.turn {p q : List Asr} {x y : Asr} (S : StX X w0 r w (p ++ x :: q)) (e : ExtBut x.dom w w') (hy : y.has 0 w') (hd : ∀ k, y.dom k → x.dom k ∨ w.heap.size ≤ k) : StX X w0 r w' (p ++ y :: q) := by
  have hx := S.has x (by simp)
  have hap := List.pairwise_append.1 S.apart
  have hap2 := List.pairwise_cons.1 hap.2.1
  have hmx : ∀ k, y.dom k → (w0.heap.size ≤ k ∨ X k) ∧ ∀ o, ¬ r k o := fun k hk => by
    rcases hd k hk with h | h
    · exact S.mine x (by simp) k h
    · exact ⟨.inl (by have := S.x.size; omega), fun o ho => by have := S.holds.lt ho; omega⟩
  have hother : ∀ z, z ∈ p ∨ z ∈ q → ∀ k, z.dom k → ¬ x.dom k := by
    rintro z (hz | hz) k hk hx
    · exact hap.2.2 z hz x (by simp) k hk hx
    · exact hap2.1 z hz k hx hk
  have hmem : ∀ z, z ∈ p ++ y :: q → z = y ∨ ((z ∈ p ∨ z ∈ q) ∧ z ∈ p ++ x :: q) := by
    intro z hz
    simp only [List.mem_append, List.mem_cons] at hz ⊢
    rcases hz with h | rfl | h
    · exact .inr ⟨.inl h, .inl h⟩
    · exact .inl rfl
    · exact .inr ⟨.inr h, .inr (.inr h)⟩
  have hyo : ∀ z, z ∈ p ∨ z ∈ q → z ∈ p ++ x :: q → ∀ k, z.dom k → ¬ y.dom k := fun z hz hm k hk hy => by
    rcases hd k hy with h | h
    · exact hother z hz k hk h
    · have := Asr.lt (S.has z hm) hk; omega
  refine ⟨S.x.but e fun k hk => (S.mine x (by simp) k hk).1, S.holds.but e fun b o hb hk => (S.mine x (by simp) b hk).2 o hb, ?_, ?_, ?_⟩
  · intro z hz
    rcases hmem z hz with rfl | ⟨h, hm⟩
    · exact hy
    · exact Asr.keep (S.has z hm) fun k hk => e.block k (Asr.lt (S.has z hm) hk) (hother z h k hk)
  · intro z hz
    rcases hmem z hz with rfl | ⟨h, hm⟩
    · exact hmx
    · exact S.mine z hm
  · refine List.pairwise_append.2 ⟨hap.1, .cons (fun z hz k hk hk2 => hyo z (.inr hz) (by simp [hz]) k hk2 hk) hap2.2, fun z hz u hu k hk => ?_⟩
    rcases List.mem_cons.1 hu with rfl | hu
    · exact hyo z (.inl hz) (by simp [hz]) k hk
    · exact hap.2.2 z hz u (by simp [hu]) k hk
/-- the blocks of one's own -/
def doms : List Asr → Nat → Prop
  | [], _ => False
  | x :: L, k => x.dom k ∨ doms L k
theorem doms_mem : ∀ {L : List Asr} {k : Nat}, doms L k ↔ ∃ x ∈ L, x.dom k
  | [], k => by simp [doms]
  | x :: L, k => by simp [doms, doms_mem (L := L)]
/-- A PART OF THE WALK, taken by itself: it may turn the walk's own blocks .. -/
theorem StX.part (S : StX X w0 r w L) : StX (doms L) w r w L :=
  ⟨.refl _ _, S.holds, S.has, fun x hx k hk => ⟨.inr (doms_mem.2 ⟨x, hx, hk⟩), (S.mine x hx k hk).2⟩, S.apart⟩
/-- .. and the whole again, when it is done -/
theorem StX.whole {Y : Nat → Prop} {q : Gh} {M : List Asr} (S : StX X w0 r w L) (R : StX Y w q w' M) (hY : ∀ k, Y k → doms L k) : StX X w0 q w' M :=
  have hy : ∀ k, Y k → w0.heap.size ≤ k ∨ X k := fun k hk => by obtain ⟨x, hx, hd⟩ := doms_mem.1 (hY k hk); exact (S.mine x hx k hd).1
  ⟨S.x.but R.x hy, R.holds, R.has, fun x hx k hk => ⟨(R.mine x hx k hk).1.elim (fun h => .inl (Nat.le_trans S.x.size h)) (hy k), (R.mine x hx k hk).2⟩, R.apart⟩
theorem doms_blk (S : StX X w0 r w L) : ∀ b, doms L b → ∃ o, w.heap[b]? = some o ∧ Obj.isBook o = false := fun b hb => by
  obtain ⟨x, hx, hd⟩ := doms_mem.1 hb
  have h := S.has x hx
  cases x with
  | cell b' c T => cases hd; exact ⟨_, h, rfl⟩
  | row v e sz n xs =>
    rcases row_cases h with h0 | ⟨g, cap, c, h1, h2, B, _⟩
    · rw [Asr.dom, h0] at hd; cases hd
    · rw [Asr.dom, h1] at hd; cases hd; exact ⟨_, B, rfl⟩
end

/-! ### Finding a cell of one's own -/
class At (b : Nat) (L : List Asr) (c : outParam (List Value)) (T : outParam TypeId) (f : outParam (List Value → List Asr)) : Prop where
  h : ∃ p q, L = p ++ .cell b c T :: q ∧ ∀ c', f c' = p ++ .cell b c' T :: q
instance {b : Nat} {c : List Value} {T : TypeId} {L : List Asr} : At b (.cell b c T :: L) c T fun c' => .cell b c' T :: L := ⟨[], L, rfl, fun _ => rfl⟩
instance (priority := low) {b : Nat} {c : List Value} {T : TypeId} {x : Asr} {L : List Asr} {f : List Value → List Asr} [h : At b L c T f] : At b (x :: L) c T fun c' => x :: f c' := ⟨by
  obtain ⟨p, q, h1, h2⟩ := h.h
  exact ⟨x :: p, q, by rw [h1]; rfl, fun c' => by rw [h2]; rfl⟩⟩
class RowAt (v : Value) (L : List Asr) (e : outParam TypeId) (sz n : outParam Nat) (xs : outParam (List Value)) (f : outParam (Asr → List Asr)) : Prop where
  h : ∃ p q, L = p ++ .row v e sz n xs :: q ∧ ∀ y, f y = p ++ y :: q
instance {v : Value} {e : TypeId} {sz n : Nat} {xs : List Value} {L : List Asr} : RowAt v (.row v e sz n xs :: L) e sz n xs fun y => y :: L := ⟨[], L, rfl, fun _ => rfl⟩
instance (priority := low) {v : Value} {e : TypeId} {sz n : Nat} {xs : List Value} {x : Asr} {L : List Asr} {f : Asr → List Asr} [h : RowAt v L e sz n xs f] : RowAt v (x :: L) e sz n xs fun y => x :: f y := ⟨by
  obtain ⟨p, q, h1, h2⟩ := h.h
  exact ⟨x :: p, q, by rw [h1]; rfl, fun c' => by rw [h2]; rfl⟩⟩

section
variable {P : Program} {X : Nat → Prop} {w0 w : World} {r : Gh} {L : List Asr} {t T : TypeId} {b i n : Nat} {c : List Value} {v : Value} {f : List Value → List Asr}
theorem StX.blk (S : StX X w0 r w L) (b : Nat) [h : At b L c T f] : Blk w b c T := by
  obtain ⟨p, q, h1, _⟩ := h.h
  exact S.has (.cell b c T) (by rw [h1]; simp)
theorem StX.ge (S : StX X w0 r w L) (b : Nat) [h : At b L c T f] : w0.heap.size ≤ b ∨ X b := by
  obtain ⟨p, q, h1, _⟩ := h.h
  exact (S.mine (.cell b c T) (by rw [h1]; simp) b rfl).1
theorem StX.ld (S : StX X w0 r w L) [h : At b L c T f] [k : Ld1 P t] {K : Value → Prop} (hk : K v) (hc : c[i]? = some v := by rfl) : opQ P w (Instr.loadAt t (.pointer (some ⟨b, i, none⟩))) K :=
  q_load k.h (((S.blk b (h := h)).cell i).trans hc) hk
theorem StX.ldB (S : StX X w0 r w L) [h : At b L c T f] [k : LdN P t n] {K : Value → Prop} (hk : K (.agg c.toArray)) (hc : c.length = n := by rfl) : opQ P w (Instr.loadAt t (.pointer (some ⟨b, 0, none⟩))) K :=
  q_loadB (by rw [hc]; exact k.h) (S.blk b (h := h)) hk
theorem StX.ldN (S : StX X w0 r w L) [h : At b L c T f] [k : LdN P t n] {K : Value → Prop} {vs : List Value} (hk : K (.agg vs.toArray)) (hv : (c.drop i).take n = vs := by rfl) (hl : vs.length = n := by rfl) : opQ P w (Instr.loadAt t (.pointer (some ⟨b, i, none⟩))) K :=
  q_loadN (by rw [hl]; exact k.h) (fun j u hu => by
    rw [(S.blk b (h := h)).cell]
    rw [← hv, List.getElem?_take] at hu
    split at hu
    · rw [← List.getElem?_drop]; exact hu
    · cases hu) hk
theorem StX.ce (S : StX X w0 r w L) [h : At b L [v] T f] [k : Ld1 P t] {K : Value → Prop} (hk : K v) : opQ P w (cellSem t (.pointer (some ⟨b, 0, none⟩))) K :=
  q_cell1 k.h (by rw [(S.blk b (h := h)).cell]; rfl) hk
theorem StX.ceB (S : StX X w0 r w L) [h : At b L c T f] [k : LdN P t n] {K : Value → Prop} (hk : K (.agg c.toArray)) (hc : c.length = n := by rfl) : opQ P w (cellSem t (.pointer (some ⟨b, 0, none⟩))) K :=
  q_cellB (by rw [hc]; exact k.h) (S.blk b (h := h)) hk
/-- what stays is read -/
theorem StX.rd (S : StX X w0 r w L) {q : Gh} {a : Addr} (h : Ob q fun w => w.cell? a = some v) [Le q r] [k : Ld1 P t] {K : Value → Prop} (hk : K v) : opQ P w (Instr.loadAt t (.pointer (some a))) K :=
  q_load k.h (S.at h) hk

theorem StX.alM (S : StX X w0 r w L) [z : ZrT P t c] {K : Value → World → Prop} (h : ∀ b w', b = w.heap.size → NC w w' → StX X w0 r w' (.cell b c t :: L) → K (.pointer (some ⟨b, 0, none⟩)) w') : opW P w (Instr.alloc t true (.tuple #[])) K :=
  w_alloc z.h fun b w' hb e _ B => h b w' hb (NC.of_ext e) (S.add e (by omega) B)
theorem StX.al (S : StX X w0 r w L) [z : ZrT P t c] {K : Value → World → Prop} (h : ∀ b w', StX X w0 r w' (.cell b c t :: L) → K (.pointer (some ⟨b, 0, none⟩)) w') : opW P w (Instr.alloc t true (.tuple #[])) K :=
  S.alM fun b w' _ _ => h b w'
theorem StX.boxM (S : StX X w0 r w L) {K : Value → World → Prop} (h : ∀ b w', b = w.heap.size → NC w w' → StX X w0 r w' (.cell b v.cells.toList t :: L) → K (.pointer (some ⟨b, 0, none⟩)) w') : opW P w (Instr.box t v) K :=
  w_box fun b w' hb e _ B => h b w' hb (NC.of_ext e) (S.add e (by omega) B)
theorem StX.box (S : StX X w0 r w L) {K : Value → World → Prop} (h : ∀ b w', StX X w0 r w' (.cell b v.cells.toList t :: L) → K (.pointer (some ⟨b, 0, none⟩)) w') : opW P w (Instr.box t v) K :=
  S.boxM fun b w' _ _ => h b w'
theorem StX.turnC (S : StX X w0 r w L) [h : At b L c T f] {w' : World} {c' : List Value} (e : ExtBut (· = b) w w') (B : Blk w' b c' T) : StX X w0 r w' (f c') := by
  obtain ⟨p, q, h1, h2⟩ := h.h
  rw [h2]
  rw [h1] at S
  exact S.turn (x := .cell b c T) (y := .cell b c' T) e B fun k hk => .inl hk
theorem StX.stM (S : StX X w0 r w L) [h : At b L c T f] [z : SzT P t 1] {K : World → Prop} (k : ∀ w', NC w w' → StX X w0 r w' (f (c.set i v)) → K w') (hl : i < c.length := by simp) (h1 : v.oneCell' = true := by rfl) : opU P w (Instr.storeAt t (.pointer (some ⟨b, i, none⟩)) v) K :=
  w_store1 z.h (S.blk b (h := h)) hl h1 fun w' x _ B => k w' (NC.of_b (S.blk b (h := h)) x) (S.turnC (h := h) x B)
theorem StX.st (S : StX X w0 r w L) [h : At b L c T f] [z : SzT P t 1] {K : World → Prop} (k : ∀ w', StX X w0 r w' (f (c.set i v)) → K w') (hl : i < c.length := by simp) (h1 : v.oneCell' = true := by rfl) : opU P w (Instr.storeAt t (.pointer (some ⟨b, i, none⟩)) v) K :=
  S.stM (h := h) (fun w' _ => k w') hl h1
theorem StX.stBM (S : StX X w0 r w L) [h : At b L c T f] [z : SzT P t n] {cs : Array Value} {K : World → Prop} (k : ∀ w', NC w w' → StX X w0 r w' (f cs.toList) → K w') (hl : c.length = n := by rfl) (hc : cs.size = n := by rfl) (h1 : ∀ u ∈ cs.toList, u.oneCell' = true := by simp [Value.oneCell']) : opU P w (Instr.storeAt t (.pointer (some ⟨b, 0, none⟩)) (.agg cs)) K :=
  w_storeB (v := .agg cs) (by rw [show (Value.agg cs).cells.size = n from hc]; exact z.h) (S.blk b (h := h)) (by rw [hl]; exact hc) h1 fun w' x _ B => k w' (NC.of_b (S.blk b (h := h)) x) (S.turnC (h := h) x B)
theorem StX.stB (S : StX X w0 r w L) [h : At b L c T f] [z : SzT P t n] {cs : Array Value} {K : World → Prop} (k : ∀ w', StX X w0 r w' (f cs.toList) → K w') (hl : c.length = n := by rfl) (hc : cs.size = n := by rfl) (h1 : ∀ u ∈ cs.toList, u.oneCell' = true := by simp [Value.oneCell']) : opU P w (Instr.storeAt t (.pointer (some ⟨b, 0, none⟩)) (.agg cs)) K :=
  S.stBM (h := h) (fun w' _ => k w') hl hc h1
theorem StX.stN (S : StX X w0 r w L) [h : At b L c T f] [z : SzT P t n] {cs : Array Value} {K : World → Prop} (k : ∀ w', StX X w0 r w' (f (c.take i ++ cs.toList ++ c.drop (i + n))) → K w') (hl : i + n ≤ c.length := by simp) (hc : cs.size = n := by rfl) (h1 : ∀ u ∈ cs.toList, u.oneCell' = true := by simp [Value.oneCell']) : opU P w (Instr.storeAt t (.pointer (some ⟨b, i, none⟩)) (.agg cs)) K :=
  w_store (v := .agg cs) (by rw [show (Value.agg cs).cells.size = n from hc]; exact z.h) (S.blk b (h := h)) (by rw [show (Value.agg cs).cells.size = n from hc]; exact hl) h1 fun w' x _ B => k w' (S.turnC (h := h) x (by rw [show (Value.agg cs).cells.size = n from hc] at B; exact B))

theorem StX.lit (S : StX X w0 r w L) {e : TypeId} {len : Nat} {parts : Array (Nat × Value)} {cs : List Value} {K : Value → World → Prop} (hT : bslT P t len parts = some (e, cs))
    (h : ∀ b w', StX X w0 r w' (.cell b cs e :: L) → K (.slice (some ⟨b, 0, none⟩) len len) w') : opW P w (Instr.buildSlice t len parts) K :=
  w_lit hT fun b w' hb e' _ B => h b w' (S.add e' (by omega) B)
/-- a slice of one's own grows -/
theorem StX.ownNil (S : StX X w0 r w L) (e : TypeId) (sz : Nat) : StX X w0 r w (.row (.slice none 0 0) e sz 0 [] :: L) := by
  refine ⟨S.x, S.holds, ?_, ?_, .cons (fun y _ k hk => by cases hk) S.apart⟩
  · intro x hx; rcases List.mem_cons.1 hx with rfl | hx
    · exact World.ownsRow_nil _ _ _ _
    · exact S.has x hx
  · intro x hx; rcases List.mem_cons.1 hx with rfl | hx
    · intro k hk; cases hk
    · exact S.mine x hx
theorem StX.apM (S : StX X w0 r w L) {e ty : TypeId} {sz by' m m' cap : Nat} {xs news : List Value} {p : Option Addr} {g : Asr → List Asr} [h : RowAt v L e sz m xs g] [z : ApT P t e sz by'] {K : Value → World → Prop}
    (hs : Sl w p news) (k : ∀ v' w', NC w w' → (v' = .slice none 0 0 ↔ v = .slice none 0 0 ∧ m' = 0) → StX X w0 r w' (g (.row v' e sz (m + m') (xs ++ news))) → K v' w')
    (hb : (m + m') * by' ≤ 140737488355328) (hl : news.length = m' * sz := by simp) (hp : p = none → cap = 0 := by simp) (h1 : ∀ u ∈ news, u.oneCell' = true := by simp [Value.oneCell']) : opW P w (Builtin.append_ #[t, t] ty #[v, .slice p m' cap]) K := by
  obtain ⟨pp, qq, h2, h3⟩ := h.h
  have hr := S.has (.row v e sz m xs) (by rw [h2]; simp)
  refine w_append z.h hr hs hl hp h1 hb (Nat.zero_le _) fun v' w' h4 h5 h6 h7 => k v' w' ?_ h7 ?_
  · refine NC.of_but h5 fun b hb => ?_
    rcases row_cases hr with h0 | ⟨g', cap', c', h8, h9, B, _⟩
    · rw [h0] at hb; cases hb
    · rw [h8] at hb; cases hb; exact ⟨_, _, B⟩
  · rw [h3]
    rw [h2] at S
    refine S.turn (x := .row v e sz m xs) (y := .row v' e sz (m + m') (xs ++ news)) h5 h4 fun j hj => ?_
    rw [Asr.dom] at hj
    rcases h6 with h6 | h6
    · rw [h6] at hj; exact .inl hj
    · rw [h6] at hj; cases hj; exact .inr (Nat.le_refl _)
theorem StX.ap (S : StX X w0 r w L) {e ty : TypeId} {sz by' m m' cap : Nat} {xs news : List Value} {p : Option Addr} {g : Asr → List Asr} [h : RowAt v L e sz m xs g] [z : ApT P t e sz by'] {K : Value → World → Prop}
    (hs : Sl w p news) (k : ∀ v' w', StX X w0 r w' (g (.row v' e sz (m + m') (xs ++ news))) → K v' w')
    (hb : (m + m') * by' ≤ 140737488355328) (hl : news.length = m' * sz := by simp) (hp : p = none → cap = 0 := by simp) (h1 : ∀ u ∈ news, u.oneCell' = true := by simp [Value.oneCell']) : opW P w (Builtin.append_ #[t, t] ty #[v, .slice p m' cap]) K :=
  S.apM (h := h) hs (fun v' w' _ _ => k v' w') hb hl hp h1
/-- .. and is told as one that stays -/
theorem StX.rowSl (S : StX X w0 r w L) {e : TypeId} {sz m : Nat} {xs : List Value} {g : Asr → List Asr} (v : Value) [h : RowAt v L e sz m xs g] : w.ownsRow 0 e sz v m xs := by
  obtain ⟨pp, qq, h2, h3⟩ := h.h
  exact S.has (.row v e sz m xs) (by rw [h2]; simp)
end

/-! ### Relations of a value with what it tells, in a memory that stays -/
abbrev Rl (α : Type) := Gh → Value → α → Prop
class Mono {α : Type} (R : Rl α) : Prop where
  up : ∀ {r s : Gh} {v : Value} {x : α}, (∀ b o, r b o → s b o) → R r v x → R s v x
theorem up {α : Type} {R : Rl α} {r s : Gh} {v : Value} {x : α} (h : R r v x) [m : Mono R] [l : Le r s] : R s v x := m.up l.le h
end Go.Sh
