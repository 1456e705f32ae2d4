/-
  Data as such: what a value tells in a memory that stays, whatever its type: numbers, texts, structs, slices.
-/
import Derived.Test.YtajllnahceaipaaDoorShH
namespace Go.Sh
open Go.RowKit

inductive Dat where
  | int (k : IntKind) (n : Int)
  | bool (b : Bool)
  | str (s : ByteArray)
  | agg (fs : List Dat)
  | sl (sz : Nat) (es : List Dat)

/-- cells of an element of a slice -/
def CellsAt (r : Gh) (p : Option Addr) (n : Nat) (c : List Value) : Prop :=
  ∀ j v, c[j]? = some v → ∃ b off, p = some ⟨b, off, none⟩ ∧ Ob r fun w => w.cell? ⟨b, off + n + j, none⟩ = some v
mutual
def Rep (r : Gh) : Dat → List Value → Prop
  | .int k n, cs => cs = [.int k n]
  | .bool b, cs => cs = [.bool b]
  | .str s, cs => cs = [.string s]
  | .agg fs, cs => RepA r fs cs
  | .sl sz es, cs => ∃ p cap, cs = [.slice p es.length cap] ∧ (p = none → cap = 0) ∧ es.length ≤ cap ∧ RepS r sz p 0 es
def RepA (r : Gh) : List Dat → List Value → Prop
  | [], cs => cs = []
  | d :: ds, cs => ∃ a b, cs = a ++ b ∧ Rep r d a ∧ RepA r ds b
def RepS (r : Gh) (sz : Nat) (p : Option Addr) : Nat → List Dat → Prop
  | _, [] => True
  | i, d :: ds => (∃ c, c.length = sz ∧ CellsAt r p (i * sz) c ∧ Rep r d c) ∧ RepS r sz p (i + 1) ds
end
theorem CellsAt.up {r s : Gh} {p : Option Addr} {n : Nat} {c : List Value} (h : CellsAt r p n c) (l : Le r s) : CellsAt s p n c := fun j v hj => by
  obtain ⟨b, off, h1, h2⟩ := h j v hj
  exact ⟨b, off, h1, h2.up⟩
mutual
theorem Rep.up' {r s : Gh} (l : Le r s) : ∀ {d : Dat} {cs : List Value}, Rep r d cs → Rep s d cs
  | .int _ _, _, h => h
  | .bool _, _, h => h
  | .str _, _, h => h
  | .agg fs, _, h => RepA.up' l (fs := fs) h
  | .sl _ es, _, h => by
    obtain ⟨p, cap, h1, h2, h3, h4⟩ := h
    exact ⟨p, cap, h1, h2, h3, RepS.up' l (es := es) h4⟩
theorem RepA.up' {r s : Gh} (l : Le r s) : ∀ {fs : List Dat} {cs : List Value}, RepA r fs cs → RepA s fs cs
  | [], _, h => h
  | d :: ds, _, h => by
    obtain ⟨a, b, h1, h2, h3⟩ := h
    exact ⟨a, b, h1, Rep.up' l (d := d) h2, RepA.up' l (fs := ds) h3⟩
theorem RepS.up' {r s : Gh} (l : Le r s) {sz : Nat} {p : Option Addr} : ∀ {i : Nat} {es : List Dat}, RepS r sz p i es → RepS s sz p i es
  | _, [], _ => trivial
  | _, d :: ds, h => by
    obtain ⟨⟨c, h1, h2, h3⟩, h4⟩ := h
    exact ⟨⟨c, h1, h2.up l, Rep.up' l (d := d) h3⟩, RepS.up' l (es := ds) h4⟩
end
theorem Rep.up {r s : Gh} {d : Dat} {cs : List Value} (h : Rep r d cs) [l : Le r s] : Rep s d cs := Rep.up' l h
theorem RepS.up {r s : Gh} {sz i : Nat} {p : Option Addr} {es : List Dat} (h : RepS r sz p i es) [l : Le r s] : RepS s sz p i es := RepS.up' l h
theorem RepS.get {r : Gh} {sz : Nat} {p : Option Addr} : ∀ {es : List Dat} {k i : Nat} {d : Dat}, RepS r sz p k es → es[i]? = some d → ∃ c, c.length = sz ∧ CellsAt r p ((k + i) * sz) c ∧ Rep r d c
  | [], _, _, _, _, h => by cases h
  | e :: es, k, 0, d, h, hi => by simp only [List.getElem?_cons_zero, Option.some.injEq] at hi; subst hi; exact h.1
  | e :: es, k, i + 1, d, h, hi => by
    have := RepS.get (i := i) h.2 hi
    rw [show k + 1 + i = k + (i + 1) by omega] at this; exact this
theorem RepS.of {r : Gh} {sz : Nat} {p : Option Addr} : ∀ {es : List Dat} {k : Nat}, (∀ i d, es[i]? = some d → ∃ c, c.length = sz ∧ CellsAt r p ((k + i) * sz) c ∧ Rep r d c) → RepS r sz p k es
  | [], _, _ => trivial
  | e :: es, k, h => ⟨h 0 e rfl, RepS.of (es := es) (k := k + 1) fun i d hi => by
    have := h (i + 1) d hi
    rw [show k + (i + 1) = k + 1 + i by omega] at this; exact this⟩
/-- an element, to be read -/
theorem RepS.at {X : Nat → Prop} {w0 w : World} {r q : Gh} {L : List Asr} (S : StX X w0 r w L) {sz : Nat} {p : Option Addr} {es : List Dat} (h : RepS q sz p 0 es) [l : Le q r] {i : Nat} (hi : i < es.length) (hz : 0 < sz) :
    ∃ b off c, p = some ⟨b, off, none⟩ ∧ c.length = sz ∧ (∀ j v, c[j]? = some v → w.cell? ⟨b, off + i * sz + j, none⟩ = some v) ∧ Rep q es[i] c := by
  obtain ⟨c, h1, h2, h3⟩ := h.get (i := i) (List.getElem?_eq_getElem hi)
  obtain ⟨b, off, rfl, _⟩ := h2 0 c[0] (List.getElem?_eq_getElem (by omega))
  refine ⟨b, off, c, rfl, h1, fun j v hj => ?_, h3⟩
  obtain ⟨b', off', hp, ho⟩ := h2 j v hj
  cases hp
  have := S.at ho
  rwa [Nat.zero_add] at this
/-! ### The shapes -/
theorem rep_int {r : Gh} {k : IntKind} {n : Int} {cs : List Value} (h : Rep r (.int k n) cs) : cs = [.int k n] := h
theorem rep_agg {r : Gh} {d : Dat} {ds : List Dat} {cs : List Value} (h : RepA r (d :: ds) cs) : ∃ a b, cs = a ++ b ∧ Rep r d a ∧ RepA r ds b := h
/-- a value of a type, as a walk hands it about -/
def RepV (r : Gh) (v : Value) (d : Dat) : Prop := Rep r d v.cells.toList
theorem RepV.up {r s : Gh} {v : Value} {d : Dat} (h : RepV r v d) [l : Le r s] : RepV s v d := Rep.up' l h

end Go.Sh
