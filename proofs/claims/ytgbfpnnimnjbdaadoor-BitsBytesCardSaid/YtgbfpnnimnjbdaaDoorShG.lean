/-
  More of the way of walking: a row of one's own as a cell; what is frozen.
-/
import Derived.Test.YtgbfpnnimnjbdaaDoorShF
namespace Go.Sh
open Go.RowKit
section
variable {P : Program} {w0 w : World} {r : Gh} {L : List Asr}
/-- a row of one's own that is not empty is a cell -/
theorem St.rowCell (S : St w0 r w L) {e : TypeId} {sz m : Nat} {xs : List Value} {g : Asr → List Asr} (v : Value) [h : RowAt v L e sz m xs g] (hm : m ≠ 0) :
    ∃ b cap c, v = .slice (some ⟨b, 0, none⟩) m cap ∧ m ≤ cap ∧ c.length = cap * sz ∧ c.take (m * sz) = xs ∧ St w0 r w (g (.cell b c e)) := by
  obtain ⟨pp, qq, h2, h3⟩ := h.h
  have hr := S.has (.row v e sz m xs) (by rw [h2]; simp)
  rcases own_blk hr with ⟨_, h0, _⟩ | ⟨b, cap, c, rfl, hb, B, hn, _, hc, ht⟩
  · exact absurd h0 hm
  · refine ⟨b, cap, c, rfl, hn, hc, ht, ?_⟩
    rw [h3]
    rw [h2] at S
    exact S.turn (x := .row _ e sz m xs) (y := .cell b c e) (ExtBut.refl _ _) B fun k hk => .inl (by cases hk; rfl)
end
end Go.Sh
