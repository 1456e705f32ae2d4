/-
  More of the way of walking: a row of one's own as a cell; what is frozen.
-/
import Derived.Test.YtgbfpnnimnjbdaaDoorShF
namespace Go.Sh
open Go.RowKit
theorem c_t {c : Bool} {A B : Prop} (h : c = true) (a : A) : oCond (.bool c) A B := by subst h; exact a
theorem c_f {c : Bool} {A B : Prop} (h : c = false) (b : B) : oCond (.bool c) A B := by subst h; exact b
section
variable {P : Program} {w0 w : World} {r : Gh} {L : List Asr}
/-- a row of one's own that is not empty is a cell -/
theorem St.rowCell (S : St w0 r w L) {e : TypeId} {sz m : Nat} {xs : List Value} {g : Asr → List Asr} (v : Value) [h : RowAt v L e sz m xs g] (hm : m ≠ 0) :
    ∃ b cap c, v = .slice (some ⟨b, 0, none⟩) m cap ∧ m ≤ cap ∧ c.length = cap * sz ∧ c.take (m * sz) = xs ∧ St w0 r w (g (.cell b c e)) := by
  obtain ⟨pp, qq, h2, h3⟩ := h.h
  have hr := S.has (.row v e sz m xs) (by rw [h2]; simp)
  rcases own_blk hr with ⟨_, h0, _⟩ | ⟨b, cap, c, rfl, hb, B, hn, _, hc, ht⟩
  · exact absurd h0 hm
  · refine ⟨b, cap, c, rfl, hn, hc, ht, ?_⟩
    rw [h3]
    rw [h2] at S
    exact S.turn (x := .row _ e sz m xs) (y := .cell b c e) (ExtBut.refl _ _) B fun k hk => .inl (by cases hk; rfl)
theorem St.swap {x y : Asr} (S : St w0 r w (x :: y :: L)) : St w0 r w (y :: x :: L) := by
  have hp : (y :: x :: L).Perm (x :: y :: L) := .swap x y L
  have ha := S.apart
  refine ⟨S.ext, S.holds, fun z hz => S.has z (hp.subset hz), fun z hz => S.mine z (hp.subset hz), ?_⟩
  rw [List.pairwise_cons, List.pairwise_cons] at ha
  refine .cons (fun z hz k hk hk2 => ?_) (.cons (fun z hz => ha.1 z (List.mem_cons_of_mem _ hz)) ha.2.2)
  rcases List.mem_cons.1 hz with rfl | hz
  · exact ha.1 y List.mem_cons_self k hk2 hk
  · exact ha.2.1 z hz k hk hk2
theorem St.tl {x : Asr} (S : St w0 r w (x :: L)) : St w0 r w L := S.less (fun _ _ h => h) (List.sublist_cons_self _ _)
theorem St.to (S : St w0 r w L) (q : Gh) [l : Le q r] : St w0 q w L := S.less l.le (List.Sublist.refl _)
theorem St.alU (S : St w0 r w L) {t : TypeId} {c : List Value} [z : ZrT P t c] {K : Value → World → Prop} (h : ∀ b w', St w0 r w' (.cell b c t :: L) → K (.pointer (some ⟨b, 0, none⟩)) w') :
    opW P w (Instr.alloc t true (.tuple #[])) fun t' w' => Ext w w' ∧ K t' w' :=
  w_alloc z.h fun b w' hb e _ B => ⟨e, h b w' (S.add e (by omega) B)⟩
theorem St.boxU (S : St w0 r w L) {t : TypeId} {v : Value} {K : Value → World → Prop} (h : ∀ b w', St w0 r w' (.cell b v.cells.toList t :: L) → K (.pointer (some ⟨b, 0, none⟩)) w') :
    opW P w (Instr.box t v) fun t' w' => Ext w w' ∧ K t' w' :=
  w_box fun b w' hb e _ B => ⟨e, h b w' (S.add e (by omega) B)⟩
end
end Go.Sh
