/-
  More of the way of walking: literals in a drawn region, cells that come to stay, rows that are given and taken.
-/
import Derived.Test.YtajllnahceaipaaDoorShK
namespace Go.Sh
section
variable {P : Program} {X : Nat → Prop} {w0 w w' : World} {r s : Gh} {L : List Asr} {t e : TypeId} {sz n m : Nat} {v : Value} {xs : List Value}
theorem StX.litU (S : StX X w0 r w L) {e : TypeId} {len : Nat} {parts : Array (Nat × Value)} {cs : List Value} {K : Value → World → Prop} (hT : bslT P t len parts = some (e, cs))
    (h : ∀ b w', StX X w0 r w' (.cell b cs e :: L) → K (.slice (some ⟨b, 0, none⟩) len len) w') : opW P w (Instr.buildSlice t len parts) fun t' w' => Ext w w' ∧ K t' w' :=
  w_lit hT fun b w' hb e' _ B => ⟨e', h b w' (S.add e' (by omega) B)⟩
/-- a cell of one's own comes to stay -/
theorem StX.frz {b : Nat} {c : List Value} {T : TypeId} (S : StX X w0 r w (.cell b c T :: L)) : StX X w0 (r.or (one b c T)) w L := by
  have B : Blk w b c T := S.has _ (List.mem_cons_self ..)
  refine ⟨S.x, S.holds.or (one_holds B), fun x hx => S.has x (List.mem_cons_of_mem _ hx), fun x hx k hk => ⟨(S.mine x (List.mem_cons_of_mem _ hx) k hk).1, fun o ho => ?_⟩, (List.pairwise_cons.1 S.apart).2⟩
  rcases ho with ho | ⟨rfl, _⟩
  · exact (S.mine x (List.mem_cons_of_mem _ hx) k hk).2 o ho
  · exact (List.pairwise_cons.1 S.apart).1 x hx k rfl hk
/-- a row that a call has made is one's own -/
theorem StX.take (S : StX X w0 r w L) (E : Ext w w') (h : w'.ownsRow w.heap.size e sz v n xs) : StX X w0 r w' (.row v e sz n xs :: L) := by
  have S' := S.go E
  have hb : ∀ k, v.ownBlock = some k → w.heap.size ≤ k := fun k hk => by
    rcases row_cases h with h0 | ⟨g, cap, c, h1, _, _, h2⟩
    · rw [h0] at hk; cases hk
    · rw [h1] at hk; cases hk; exact h2
  refine ⟨S'.x, S'.holds, ?_, ?_, .cons ?_ S'.apart⟩
  · intro x hx; rcases List.mem_cons.1 hx with rfl | hx
    · rcases h with ⟨hl, h | ⟨g, cap, cur, rfl, _, hg⟩⟩
      · exact ⟨hl, .inl h⟩
      · exact ⟨hl, .inr ⟨g, cap, cur, rfl, Nat.zero_le _, hg⟩⟩
    · exact S'.has x hx
  · intro x hx; rcases List.mem_cons.1 hx with rfl | hx
    · intro k hk
      have := hb k hk
      exact ⟨.inl (by have := S.x.size; omega), fun o ho => by have := S.holds.lt ho; omega⟩
    · exact S'.mine x hx
  · intro y hy k hk hk2
    have := hb k hk
    have := Asr.lt (S.has y hy) hk2
    omega
/-- a row of one's own is given as one that the call has made -/
theorem StX.give {f : Asr → List Asr} (S : StX noX w0 r w L) (v : Value) [h : RowAt v L e sz n xs f] : w.ownsRow w0.heap.size e sz v n xs := by
  obtain ⟨p, q, h2, h3⟩ := h.h
  have hx := S.has (.row v e sz n xs) (by rw [h2]; simp)
  have hm := S.mine (.row v e sz n xs) (by rw [h2]; simp)
  rcases hx with ⟨hl, hx | ⟨g, cap, cur, rfl, hb, hg⟩⟩
  · exact ⟨hl, .inl hx⟩
  · exact ⟨hl, .inr ⟨g, cap, cur, rfl, (hm g rfl).1.resolve_right id, hg⟩⟩
theorem own_shape {base : Nat} (h : w.ownsRow base e sz v n xs) : ∃ p cap, v = .slice p n cap ∧ (p = none → cap = 0) ∧ n ≤ cap ∧ xs.length = n * sz ∧ Sl w p xs := by
  have hl := h.1
  rcases own_blk h with ⟨rfl, rfl, rfl⟩ | ⟨g, cap, c, rfl, hg, B, h1, _, h3, h4⟩
  · exact ⟨none, 0, rfl, fun _ => rfl, Nat.le_refl _, hl, Sl.nil _ _⟩
  · exact ⟨_, cap, rfl, by simp, h1, hl, by rw [← h4]; exact (Sl.blk B).take _⟩
theorem StX.rowS {f : Asr → List Asr} (S : StX X w0 r w L) (v : Value) [h : RowAt v L e sz n xs f] : ∃ p cap, v = .slice p n cap ∧ (p = none → cap = 0) ∧ n ≤ cap ∧ xs.length = n * sz ∧ Sl w p xs :=
  own_shape (S.rowSl v (h := h))
theorem StX.row1 {f : Asr → List Asr} (S : StX X w0 r w L) (v : Value) [h : RowAt v L e sz n xs f] : v.oneCell' = true := by
  obtain ⟨p, cap, rfl, _⟩ := S.rowS v (h := h); rfl
/-- a load that may change places with a store -/
theorem w_q {P : Program} {w : World} {s : Sem Value} {K : Value → World → Prop} (h : opQ P w s fun v => K v w) : opW P w s K := by
  obtain ⟨v, h1, h2⟩ := h
  exact ⟨v, w, h1 w (Ext.refl w), h2⟩
theorem w_qE {P : Program} {w : World} {s : Sem Value} {K : Value → World → Prop} (h : opQ P w s fun v => K v w) : opW P w s fun v w' => Ext w w' ∧ K v w' := w_q (by
  obtain ⟨v, h1, h2⟩ := h
  exact ⟨v, h1, Ext.refl w, h2⟩)
/-- a literal is a row -/
theorem StX.toRow {b : Nat} {c : List Value} (S : StX X w0 r w (.cell b c e :: L)) (n sz : Nat) (hc : c.length = n * sz) (hm : n ≤ maxLen) : StX X w0 r w (.row (.slice (some ⟨b, 0, none⟩) n n) e sz n c :: L) := by
  have B : Blk w b c e := S.has _ (List.mem_cons_self ..)
  refine S.turn (p := []) (x := .cell b c e) (y := .row _ e sz n c) (ExtBut.refl _ _) ?_ fun k hk => .inl (by cases hk; rfl)
  have := own_of_blk (base := 0) (Nat.zero_le _) B (Nat.le_refl n) hm hc
  rwa [List.take_of_length_le (by omega)] at this
end
end Go.Sh
