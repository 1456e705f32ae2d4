/-
  More of the way of walking: a row of one's own as a cell; what is frozen.
-/
import Derived.Test.YtajllnahceaipaaDoorShF
namespace Go.Sh
open Go.RowKit
/-- no book-keeping among these -/
class NoBook (r : Gh) : Prop where
  h : ∀ b o, r b o → Obj.isBook o = false
instance {r s : Gh} [h : NoBook r] [k : NoBook s] : NoBook (r.or s) := ⟨fun b o x => x.elim (h.h b o) (k.h b o)⟩
instance {b : Nat} {c : List Value} {T : TypeId} : NoBook (one b c T) := ⟨fun _ _ h => by rw [h.2]; rfl⟩
instance : NoBook nothing := ⟨fun _ _ h => h.elim⟩
theorem c_t {c : Bool} {A B : Prop} (h : c = true) (a : A) : oCond (.bool c) A B := by subst h; exact a
theorem c_f {c : Bool} {A B : Prop} (h : c = false) (b : B) : oCond (.bool c) A B := by subst h; exact b
section
variable {P : Program} {X : Nat → Prop} {w0 w : World} {r : Gh} {L : List Asr}
/-- a row of one's own that is not empty is a cell -/
theorem StX.rowCell (S : StX X w0 r w L) {e : TypeId} {sz m : Nat} {xs : List Value} {g : Asr → List Asr} (v : Value) [h : RowAt v L e sz m xs g] (hm : m ≠ 0) :
    ∃ b cap c, v = .slice (some ⟨b, 0, none⟩) m cap ∧ m ≤ cap ∧ c.length = cap * sz ∧ c.take (m * sz) = xs ∧ StX X w0 r w (g (.cell b c e)) := by
  obtain ⟨pp, qq, h2, h3⟩ := h.h
  have hr := S.has (.row v e sz m xs) (by rw [h2]; simp)
  rcases own_blk hr with ⟨_, h0, _⟩ | ⟨b, cap, c, rfl, hb, B, hn, _, hc, ht⟩
  · exact absurd h0 hm
  · refine ⟨b, cap, c, rfl, hn, hc, ht, ?_⟩
    rw [h3]
    rw [h2] at S
    exact S.turn (x := .row _ e sz m xs) (y := .cell b c e) (ExtBut.refl _ _) B fun k hk => .inl (by cases hk; rfl)
theorem StX.swap {x y : Asr} (S : StX X w0 r w (x :: y :: L)) : StX X w0 r w (y :: x :: L) := by
  have hp : (y :: x :: L).Perm (x :: y :: L) := .swap x y L
  have ha := S.apart
  refine ⟨S.x, S.holds, fun z hz => S.has z (hp.subset hz), fun z hz => S.mine z (hp.subset hz), ?_⟩
  rw [List.pairwise_cons, List.pairwise_cons] at ha
  refine .cons (fun z hz k hk hk2 => ?_) (.cons (fun z hz => ha.1 z (List.mem_cons_of_mem _ hz)) ha.2.2)
  rcases List.mem_cons.1 hz with rfl | hz
  · exact ha.1 y List.mem_cons_self k hk2 hk
  · exact ha.2.1 z hz k hk hk2
theorem StX.tl {x : Asr} (S : StX X w0 r w (x :: L)) : StX X w0 r w L := S.less (fun _ _ h => h) (List.sublist_cons_self _ _)
theorem StX.to (S : StX X w0 r w L) (q : Gh) [l : Le q r] : StX X w0 q w L := S.less l.le (List.Sublist.refl _)
theorem StX.alU (S : StX X w0 r w L) {t : TypeId} {c : List Value} [z : ZrT P t c] {K : Value → World → Prop} (h : ∀ b w', StX X w0 r w' (.cell b c t :: L) → K (.pointer (some ⟨b, 0, none⟩)) w') :
    opW P w (Instr.alloc t true (.tuple #[])) fun t' w' => Ext w w' ∧ K t' w' :=
  w_alloc z.h fun b w' hb e _ B => ⟨e, h b w' (S.add e (by omega) B)⟩
theorem StX.boxU (S : StX X w0 r w L) {t : TypeId} {v : Value} {K : Value → World → Prop} (h : ∀ b w', StX X w0 r w' (.cell b v.cells.toList t :: L) → K (.pointer (some ⟨b, 0, none⟩)) w') :
    opW P w (Instr.box t v) fun t' w' => Ext w w' ∧ K t' w' :=
  w_box fun b w' hb e _ B => ⟨e, h b w' (S.add e (by omega) B)⟩
/-- a row of one's own, told as what stays -/
theorem row_gh {w w' : World} {e : TypeId} {sz n : Nat} {v : Value} {xs : List Value} (h : w'.ownsRow w.heap.size e sz v n xs) :
    ∃ s p cap, New w s w' ∧ NoBook s ∧ v = .slice p n cap ∧ (p = none → cap = 0) ∧ n ≤ cap ∧ (Ob s fun w => Sl w p xs) := by
  rcases own_blk h with ⟨rfl, rfl, rfl⟩ | ⟨g, cap, c, rfl, hg, B, h1, _, h3, h4⟩
  · exact ⟨nothing, none, 0, New.nothing, inferInstance, rfl, fun _ => rfl, Nat.le_refl _, fun w _ => Sl.nil w _⟩
  · refine ⟨one g c e, _, cap, New.one B hg, inferInstance, rfl, by simp, h1, fun w k => ?_⟩
    rw [← h4]; exact (Sl.blk (one_blk w k)).take _
/-- a range that a round may leave by an exit -/
theorem r_exit {w : World} {n id : Nat} {g : Value} {round : List Value → World → (Nat → Prop) → (Exit → World → Prop) → Prop} {Kn Kr Kb : World → Prop}
    (xs : List (List Value)) (S : Nat → Prop) (J : Nat → World → Prop) (Jb : World → Prop)
    (hS : ∀ b, S b → ∃ o, w.heap[b]? = some o ∧ Obj.isBook o = false) (hI : IterC P g w xs S) (hn : ∀ x ∈ xs, x.length = n)
    (n0 : ∀ k W W', J k W → Nl w.heap.size W W' → J k W') (nb : ∀ W W', Jb W → Nl w.heap.size W W' → Jb W') (h0 : J 0 w)
    (hr : ∀ k x W, xs[k]? = some x → J k W → ∀ KR : Exit → World → Prop, (∀ W2, J (k + 1) W2 → KR .normal W2) → (∀ W2, Jb W2 → KR (.exit id) W2) → round x W S KR)
    (kn : ∀ W, J xs.length W → Kn W) (kb : ∀ W, Jb W → Kb W) : oRange P n g w round Kn Kr [(id, Kb)] := by
  refine ⟨xs, S, J, fun e W => match e with | .exit i => i = id ∧ Jb W | _ => False, hS, hI, hn, n0, ?_, h0, ?_, kn, fun W h => h.elim, ?_, fun l W h => h⟩
  · intro e W W' h1 h2
    cases e <;> first | exact h1.elim | exact ⟨h1.1, nb W W' h1.2 h2⟩
  · intro k x W hx hJ
    exact hr k x W hx hJ _ (fun W2 hj => hj) (fun W2 hj => ⟨rfl, hj⟩)
  · rintro i W ⟨rfl, h⟩
    exact ⟨Kb, by simp, kb W h⟩
/-! ### With marks: no block of book-keeping turns -/
section
variable {t T : TypeId} {b i n : Nat} {c : List Value} {v : Value} {f : List Value → List Asr}
theorem StX.alN (S : StX X w0 r w L) [z : ZrT P t c] {K : Value → World → Prop} (h : ∀ b w', b = w.heap.size → StX X w0 r w' (.cell b c t :: L) → K (.pointer (some ⟨b, 0, none⟩)) w') :
    opW P w (Instr.alloc t true (.tuple #[])) fun t' w' => NC w w' ∧ K t' w' := S.alM fun b w' hb nc S => ⟨nc, h b w' hb S⟩
theorem StX.boxN (S : StX X w0 r w L) {K : Value → World → Prop} (h : ∀ b w', b = w.heap.size → StX X w0 r w' (.cell b v.cells.toList t :: L) → K (.pointer (some ⟨b, 0, none⟩)) w') :
    opW P w (Instr.box t v) fun t' w' => NC w w' ∧ K t' w' := S.boxM fun b w' hb nc S => ⟨nc, h b w' hb S⟩
theorem StX.stN' (S : StX X w0 r w L) [h : At b L c T f] [z : SzT P t 1] {K : World → Prop} (k : ∀ w', StX X w0 r w' (f (c.set i v)) → K w') (hl : i < c.length := by simp) (h1 : v.oneCell' = true := by rfl) :
    opU P w (Instr.storeAt t (.pointer (some ⟨b, i, none⟩)) v) fun w' => NC w w' ∧ K w' := S.stM (h := h) (fun w' nc S => ⟨nc, k w' S⟩) hl h1
theorem StX.stBN (S : StX X w0 r w L) [h : At b L c T f] [z : SzT P t n] {cs : Array Value} {K : World → Prop} (k : ∀ w', StX X w0 r w' (f cs.toList) → K w') (hl : c.length = n := by rfl) (hc : cs.size = n := by rfl)
    (h1 : ∀ u ∈ cs.toList, u.oneCell' = true := by simp [Value.oneCell']) :
    opU P w (Instr.storeAt t (.pointer (some ⟨b, 0, none⟩)) (.agg cs)) fun w' => NC w w' ∧ K w' := S.stBM (h := h) (fun w' nc S => ⟨nc, k w' S⟩) hl hc h1
theorem StX.litN (S : StX X w0 r w L) {e : TypeId} {len : Nat} {parts : Array (Nat × Value)} {cs : List Value} {K : Value → World → Prop} (hT : bslT P t len parts = some (e, cs))
    (h : ∀ b w', StX X w0 r w' (.cell b cs e :: L) → K (.slice (some ⟨b, 0, none⟩) len len) w') : opW P w (Instr.buildSlice t len parts) fun t' w' => NC w w' ∧ K t' w' :=
  w_lit hT fun b w' hb e' _ B => ⟨NC.of_ext e', h b w' (S.add e' (by omega) B)⟩
end
theorem StX.dlt (S : StX X w0 r w L) {b : Nat} (h : doms L b) : b < w.heap.size := by
  obtain ⟨x, hx, hd⟩ := doms_mem.1 h; exact Asr.lt (S.has x hx) hd
theorem StX.dge (S : StX noX w0 r w L) {b : Nat} (h : doms L b) : w0.heap.size ≤ b := by
  obtain ⟨x, hx, hd⟩ := doms_mem.1 h; exact (S.mine x hx b hd).1.resolve_right id
/-- all of it lies below, or is no book-keeping -/
class Low (n : Nat) (r : Gh) : Prop where
  h : ∀ b o, r b o → b < n ∨ Obj.isBook o = false
instance {n : Nat} {r s : Gh} [h : Low n r] [k : Low n s] : Low n (r.or s) := ⟨fun b o x => x.elim (h.h b o) (k.h b o)⟩
instance (priority := low) {n : Nat} {r : Gh} [h : NoBook r] : Low n r := ⟨fun b o x => .inr (h.h b o x)⟩
theorem StX.low (S : StX X w0 r w L) : Low w.heap.size r := ⟨fun _ _ x => .inl (S.holds.lt x)⟩
theorem StX.nl (S : StX X w0 r w L) {n : Nat} {w' : World} (e : Nl n w w') (hn : w0.heap.size ≤ n) [l : Low n r] : StX X w0 r w' L := S.nlX hn l.h e
/-- the end of a walk with marks -/
theorem StX.shut (S : StX X w0 r w L) {w' : World} (e : Shuts w0.heap.size w w') [l : Low w0.heap.size r] : StX X w0 r w' L := by
  have hb : ∀ b o, w.heap[b]? = some o → (b < w0.heap.size ∨ Obj.isBook o = false) → w'.heap[b]? = some o := fun b o h hh => by
    rw [e.block b (hh.imp id fun hh ds hd => by rw [h] at hd; cases hd; cases hh)]; exact h
  exact S.nlX (Nat.le_refl _) l.h ⟨e.os, e.tape, e.output, Nat.le_of_eq e.size.symm, hb⟩
end
end Go.Sh
