/-
  Rows of bits in a memory that stays.
-/
import Derived.Test.YtgbfpnnimnjbdaaDoorCk
import Derived.Test.YtgbfpnnimnjbdaaDoorShG
namespace Go.Proofs
open Go.Sh Go.BM
set_option maxRecDepth 100000

theorem RowV.all {w : World} {v : Value} {W : Int} {ws : List (BitVec 64)} (h : RowV w v W ws) : Ob (all w) fun w' => RowV w' v W ws := fun w' k => by
  obtain ⟨p, cap, h1, h2, h3⟩ := h
  exact ⟨p, cap, h1, h2.all w' k, h3⟩
theorem Tab.all {w : World} (h : Tab w) : Ob (all w) Tab := fun w' k j hj => cell_all (h j hj) w' k
/-- a row whose words lie in just that -/
def Mut (s : Gh) (v : Value) (W : Int) (ws : List (BitVec 64)) : Prop :=
  ∃ p cap, v = .agg #[.int .i64 W, .slice p ws.length cap] ∧ (p = none → cap = 0) ∧ ws.length ≤ cap ∧
    ((ws = [] ∧ s = nothing) ∨ ∃ g c, p = some ⟨g, 0, none⟩ ∧ s = one g c Tryd.t_uint64 ∧ c.take ws.length = ws.map u64)
theorem Mut.shape {s : Gh} {v : Value} {W : Int} {ws : List (BitVec 64)} (h : Mut s v W ws) : ∃ p cap, v = .agg #[.int .i64 W, .slice p ws.length cap] := by
  obtain ⟨p, cap, h1, _⟩ := h; exact ⟨p, cap, h1⟩
theorem Mut.row {s : Gh} {v : Value} {W : Int} {ws : List (BitVec 64)} (h : Mut s v W ws) : Ob s fun w => RowV w v W ws := fun w k => by
  obtain ⟨p, cap, h1, h2, h3, ⟨rfl, _⟩ | ⟨g, c, rfl, rfl, hc⟩⟩ := h
  · exact ⟨p, cap, h1, Sl.nil _ _, h2, h3⟩
  · exact ⟨_, cap, h1, by rw [← hc]; exact (Sl.blk (one_blk w k)).take _, h2, h3⟩
theorem FreshRow.gh {w w' : World} {v : Value} {W : Int} {ws : List (BitVec 64)} (h : FreshRow w' w.heap.size v W ws) : ∃ s, New w s w' ∧ Mut s v W ws := by
  obtain ⟨p, cap, h1, h2, h3, rfl | ⟨g, c, rfl, hg, B, hc⟩⟩ := h
  · exact ⟨nothing, New.nothing, p, cap, h1, h2, h3, .inl ⟨rfl, rfl⟩⟩
  · exact ⟨one g c Tryd.t_uint64, New.one B hg, _, cap, h1, h2, h3, .inr ⟨g, c, rfl, rfl, hc⟩⟩
/-- two rows that were told, the same, and the one that it must be: the one is written over -/
theorem k_heldG {w0 w : World} {r q sa : Gh} {L : List Asr} {va vb vc : Value} {W : Int} {ws : List (BitVec 64)} {K : Value → World → Prop} (S : St w0 r w L)
    (ha : Mut sa va W ws) (hb : Ob q fun w => RowV w vb W ws) (hc : Ob q fun w => RowV w vc W ws) (d : Dis sa q) (u : Above w0 sa) [la : Le sa r] [lq : Le q r] (hlen : ws.length < 9223372036854775807)
    (h : ∀ w', NC w w' → St w0 q w' L → K (.bool true) w') : oCall Tryd.prog Tryd.n_law01_held #[va, vb, vc] w K := by
  have rowS : ∀ v, Ob q (fun w => RowV w v W ws) → RowS (fun b => ∃ o, sa b o) w v W ws := fun v hv => by
    obtain ⟨p, cap, h1, h2, h3, h4⟩ := S.at (l := lq) hv
    refine ⟨p, cap, h1, h2, h3, h4, fun hne b off hp hs => ?_⟩
    subst hp
    have hl : 0 < (ws.map u64).length := by rw [List.length_map]; exact List.length_pos_iff.2 hne
    obtain ⟨b', off', hp', hcell⟩ := h2.at hl
    cases hp'
    obtain ⟨o, ho⟩ := hs
    by_cases hq : ∃ o', q b o'
    · obtain ⟨o', hq⟩ := hq; exact d b o o' ho hq
    · have hqn : ∀ o', ¬ q b o' := fun o' h' => hq ⟨o', h'⟩
      -- a world that holds q, the block that 'sa' has turned
      obtain ⟨p', cap', h1', h2', _⟩ := hv { w with heap := w.heap.setIfInBounds b (.deferred none) } (fun k o' ho' => by
        have hk : k ≠ b := fun hk => hqn o' (hk ▸ ho')
        have := S.holds k o' (lq.le k o' ho')
        show (w.heap.setIfInBounds b (.deferred none))[k]? = some o'
        rw [Array.getElem?_setIfInBounds_ne (Ne.symm hk)]; exact this)
      rw [h1] at h1'
      simp only [Value.agg.injEq, Array.mk.injEq, List.cons.injEq, Value.slice.injEq, true_and, and_true] at h1'
      obtain ⟨rfl, rfl⟩ := h1'
      obtain ⟨b2, off2, hp2, hc2⟩ := h2'.at hl
      cases hp2
      have hbl := S.holds.lt (la.le b o ho)
      simp [World.cell?, hbl] at hc2
  obtain ⟨pa, cap, h1, h2, h3, hcase⟩ := ha
  rcases hcase with ⟨rfl, rfl⟩ | ⟨g, c, rfl, rfl, hcc⟩
  · refine c_law01_held (n := 0) (m := 0) (ws := []) ⟨pa, cap, h1, h2, h3, .inl rfl⟩ (fun hn => absurd rfl hn) (Nat.zero_le _) ?_ ?_ (by decide) fun w' x => ?_
    · obtain ⟨p, cap, h1, h2, h3, h4, _⟩ := rowS vb hb; exact ⟨p, cap, h1, h2, h3, h4, fun hn => absurd rfl hn⟩
    · obtain ⟨p, cap, h1, h2, h3, h4, _⟩ := rowS vc hc; exact ⟨p, cap, h1, h2, h3, h4, fun hn => absurd rfl hn⟩
    · exact h w' (NC.of_but x fun b hx => by omega) (S.but x (fun b o hb => ⟨lq.le b o hb, fun hx => by omega⟩) (fun b hx => by omega) (fun _ _ k _ hx => by omega))
  · have hx : ∀ b, (g ≤ b ∧ b < g + 1) ↔ b = g := fun b => by omega
    have B : Blk w g c Tryd.t_uint64 := S.at (l := la) one_blk
    have toS : ∀ v, RowS (fun b => ∃ o, one g c Tryd.t_uint64 b o) w v W ws → RowS (fun b => g ≤ b ∧ b < g + 1) w v W ws := fun v hv => by
      obtain ⟨p, cap, h1, h2, h3, h4, h5⟩ := hv
      exact ⟨p, cap, h1, h2, h3, h4, fun hne b off hp hs => h5 hne b off hp ⟨_, (hx b).1 hs, rfl⟩⟩
    refine c_law01_held (n := g) (m := g + 1) ⟨_, cap, h1, h2, h3, .inr ⟨g, c, rfl, Nat.le_refl _, B, hcc⟩⟩ (fun _ b cap' hv => ?_) B.lt (toS _ (rowS vb hb)) (toS _ (rowS vc hc)) hlen fun w' x => ?_
    · rw [h1] at hv; cases hv; omega
    · refine h w' (NC.of_but x fun b hxb => ⟨c, _, (hx b).1 hxb ▸ B⟩) (S.but x (fun b o hb => ⟨lq.le b o hb, fun hxb => ?_⟩) (fun b hxb => ?_) (fun y hy k hk hxb => ?_))
      · have := (hx b).1 hxb; subst this
        exact d b _ o ⟨rfl, rfl⟩ hb
      · have := (hx b).1 hxb; subst this
        exact u b _ ⟨rfl, rfl⟩
      · have := (hx k).1 hxb; subst this
        exact (S.mine y hy k hk).2 _ (la.le k _ ⟨rfl, rfl⟩)
/-- a row is told and laid into a new cell, whichever comes first -/
theorem k_tell {w0 w : World} {r : Gh} {L : List Asr} {f : FuncId} {args : Array Value} {O : RwO} {K' : List Value → World → Prop} (S : St w0 r w L)
    (HC : ∀ w', Ext w w' → ∀ K : Value → World → Prop, (∀ v w'', Ext w' w'' → FreshRow w'' w'.heap.size v O.W O.ws → K (.tuple #[v, err O.e]) w'') → oCall Tryd.prog f args w' K)
    (k : ∀ b p cap s w', St w0 (r.or s) w' (.cell b [.int .i64 O.W, .slice p O.ws.length cap] Tryd.t_Row :: L) → Mut s (.agg #[.int .i64 O.W, .slice p O.ws.length cap]) O.W O.ws → Dis s r → Above w0 s → K' [.pointer (some ⟨b, 0, none⟩), err O.e] w') :
    (oCall Tryd.prog f args w fun t w1 => opP Tryd.prog (Instr.extract t 0) fun t1 => opP Tryd.prog (Instr.extract t 1) fun t2 => opW Tryd.prog w1 (Instr.alloc Tryd.t_Row true (.tuple #[])) fun t3 w2 => Ext w1 w2 ∧
      opU Tryd.prog w2 (Instr.storeAt Tryd.t_Row t3 t1) fun w3 => K' [t3, t2] w3) ∧
    (opW Tryd.prog w (Instr.alloc Tryd.t_Row true (.tuple #[])) fun t3 w1 => Ext w w1 ∧ oCall Tryd.prog f args w1 fun t w2 => opP Tryd.prog (Instr.extract t 0) fun t1 => opP Tryd.prog (Instr.extract t 1) fun t2 =>
      opU Tryd.prog w2 (Instr.storeAt Tryd.t_Row t3 t1) fun w3 => K' [t3, t2] w3) := by
  constructor
  · refine HC w (Ext.refl w) _ fun v w1 e1 hf => ?_
    obtain ⟨s, n, m⟩ := hf.gh
    obtain ⟨p, cap, rfl⟩ := m.shape
    obtain ⟨S, d, u⟩ := S.tell e1 n
    (repeat (first | refine s_p ?_ | refine s_c (by omega) ?_ | refine S.ld ?_ | refine S.ldB ?_ | refine S.ce ?_ | refine S.ceB ?_ | refine s_q ?_ | refine s_qc (by omega) ?_ | rw [List.getD_cons_zero] | rw [List.getD_cons_succ]))
    refine Tryd.al_Row fun b w2 hb e2 _ B => ⟨e2, ?_⟩
    have S := S.add e2 (by omega) B
    refine S.stB fun w3 S => ?_
    exact k _ _ _ _ _ S m d u
  · refine Tryd.al_Row fun b w2 hb e2 _ B => ⟨e2, ?_⟩
    have S := S.add e2 (by omega) B
    refine HC w2 e2 _ fun v w1 e1 hf => ?_
    obtain ⟨s, n, m⟩ := hf.gh
    obtain ⟨p, cap, rfl⟩ := m.shape
    obtain ⟨S, d, u⟩ := S.tell e1 n
    (repeat (first | refine s_p ?_ | refine s_c (by omega) ?_ | refine S.ld ?_ | refine S.ldB ?_ | refine S.ce ?_ | refine S.ceB ?_ | refine s_q ?_ | refine s_qc (by omega) ?_ | rw [List.getD_cons_zero] | rw [List.getD_cons_succ]))
    refine S.stB fun w3 S => ?_
    exact k _ _ _ _ _ S m d u
/-- a row with a mark, all of it made by the walk -/
def LentG (s : Gh) (v : Value) (W : Int) (ws : List (BitVec 64)) : Prop := Ob s fun w => ∃ n, Lent w n v W ws
theorem Lent.ghB {w w' : World} {v : Value} {W : Int} {ws : List (BitVec 64)} (h : Lent w' w.heap.size v W ws) : ∃ s, New w s w' ∧ LentG s v W ws ∧ NoBook s := by
  obtain ⟨g, cap, c, h1, h2, h3, h4⟩ := h
  exact ⟨one g c Tryd.t_uint64, New.one h3 h2, fun w k => ⟨g, g, cap, c, h1, Nat.le_refl _, one_blk w k, h4⟩, inferInstance⟩
theorem Lent.gh {w w' : World} {v : Value} {W : Int} {ws : List (BitVec 64)} (h : Lent w' w.heap.size v W ws) : ∃ s, New w s w' ∧ LentG s v W ws := by
  obtain ⟨g, cap, c, h1, h2, h3, h4⟩ := h
  exact ⟨one g c Tryd.t_uint64, New.one h3 h2, fun w k => ⟨g, g, cap, c, h1, Nat.le_refl _, one_blk w k, h4⟩⟩
theorem LentG.row {s : Gh} {v : Value} {W : Int} {ws : List (BitVec 64)} (h : LentG s v W ws) : Ob s fun w => RowV w v W ws := fun w k => by
  obtain ⟨n, h⟩ := h w k; exact h.row
end Go.Proofs
