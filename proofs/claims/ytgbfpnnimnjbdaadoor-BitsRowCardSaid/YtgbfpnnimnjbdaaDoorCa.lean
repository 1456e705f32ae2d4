/-
  Contracts: rows of bits (package bits).
-/
import Derived.Test.YtgbfpnnimnjbdaaDoorFa
import Derived.Test.YtgbfpnnimnjbdaaDoorBm
import Derived.Test.YtgbfpnnimnjbdaaDoorShA
namespace Go.Proofs
open Go.Sh Go.BM
set_option maxRecDepth 100000

/-- the value v is a row: width, words -/
def RowV (w : World) (v : Value) (W : Int) (ws : List (BitVec 64)) : Prop :=
  ∃ p cap, v = .agg #[.int .i64 W, .slice p ws.length cap] ∧ Sl w p (ws.map u64) ∧ (p = none → cap = 0) ∧ ws.length ≤ cap
def i64 (n : Int) : Prop := -9223372036854775808 ≤ n ∧ n < 9223372036854775808

theorem c_bits_May {w : World} {v : Value} {W : Int} {ws : List (BitVec 64)} {K : Value → World → Prop} (hr : RowV w v W ws)
    (h : ∀ w', Ext w w' → K (.bool (mayB W ws)) w') : oCall Tryd.prog Tryd.n_bits_May #[v] w K := by
  obtain ⟨p, cap, rfl, hS, hp, hcap⟩ := hr
  refine Tryd.ok_bits_May ?_
  unfold Tryd.F_bits_May
  refine w_box fun b w1 hb e1 s1 B => ?_
  (first | refine s_p ?_ | refine s_c (by omega) ?_); refine Tryd.ldB_int B rfl ?_; (repeat (first | refine s_p ?_ | refine s_c (by omega) ?_))
  refine j_or (fun h0 => ?_) (fun h0 => ?_)
  · refine j_orB (fun _ => ?_) (fun hn => by cases hn)
    refine c_T ?_
    rw [mayB_false (fun hm => by have := hm.1; omega)] at h
    exact h _ e1
  intro K2 hK2
  (first | refine s_p ?_ | refine s_c (by omega) ?_); refine Tryd.ldB_int B rfl ?_; (repeat (first | refine s_p ?_ | refine s_c (by omega) ?_))
  refine hK2 _ _ ?_; clear hK2 K2
  refine j_or (fun h1 => ?_) (fun h1 => ?_)
  · refine c_T ?_
    rw [mayB_false (fun hm => by have := hm.2.1; omega)] at h
    exact h _ e1
  intro K3 hK3
  (first | refine s_p ?_ | refine s_c (by omega) ?_); refine Tryd.ldB_S_uint64 B rfl ?_; (repeat (first | refine s_p ?_ | refine s_c (by omega) ?_)); refine Tryd.ldB_int B rfl ?_; (repeat (first | refine s_p ?_ | refine s_c (by omega) ?_))
  refine hK3 _ _ ?_; clear hK3 K3
  refine c_if (fun h2 => ?_) (fun h2 => ?_)
  · rw [mayB_false (fun hm => by have := hm.2.2.1; omega)] at h
    exact h _ e1
  have h2 : (ws.length : Int) = (W + 63) / 64 := by omega
  (first | refine s_p ?_ | refine s_c (by omega) ?_); refine Tryd.ldB_int B rfl ?_; (repeat (first | refine s_p ?_ | refine s_c (by omega) ?_))
  refine j_or (fun h3 => ?_) (fun h3 => ?_)
  · rw [mayB_true (may_even (by omega) (by omega) h2 h3)] at h
    exact h _ (e1.trans (Ext.drew _))
  intro K4 hK4
  have hlt : ws.length - 1 < ws.length := by omega
  have hlt' : ws.length - 1 < (ws.map u64).length := by simpa using hlt
  obtain ⟨b', off, rfl, hc⟩ := hS.at hlt'
  have hc := cell_ext hc (e1.trans (Ext.drew w1))
  (first | refine s_p ?_ | refine s_c (by omega) ?_); refine Tryd.ldB_S_uint64 B rfl ?_; (first | refine s_p ?_ | refine s_c (by omega) ?_); refine Tryd.ldB_S_uint64 B rfl ?_; (repeat (first | refine s_p ?_ | refine s_c (by omega) ?_))
  rw [show ((ws.length : Int) - 1).toNat = ws.length - 1 by omega]
  refine Tryd.ld_uint64 hc ?_
  rw [List.getElem_map]
  (first | refine s_p ?_ | refine s_c (by omega) ?_); refine Tryd.ldB_int B rfl ?_; (repeat (first | refine s_p ?_ | refine s_c (by omega) ?_))
  refine hK4 _ _ ?_
  have hz : (((ws[ws.length - 1] >>> (W % 64).toNat).toNat : Int) = 0) ↔ May W ws := by
    rw [may_last (by omega) (by omega) h2 h3 hlt]
    constructor
    · intro hz; apply BitVec.eq_of_toNat_eq; have h9 : (ws[ws.length - 1] >>> (W % 64).toNat).toNat = 0 := by omega
      rw [h9]; rfl
    · intro hz; rw [hz]; rfl
  rw [show mayB W ws = decide (((ws[ws.length - 1] >>> (W % 64).toNat).toNat : Int) = 0) by unfold mayB; simp only [← hz]] at h
  exact h _ (e1.trans (Ext.drew _))

theorem RowV.ext {w w' : World} {v : Value} {W : Int} {ws : List (BitVec 64)} (h : RowV w v W ws) (e : Ext w w') : RowV w' v W ws := by
  obtain ⟨p, cap, h1, h2, h3⟩ := h; exact ⟨p, cap, h1, h2.ext e, h3⟩
theorem RowV.nl {w w' : World} {n : Nat} {v : Value} {W : Int} {ws : List (BitVec 64)} (h : RowV w v W ws) (e : Nl n w w') : RowV w' v W ws := by
  obtain ⟨p, cap, h1, h2, h3⟩ := h; exact ⟨p, cap, h1, h2.nl e, h3⟩
theorem RowV.shuts {w w' : World} {n : Nat} {v : Value} {W : Int} {ws : List (BitVec 64)} (h : RowV w v W ws) (e : Shuts n w w') : RowV w' v W ws := by
  obtain ⟨p, cap, h1, h2, h3⟩ := h; exact ⟨p, cap, h1, h2.shuts e, h3⟩
/-- words in memory of the call's own, from block n on -/
def Words (w : World) (n : Nat) (p : Option Addr) (cap : Nat) (ws : List (BitVec 64)) : Prop :=
  (p = none → cap = 0) ∧ ws.length ≤ cap ∧ (ws = [] ∨ ∃ b c, p = some ⟨b, 0, none⟩ ∧ n ≤ b ∧ Blk w b c Tryd.t_uint64 ∧ c.take ws.length = ws.map u64)
/-- a row in memory of the call's own -/
def FreshRow (w : World) (n : Nat) (v : Value) (W : Int) (ws : List (BitVec 64)) : Prop :=
  ∃ p cap, v = .agg #[.int .i64 W, .slice p ws.length cap] ∧ Words w n p cap ws
theorem Words.sl {w : World} {n : Nat} {p : Option Addr} {cap : Nat} {ws : List (BitVec 64)} (h : Words w n p cap ws) : Sl w p (ws.map u64) := by
  rcases h.2.2 with rfl | ⟨b, c, rfl, _, B, hc⟩
  · exact Sl.nil _ _
  · rw [← hc]; exact (Sl.blk B).take _
theorem Words.mono {w : World} {n n' : Nat} {p : Option Addr} {cap : Nat} {ws : List (BitVec 64)} (h : Words w n p cap ws) (hn : n' ≤ n) : Words w n' p cap ws :=
  ⟨h.1, h.2.1, h.2.2.imp id fun ⟨b, c, h1, h2, h3⟩ => ⟨b, c, h1, by omega, h3⟩⟩
theorem Words.ext {w w' : World} {n : Nat} {p : Option Addr} {cap : Nat} {ws : List (BitVec 64)} (h : Words w n p cap ws) (e : Ext w w') : Words w' n p cap ws :=
  ⟨h.1, h.2.1, h.2.2.imp id fun ⟨b, c, h1, h2, h3, h4⟩ => ⟨b, c, h1, h2, h3.ext e, h4⟩⟩
theorem FreshRow.row {w : World} {n : Nat} {v : Value} {W : Int} {ws : List (BitVec 64)} (h : FreshRow w n v W ws) : RowV w v W ws := by
  obtain ⟨p, cap, rfl, h⟩ := h; exact ⟨p, cap, rfl, h.sl, h.1, h.2.1⟩
theorem FreshRow.mono {w : World} {n n' : Nat} {v : Value} {W : Int} {ws : List (BitVec 64)} (h : FreshRow w n v W ws) (hn : n' ≤ n) : FreshRow w n' v W ws := by
  obtain ⟨p, cap, h1, h⟩ := h; exact ⟨p, cap, h1, h.mono hn⟩
theorem FreshRow.ext {w w' : World} {n : Nat} {v : Value} {W : Int} {ws : List (BitVec 64)} (h : FreshRow w n v W ws) (e : Ext w w') : FreshRow w' n v W ws := by
  obtain ⟨p, cap, h1, h⟩ := h; exact ⟨p, cap, h1, h.ext e⟩
/-- the zero row -/
def row0 : Value := .agg #[.int .i64 0, .slice none 0 0]
abbrev err (n : Int) : Value := .int .i64 n
def nil0 : List (BitVec 64) := []
theorem fresh0 (w : World) (n : Nat) : FreshRow w n row0 0 [] := ⟨none, 0, rfl, fun _ => rfl, Nat.le_refl _, .inl rfl⟩
/-- words without bits -/
def zeros (W : Int) : List (BitVec 64) := List.replicate ((W.toNat + 63) / 64) 0#64

theorem c_bits_New {w : World} {W : Int} {K : Value → World → Prop}
    (h1 : ¬ (0 ≤ W ∧ W ≤ 1032) → ∀ w', Ext w w' → K (.tuple #[row0, err 2]) w')
    (h2 : 0 ≤ W → W ≤ 1032 → ∀ v w', Ext w w' → FreshRow w' w.heap.size v W (zeros W) → K (.tuple #[v, err 0]) w') : oCall Tryd.prog Tryd.n_bits_New #[.int .i64 W] w K := by
  refine Tryd.ok_bits_New ?_
  unfold Tryd.F_bits_New
  refine Tryd.al_Row fun b w1 hb e1 s1 B => ?_
  have bad : ¬ (0 ≤ W ∧ W ≤ 1032) → opP Tryd.prog (Instr.build Tryd.t_Row #[]) fun t10 => opU Tryd.prog w1 (Instr.storeAt Tryd.t_Row (.pointer (some ⟨b, 0, none⟩)) t10) fun w6 =>
      opQ Tryd.prog w6 (cellSem Tryd.t_Row (.pointer (some ⟨b, 0, none⟩))) fun r7 => K (.tuple #[r7, (Value.int .i64 2)]) w6 := fun hn => by
    refine p_build (cs := #[.int .i64 0, .slice none 0 0]) (by kernel_rfl) ?_
    refine Tryd.stB_Row B rfl rfl (by simp [Value.oneCell']) fun w2 x2 s2 B2 => ?_
    refine Tryd.ce_Row B2 rfl ?_
    exact h1 hn _ (e1.but x2 (by intro k hk; omega))
  (repeat (first | refine s_p ?_ | refine s_c (by omega) ?_))
  refine j_or (fun h0 => c_T (bad (by omega))) (fun h0 => ?_)
  intro K2 hK2
  (repeat (first | refine s_p ?_ | refine s_c (by omega) ?_))
  refine hK2 _ _ ?_; clear hK2 K2
  refine c_if (fun h3 => bad (by omega)) (fun h3 => ?_)
  (repeat (first | refine s_p ?_ | refine s_c (by omega) ?_))
  refine Tryd.mk_S_uint64 (by omega) (by omega) fun b2 w2 hb2 e2 s2 B2 => ?_
  refine p_build (cs := #[.int .i64 W, .slice (some ⟨b2, 0, none⟩) ((W + 63) / 64).toNat ((W + 63) / 64).toNat]) (by kernel_rfl) ?_
  refine Tryd.stB_Row (B.ext e2) rfl rfl (by simp [Value.oneCell']) fun w3 x3 s3 B3 => ?_
  refine Tryd.ce_Row B3 rfl ?_
  have hl : ((W + 63) / 64).toNat = (zeros W).length := by simp only [zeros, List.length_replicate]; omega
  refine h2 (by omega) (by omega) _ _ ((e1.trans e2).but x3 (by intro k hk; omega)) ⟨some ⟨b2, 0, none⟩, _, by rw [hl], by simp, Nat.le_refl _, .inr ⟨b2, _, rfl, by have := e1.size; omega, B2.but x3 (by omega), ?_⟩⟩
  rw [hl, List.take_of_length_le (by simp), zeros, List.map_replicate, List.length_replicate]
  rfl
end Go.Proofs
