/-
  Contracts: the text of a type, the document's; Itoa of small numbers; Copies.
-/
import Derived.Test.YtajllnahceaipaaDoorTi
namespace Go.Proofs
open Go.Sh
set_option maxRecDepth 100000

theorem c_ref06_text {s : Int} : ∀ (n : Nat) {t : TyD} {w : World} {r : Gh} {v : Value} {K : Value → World → Prop}, n ≤ 1000 → lookB s n t = true → NumsOK r t → Holds r w → TyG r v t →
    (∀ w', Ext w w' → K (.string (bs (textB n t))) w') → oCall Tryd.prog Tryd.n_ref06_text #[v] w K := by
  intro n
  induction n with
  | zero => intro t w r v K _ h; cases h
  | succ n ih =>
    intro t w r v K hn hl hI hr hv h
    refine Tryd.ok_ref06_text ?_
    unfold Tryd.F_ref06_text
    obtain ⟨p, cap, rfl, _, _, hof⟩ := hv
    have S := St.start hr
    refine S.box fun b1 w1 S => ?_
    rw [textB] at h
    (repeat (first | refine s_p ?_ | refine s_c (by omega) ?_ | refine S.ld ?_ | refine S.ldB ?_ | refine S.ce ?_ | refine S.ceB ?_ | refine s_q ?_ | refine s_qc (by omega) ?_ | refine n_some ?_ | rw [List.getD_cons_zero] | rw [List.getD_cons_succ]))
    refine c_if (fun h1 => ?_) (fun h1 => ?_)
    · rw [if_pos h1] at h; exact h _ S.ext
    rw [if_neg h1] at h
    (repeat (first | refine s_p ?_ | refine s_c (by omega) ?_ | refine S.ld ?_ | refine S.ldB ?_ | refine S.ce ?_ | refine S.ceB ?_ | refine s_q ?_ | refine s_qc (by omega) ?_ | refine n_some ?_ | rw [List.getD_cons_zero] | rw [List.getD_cons_succ]))
    refine c_if (fun h2 => ?_) (fun h2 => ?_)
    · rw [if_pos h2] at h; exact h _ S.ext
    rw [if_neg h2] at h
    (repeat (first | refine s_p ?_ | refine s_c (by omega) ?_ | refine S.ld ?_ | refine S.ldB ?_ | refine S.ce ?_ | refine S.ceB ?_ | refine s_q ?_ | refine s_qc (by omega) ?_ | refine n_some ?_ | rw [List.getD_cons_zero] | rw [List.getD_cons_succ]))
    have one : t.k ≠ 5 → ∃ (u : TyD) (ba oa : Nat) (c : List Value), t.of = [u] ∧ p = some ⟨ba, oa, none⟩ ∧ c.length = 5 ∧ (∀ j v, c[j]? = some v → Ob r fun w => w.cell? ⟨ba, oa + 0 * 5 + j, none⟩ = some v) ∧ TyG r (.agg c.toArray) u ∧ lookB s n u = true := by
      intro h5
      rcases look_cases hl with ⟨_, hk⟩ | ⟨u, hofu, hu, _⟩
      · exfalso; omega
      obtain ⟨ba, oa, rfl, c, hc, hcell, ht⟩ := NdG.of hof (i := 0) (by rw [hofu]; exact Nat.one_pos)
      refine ⟨u, ba, oa, c, hofu, rfl, hc, hcell, ?_, hu⟩
      simpa [hofu] using ht
    refine c_if (fun h3 => ?_) (fun h3 => ?_)
    · rw [if_pos h3] at h
      obtain ⟨u, ba, oa, c, hofu, rfl, hc, hcell, ht, hu⟩ := one (by omega)
      rw [hofu] at h
      have hb := textB_len n u
      have hlen : (t.of.length : Int) = 1 := by rw [hofu]; rfl
      (repeat (first | refine s_p ?_ | refine s_c (by omega) ?_ | refine S.ld ?_ | refine S.ldB ?_ | refine S.ce ?_ | refine S.ceB ?_ | refine s_q ?_ | refine s_qc (by omega) ?_ | refine n_some ?_ | rw [List.getD_cons_zero] | rw [List.getD_cons_succ]))
      refine s_ldN (n := 5) hc (fun j v hj => by simpa using S.at (hcell j v hj)) ?_
      refine ih (by omega) hu (hI.inn hofu) S.holds ht fun w2 e2 => ?_
      refine s_c (by simp only [List.length_cons, List.length_nil]; omega) ?_
      refine s_c (by simp only [List.length_append, List.length_cons, List.length_nil]; omega) ?_
      exact h _ (S.go e2).ext
    rw [if_neg h3] at h
    (repeat (first | refine s_p ?_ | refine s_c (by omega) ?_ | refine S.ld ?_ | refine S.ldB ?_ | refine S.ce ?_ | refine S.ceB ?_ | refine s_q ?_ | refine s_qc (by omega) ?_ | refine n_some ?_ | rw [List.getD_cons_zero] | rw [List.getD_cons_succ]))
    refine c_if (fun h5 => ?_) (fun h5 => ?_)
    · rw [if_pos h5] at h
      have hst : 0 ≤ t.st := by
        rw [lookB_succ, if_neg (by omega), if_pos h5] at hl
        simp only [Bool.and_eq_true, decide_eq_true_eq] at hl; exact hl.1.2
      (repeat (first | refine s_p ?_ | refine s_c (by omega) ?_ | refine S.ld ?_ | refine S.ldB ?_ | refine S.ce ?_ | refine S.ceB ?_ | refine s_q ?_ | refine s_qc (by omega) ?_ | refine n_some ?_ | rw [List.getD_cons_zero] | rw [List.getD_cons_succ]))
      refine hI.top.2 hst _ _ S.holds fun w2 e2 => ?_
      have := itoa_len t.st
      refine s_c (by simp only [List.length_cons, List.length_nil]; omega) ?_
      exact h _ (S.go e2).ext
    rw [if_neg h5] at h
    obtain ⟨u, ba, oa, c, hofu, rfl, hc, hcell, ht, hu⟩ := one h5
    rw [hofu] at h
    have hb := textB_len n u
    have hlen : (t.of.length : Int) = 1 := by rw [hofu]; rfl
    have hnp : 0 < (textB n u).length := by
      cases n with
      | zero => cases hu
      | succ n => exact textB_pos n u
    have hil := itoa_len t.re
    refine j_intro (fun x w' => ∃ l, x = [.string (bs l)] ∧ l = [38] ++ (if 0 ≤ t.re then [39] ++ itoa t.re ++ [32] else []) ∧ StX noX w r w' [.cell b1 (Value.agg #[.int .u8 t.k, .bool t.m, .int .i64 t.re, .int .i64 t.st, .slice (some ⟨ba, oa, none⟩) t.of.length cap]).cells.toList 25]) (fun K2 hK2 => ?_) ?_
    · (repeat (first | refine s_p ?_ | refine s_c (by omega) ?_ | refine S.ld ?_ | refine S.ldB ?_ | refine S.ce ?_ | refine S.ceB ?_ | refine s_q ?_ | refine s_qc (by omega) ?_ | refine n_some ?_ | rw [List.getD_cons_zero] | rw [List.getD_cons_succ]))
      refine c_if (fun h0 => ?_) (fun h0 => hK2 _ _ ⟨_, rfl, by rw [if_neg h0]; rfl, S⟩)
      refine s_c (by simp only [List.length_cons, List.length_nil]; omega) ?_
      (repeat (first | refine s_p ?_ | refine s_c (by omega) ?_ | refine S.ld ?_ | refine S.ldB ?_ | refine S.ce ?_ | refine S.ceB ?_ | refine s_q ?_ | refine s_qc (by omega) ?_ | refine n_some ?_ | rw [List.getD_cons_zero] | rw [List.getD_cons_succ]))
      refine hI.top.1 h0 _ _ S.holds fun w3 e3 => ?_
      have S := S.go e3
      refine s_c (by simp only [List.length_append, List.length_cons, List.length_nil]; omega) ?_
      refine s_c (by simp only [List.length_append, List.length_cons, List.length_nil]; omega) ?_
      exact hK2 _ _ ⟨_, rfl, by rw [if_pos h0]; simp only [List.append_assoc], S⟩
    rintro x w3 ⟨l, rfl, hl1, S⟩ d3
    rw [List.getD_cons_zero]
    have hll : l.length ≤ 23 := by rw [hl1]; split <;> simp only [List.length_append, List.length_cons, List.length_nil] <;> omega
    refine j_intro (fun x w' => x = [.string (bs (headB t.re t.m))] ∧ StX noX w r w' [.cell b1 (Value.agg #[.int .u8 t.k, .bool t.m, .int .i64 t.re, .int .i64 t.st, .slice (some ⟨ba, oa, none⟩) t.of.length cap]).cells.toList 25]) (fun K2 hK2 => ?_) ?_
    · (repeat (first | refine s_p ?_ | refine s_c (by omega) ?_ | refine S.ld ?_ | refine S.ldB ?_ | refine S.ce ?_ | refine S.ceB ?_ | refine s_q ?_ | refine s_qc (by omega) ?_ | refine n_some ?_ | rw [List.getD_cons_zero] | rw [List.getD_cons_succ]))
      refine c_b (fun hm => ?_) (fun hm => hK2 _ _ ⟨?_, S⟩)
      · refine s_c (by simp only [List.length_cons, List.length_nil]; omega) ?_
        exact hK2 _ _ ⟨by rw [headB, ← hl1, hm]; rfl, S⟩
      · rw [headB, ← hl1, hm]; simp
    rintro x w4 ⟨rfl, S⟩ d4
    rw [List.getD_cons_zero]
    have hhl := headB_len t.re t.m
    (repeat (first | refine s_p ?_ | refine s_c (by omega) ?_ | refine S.ld ?_ | refine S.ldB ?_ | refine S.ce ?_ | refine S.ceB ?_ | refine s_q ?_ | refine s_qc (by omega) ?_ | refine n_some ?_ | rw [List.getD_cons_zero] | rw [List.getD_cons_succ]))
    refine s_ldN (n := 5) hc (fun j v hj => by simpa using S.at (hcell j v hj)) ?_
    refine ih (by omega) hu (hI.inn hofu) S.holds ht fun w5 e5 => ?_
    have S := S.go e5
    refine j_intro (fun x w' => x = [.string (bs (if headB t.re t.m == [38] && decide (byteAt (textB n u) 0 = 38) then [38, 32] else headB t.re t.m))] ∧ Ext w w') (fun K2 hK2 => ?_) ?_
    · (first | refine s_p ?_ | refine s_c (by omega) ?_)
      refine j_band (c := decide (byteAt (textB n u) 0 = 38)) (fun K3 hK3 => ?_) ?_
      · refine s_c ⟨by omega, by omega⟩ ?_
        (first | refine s_p ?_ | refine s_c (by omega) ?_)
        exact hK3
      refine c_b (fun hc => hK2 _ _ ⟨?_, S.ext⟩) (fun hc => hK2 _ _ ⟨?_, S.ext⟩)
      · rw [if_pos hc]
      · rw [if_neg (by rw [hc]; simp)]
    rintro x w5 ⟨rfl, e5⟩ d5
    rw [List.getD_cons_zero]
    refine s_c (by
      split
      · simp only [List.length_cons, List.length_nil]; omega
      · omega) ?_
    exact h _ e5
theorem c_ref06_Text {t : TyD} {w : World} {r : Gh} {v : Value} {K : Value → World → Prop} (hr : Holds r w) (hv : TyG r v t) (hI : NumsOK r t)
    (h : ∀ w', Ext w w' → K (.tuple #[.string (bs (textT t).1), .int .i64 (textT t).2]) w') : oCall Tryd.prog Tryd.n_ref06_Text #[v] w K := by
  refine Tryd.ok_ref06_Text ?_
  unfold Tryd.F_ref06_Text
  have hv0 := hv
  obtain ⟨p, cap, rfl, _⟩ := hv
  have S := St.start hr
  refine S.box fun b1 w1 S => ?_
  (repeat (first | refine s_p ?_ | refine s_c (by omega) ?_ | refine S.ld ?_ | refine S.ldB ?_ | refine S.ce ?_ | refine S.ceB ?_ | refine s_q ?_ | refine s_qc (by omega) ?_ | refine n_some ?_ | rw [List.getD_cons_zero] | rw [List.getD_cons_succ]))
  refine c_ref06_Is S.holds hv0 fun w2 e2 => ?_
  have S := S.go e2
  (repeat (first | refine s_p ?_ | refine s_c (by omega) ?_ | refine S.ld ?_ | refine S.ldB ?_ | refine S.ce ?_ | refine S.ceB ?_ | refine s_q ?_ | refine s_qc (by omega) ?_ | refine n_some ?_ | rw [List.getD_cons_zero] | rw [List.getD_cons_succ]))
  refine c_b (fun hn => ?_) (fun hb => ?_)
  · have hb : isB t = false := by simpa using hn
    rw [textT, hb] at h; exact h _ S.ext
  have hb : isB t = true := by simpa using hb
  rw [textT, hb] at h
  (repeat (first | refine s_p ?_ | refine s_c (by omega) ?_ | refine S.ld ?_ | refine S.ldB ?_ | refine S.ce ?_ | refine S.ceB ?_ | refine s_q ?_ | refine s_qc (by omega) ?_ | refine n_some ?_ | rw [List.getD_cons_zero] | rw [List.getD_cons_succ]))
  exact c_ref06_text 48 (by decide) hb hI S.holds hv0 fun w3 e3 => h _ (S.go e3).ext

/-! ### Itoa of small numbers -/
theorem small_lo : ∀ n : Nat, n < 10 → (([48, 49, 50, 51, 52, 53, 54, 55, 56, 57, 97, 98, 99, 100, 101, 102, 103, 104, 105, 106, 107, 108, 109, 110, 111, 112, 113, 114, 115, 116, 117, 118, 119, 120, 121, 122] : List UInt8).take (n + 1)).drop n = digsF 20 n := by decide +kernel
theorem c_small {x : Int} {w : World} {K : Value → World → Prop} (h0 : 0 ≤ x) (h1 : x < 10) (h : K (.string (bs (itoa x))) w) : oCall Tryd.prog Tryd.n_internal_strconv_small #[.int .i64 x] w K := by
  refine Tryd.ok_internal_strconv_small ?_
  unfold Tryd.F_internal_strconv_small
  (first | refine s_p ?_ | refine s_c (by omega) ?_)
  refine c_if (fun _ => ?_) (fun hn => absurd h1 hn)
  (first | refine s_p ?_ | refine s_c (by omega) ?_)
  refine s_c ⟨h0, by omega, by simp only [List.length_cons, List.length_nil]; omega⟩ ?_
  have e := small_lo x.toNat (by omega)
  rw [show (x + 1).toNat = x.toNat + 1 by omega, e]
  exact h
theorem itoa_ok_small {r : Gh} {x : Int} (h0 : 0 ≤ x) (h1 : x < 10) : ItoaOK r x := by
  intro w K hr h
  refine Tryd.ok_strconv_Itoa ?_
  unfold Tryd.F_strconv_Itoa
  refine Tryd.ok_internal_strconv_Itoa ?_
  unfold Tryd.F_internal_strconv_Itoa
  refine Tryd.ok_internal_strconv_FormatInt ?_
  unfold Tryd.F_internal_strconv_FormatInt
  (first | refine s_p ?_ | refine s_c (by omega) ?_)
  refine c_if (fun _ => ?_) (fun hn => absurd rfl hn)
  (first | refine s_p ?_ | refine s_c (by omega) ?_)
  refine j_band (c := decide (x < 100)) (fun K3 hK3 => ?_) ?_
  · (first | refine s_p ?_ | refine s_c (by omega) ?_)
    exact hK3
  refine c_t (by simp only [Bool.and_eq_true, decide_eq_true_eq]; omega) ?_
  exact c_small h0 h1 (h _ (Ext.refl _))
/-! ### Copies -/
def copiesB (t : TyD) : Bool := isB t && ((decide (t.k = 1) || decide (t.k = 2)) || (decide (t.k = 4) && !t.m))
theorem c_types_Copies {t : TyD} {w : World} {r : Gh} {v : Value} {K : Value → World → Prop} (hr : Holds r w) (hv : TyG r v t)
    (h : ∀ w', Ext w w' → K (.bool (copiesB t)) w') : oCall Tryd.prog Tryd.n_types_Copies #[v] w K := by
  refine Tryd.ok_types_Copies ?_
  unfold Tryd.F_types_Copies
  have hv0 := hv
  obtain ⟨p, cap, rfl, _⟩ := hv
  have S := St.start hr
  refine S.box fun b1 w1 S => ?_
  (repeat (first | refine s_p ?_ | refine s_c (by omega) ?_ | refine S.ld ?_ | refine S.ldB ?_ | refine S.ce ?_ | refine S.ceB ?_ | refine s_q ?_ | refine s_qc (by omega) ?_ | refine n_some ?_ | rw [List.getD_cons_zero] | rw [List.getD_cons_succ]))
  refine c_types_may S.holds hv0 fun w2 e2 => ?_
  have S := S.go e2
  (repeat (first | refine s_p ?_ | refine s_c (by omega) ?_ | refine S.ld ?_ | refine S.ldB ?_ | refine S.ce ?_ | refine S.ceB ?_ | refine s_q ?_ | refine s_qc (by omega) ?_ | refine n_some ?_ | rw [List.getD_cons_zero] | rw [List.getD_cons_succ]))
  refine c_b (fun hn => ?_) (fun hb => ?_)
  · have hb : isB t = false := by simpa using hn
    rw [copiesB, hb] at h; exact h _ S.ext
  have hb : isB t = true := by simpa using hb
  rw [copiesB, hb, Bool.true_and] at h
  (repeat (first | refine s_p ?_ | refine s_c (by omega) ?_ | refine S.ld ?_ | refine S.ldB ?_ | refine S.ce ?_ | refine S.ceB ?_ | refine s_q ?_ | refine s_qc (by omega) ?_ | refine n_some ?_ | rw [List.getD_cons_zero] | rw [List.getD_cons_succ]))
  intro K11 hK11
  (repeat (first | refine s_p ?_ | refine s_c (by omega) ?_ | refine S.ld ?_ | refine S.ldB ?_ | refine S.ce ?_ | refine S.ceB ?_ | refine s_q ?_ | refine s_qc (by omega) ?_ | refine n_some ?_ | rw [List.getD_cons_zero] | rw [List.getD_cons_succ]))
  refine k_cor (c := decide (t.k = 2)) (hK11 _ _ fun _ => ?_) fun _ hk => ?_
  rotate_left
  · (repeat (first | refine s_p ?_ | refine s_c (by omega) ?_ | refine S.ld ?_ | refine S.ldB ?_ | refine S.ce ?_ | refine S.ceB ?_ | refine s_q ?_ | refine s_qc (by omega) ?_ | refine n_some ?_ | rw [List.getD_cons_zero] | rw [List.getD_cons_succ])); exact hk
  simp only [List.getD_cons_zero]
  refine c_b (fun h12 => ?_) (fun h12 => ?_)
  · rw [h12, Bool.true_or] at h; exact h _ S.ext
  rw [h12, Bool.false_or] at h
  (repeat (first | refine s_p ?_ | refine s_c (by omega) ?_ | refine S.ld ?_ | refine S.ldB ?_ | refine S.ce ?_ | refine S.ceB ?_ | refine s_q ?_ | refine s_qc (by omega) ?_ | refine n_some ?_ | rw [List.getD_cons_zero] | rw [List.getD_cons_succ]))
  refine c_if (fun h4 => ?_) (fun h4 => ?_)
  · rw [show decide (t.k = 4) = true from decide_eq_true h4, Bool.true_and] at h
    (repeat (first | refine s_p ?_ | refine s_c (by omega) ?_ | refine S.ld ?_ | refine S.ldB ?_ | refine S.ce ?_ | refine S.ceB ?_ | refine s_q ?_ | refine s_qc (by omega) ?_ | refine n_some ?_ | rw [List.getD_cons_zero] | rw [List.getD_cons_succ]))
    exact h _ S.ext
  · rw [show decide (t.k = 4) = false from decide_eq_false h4, Bool.false_and] at h
    exact h _ S.ext
end Go.Proofs
