/-
  Contracts: which types may be (package types, the document's answer).
-/
import Derived.Test.YtajllnahceaipaaDoorFa
import Derived.Test.YtajllnahceaipaaDoorFd
import Derived.Test.YtajllnahceaipaaDoorTa
namespace Go.Proofs
open Go.Sh
set_option maxRecDepth 100000

/-- may a type be among so many structs, so deep at most? -/
def lookB (structs : Int) : Nat → TyD → Bool
  | 0, _ => false
  | n + 1, t =>
    let inn := decide (t.of.length = 1) && (match t.of with | u :: _ => lookB structs n u | [] => false)
    let bare := !t.m && decide (t.re = 0)
    if t.k = 1 ∨ t.k = 2 then bare && decide (t.st = 0) && decide (t.of.length = 0)
    else if t.k = 5 then bare && decide (t.of.length = 0) && decide (0 ≤ t.st) && decide (t.st < structs)
    else if t.k = 3 then bare && decide (t.st = 0) && inn
    else if t.k = 4 then decide (-1 ≤ t.re) && decide (t.st = 0) && inn
    else false
def inB (structs : Int) (n : Nat) (t : TyD) : Bool := match t.of with | u :: _ => lookB structs n u | [] => false
theorem inB_of {structs : Int} {n : Nat} : ∀ {t : TyD} {h : 0 < t.of.length}, inB structs n t = lookB structs n t.of[0]
  | .mk _ _ _ _ (_ :: _), _ => rfl
  | .mk _ _ _ _ [], h => absurd h (Nat.not_lt_zero _)
theorem int_zero (n : Nat) : ((n : Int) = 0) ↔ n = 0 := by omega
theorem int_one (n : Nat) : ((n : Int) = 1) ↔ n = 1 := by omega

theorem c_types_look : ∀ (n : Nat) {t : TyD} {w : World} {r : Gh} {v : Value} {structs : Int} {K : Value → World → Prop}, n ≤ 1000 → Holds r w → TyG r v t →
    (∀ w', Ext w w' → K (.bool (lookB structs n t)) w') → oCall Tryd.prog Tryd.n_types_look #[v, .int .i64 structs, .int .i64 (n : Int)] w K := by
  intro n
  induction n with
  | zero =>
    intro t w r v structs K _ hr hv h
    refine Tryd.ok_types_look ?_
    unfold Tryd.F_types_look
    have S := St.start hr
    refine S.box fun b2 w1 S => ?_
    (repeat (first | refine s_p ?_ | refine s_c (by omega) ?_ | refine S.ld ?_ | refine S.ldB ?_ | refine S.ce ?_ | refine S.ceB ?_ | refine s_q ?_ | refine s_qc (by omega) ?_ | refine n_some ?_ | rw [List.getD_cons_zero] | rw [List.getD_cons_succ]))
    exact h _ S.ext
  | succ n ih =>
    intro t w r v structs K hn hr hv h
    refine Tryd.ok_types_look ?_
    unfold Tryd.F_types_look
    obtain ⟨p, cap, rfl, _, _, hof⟩ := hv
    have S := St.start hr
    refine S.box fun b2 w1 S => ?_
    (repeat (first | refine s_p ?_ | refine s_c (by omega) ?_ | refine S.ld ?_ | refine S.ldB ?_ | refine S.ce ?_ | refine S.ceB ?_ | refine s_q ?_ | refine s_qc (by omega) ?_ | refine n_some ?_ | rw [List.getD_cons_zero] | rw [List.getD_cons_succ]))
    refine j_bandE (c := inB structs n t) (fun hb K2 hK2 => ?_) fun w5 e5 => ?_
    · have hlen : t.of.length = 1 := by simpa [int_one] using hb
      (repeat (first | refine s_p ?_ | refine s_c (by omega) ?_ | refine S.ld ?_ | refine S.ldB ?_ | refine S.ce ?_ | refine S.ceB ?_ | refine s_q ?_ | refine s_qc (by omega) ?_ | refine n_some ?_ | rw [List.getD_cons_zero] | rw [List.getD_cons_succ]))
      obtain ⟨b, off, c, rfl, hc, hcell, ht⟩ := ty_elem S hof (i := 0) (by omega)
      (repeat (first | refine s_p ?_ | refine s_c (by omega) ?_ | refine S.ld ?_ | refine S.ldB ?_ | refine S.ce ?_ | refine S.ceB ?_ | refine s_q ?_ | refine s_qc (by omega) ?_ | refine n_some ?_ | rw [List.getD_cons_zero] | rw [List.getD_cons_succ]))
      refine s_ldN (n := 5) hc (by simpa using hcell) ?_
      (repeat (first | refine s_p ?_ | refine s_c (by omega) ?_ | refine S.ld ?_ | refine S.ldB ?_ | refine S.ce ?_ | refine S.ceB ?_ | refine s_q ?_ | refine s_qc (by omega) ?_ | refine n_some ?_ | rw [List.getD_cons_zero] | rw [List.getD_cons_succ]))
      rw [show ((n + 1 : Nat) : Int) - 1 = (n : Int) by omega]
      refine ih (by omega) S.holds ht fun w6 e6 => ?_
      rw [← inB_of]
      exact hK2 _ e6
    have S := S.go e5
    (repeat (first | refine s_p ?_ | refine s_c (by omega) ?_ | refine S.ld ?_ | refine S.ldB ?_ | refine S.ce ?_ | refine S.ceB ?_ | refine s_q ?_ | refine s_qc (by omega) ?_ | refine n_some ?_ | rw [List.getD_cons_zero] | rw [List.getD_cons_succ]))
    refine j_band (fun K2 hK2 => by (repeat (first | refine s_p ?_ | refine s_c (by omega) ?_ | refine S.ld ?_ | refine S.ldB ?_ | refine S.ce ?_ | refine S.ceB ?_ | refine s_q ?_ | refine s_qc (by omega) ?_ | refine n_some ?_ | rw [List.getD_cons_zero] | rw [List.getD_cons_succ])); exact hK2) ?_
    (repeat (first | refine s_p ?_ | refine s_c (by omega) ?_ | refine S.ld ?_ | refine S.ldB ?_ | refine S.ce ?_ | refine S.ceB ?_ | refine s_q ?_ | refine s_qc (by omega) ?_ | refine n_some ?_ | rw [List.getD_cons_zero] | rw [List.getD_cons_succ]))
    intro K11 hK11
    (repeat (first | refine s_p ?_ | refine s_c (by omega) ?_ | refine S.ld ?_ | refine S.ldB ?_ | refine S.ce ?_ | refine S.ceB ?_ | refine s_q ?_ | refine s_qc (by omega) ?_ | refine n_some ?_ | rw [List.getD_cons_zero] | rw [List.getD_cons_succ]))
    refine k_cor (c := decide (t.k = 2)) (hK11 _ _ fun _ => ?_) fun _ hk => ?_
    rotate_left
    · (repeat (first | refine s_p ?_ | refine s_c (by omega) ?_ | refine S.ld ?_ | refine S.ldB ?_ | refine S.ce ?_ | refine S.ceB ?_ | refine s_q ?_ | refine s_qc (by omega) ?_ | refine n_some ?_ | rw [List.getD_cons_zero] | rw [List.getD_cons_succ])); exact hk
    simp only [List.getD_cons_zero]
    have hu : lookB structs (n + 1) t = (if t.k = 1 ∨ t.k = 2 then (!t.m && decide (t.re = 0)) && decide (t.st = 0) && decide (t.of.length = 0)
      else if t.k = 5 then (!t.m && decide (t.re = 0)) && decide (t.of.length = 0) && decide (0 ≤ t.st) && decide (t.st < structs)
      else if t.k = 3 then (!t.m && decide (t.re = 0)) && decide (t.st = 0) && (decide (t.of.length = 1) && inB structs n t)
      else if t.k = 4 then decide (-1 ≤ t.re) && decide (t.st = 0) && (decide (t.of.length = 1) && inB structs n t)
      else false) := rfl
    rw [hu] at h
    refine c_b (fun h12 => ?_) (fun h12 => ?_)
    · have h12 : t.k = 1 ∨ t.k = 2 := by simpa using h12
      rw [if_pos h12] at h
      refine j_band (fun K2 hK2 => by (repeat (first | refine s_p ?_ | refine s_c (by omega) ?_ | refine S.ld ?_ | refine S.ldB ?_ | refine S.ce ?_ | refine S.ceB ?_ | refine s_q ?_ | refine s_qc (by omega) ?_ | refine n_some ?_ | rw [List.getD_cons_zero] | rw [List.getD_cons_succ])); exact hK2) ?_
      refine j_band (fun K2 hK2 => by (repeat (first | refine s_p ?_ | refine s_c (by omega) ?_ | refine S.ld ?_ | refine S.ldB ?_ | refine S.ce ?_ | refine S.ceB ?_ | refine s_q ?_ | refine s_qc (by omega) ?_ | refine n_some ?_ | rw [List.getD_cons_zero] | rw [List.getD_cons_succ])); exact hK2) ?_
      rw [decide_eq_decide.2 (int_zero t.of.length)]
      exact h _ S.ext
    have h12 : ¬ (t.k = 1 ∨ t.k = 2) := by simpa using h12
    rw [if_neg h12] at h
    (repeat (first | refine s_p ?_ | refine s_c (by omega) ?_ | refine S.ld ?_ | refine S.ldB ?_ | refine S.ce ?_ | refine S.ceB ?_ | refine s_q ?_ | refine s_qc (by omega) ?_ | refine n_some ?_ | rw [List.getD_cons_zero] | rw [List.getD_cons_succ]))
    refine c_if (fun h5 => ?_) (fun h5 => ?_)
    · rw [if_pos h5] at h
      refine j_band (fun K2 hK2 => by (repeat (first | refine s_p ?_ | refine s_c (by omega) ?_ | refine S.ld ?_ | refine S.ldB ?_ | refine S.ce ?_ | refine S.ceB ?_ | refine s_q ?_ | refine s_qc (by omega) ?_ | refine n_some ?_ | rw [List.getD_cons_zero] | rw [List.getD_cons_succ])); exact hK2) ?_
      refine j_band (fun K2 hK2 => by (repeat (first | refine s_p ?_ | refine s_c (by omega) ?_ | refine S.ld ?_ | refine S.ldB ?_ | refine S.ce ?_ | refine S.ceB ?_ | refine s_q ?_ | refine s_qc (by omega) ?_ | refine n_some ?_ | rw [List.getD_cons_zero] | rw [List.getD_cons_succ])); exact hK2) ?_
      refine j_band (fun K2 hK2 => by (repeat (first | refine s_p ?_ | refine s_c (by omega) ?_ | refine S.ld ?_ | refine S.ldB ?_ | refine S.ce ?_ | refine S.ceB ?_ | refine s_q ?_ | refine s_qc (by omega) ?_ | refine n_some ?_ | rw [List.getD_cons_zero] | rw [List.getD_cons_succ])); exact hK2) ?_
      rw [decide_eq_decide.2 (int_zero t.of.length)]
      exact h _ S.ext
    rw [if_neg h5] at h
    (repeat (first | refine s_p ?_ | refine s_c (by omega) ?_ | refine S.ld ?_ | refine S.ldB ?_ | refine S.ce ?_ | refine S.ceB ?_ | refine s_q ?_ | refine s_qc (by omega) ?_ | refine n_some ?_ | rw [List.getD_cons_zero] | rw [List.getD_cons_succ]))
    refine c_if (fun h3 => ?_) (fun h3 => ?_)
    · rw [if_pos h3] at h
      refine j_band (fun K2 hK2 => by (repeat (first | refine s_p ?_ | refine s_c (by omega) ?_ | refine S.ld ?_ | refine S.ldB ?_ | refine S.ce ?_ | refine S.ceB ?_ | refine s_q ?_ | refine s_qc (by omega) ?_ | refine n_some ?_ | rw [List.getD_cons_zero] | rw [List.getD_cons_succ])); exact hK2) ?_
      refine j_band (fun K2 hK2 => hK2) ?_
      rw [decide_eq_decide.2 (int_one t.of.length)]
      exact h _ S.ext
    rw [if_neg h3] at h
    (repeat (first | refine s_p ?_ | refine s_c (by omega) ?_ | refine S.ld ?_ | refine S.ldB ?_ | refine S.ce ?_ | refine S.ceB ?_ | refine s_q ?_ | refine s_qc (by omega) ?_ | refine n_some ?_ | rw [List.getD_cons_zero] | rw [List.getD_cons_succ]))
    refine c_if (fun h4 => ?_) (fun h4 => ?_)
    · rw [if_pos h4] at h
      (repeat (first | refine s_p ?_ | refine s_c (by omega) ?_ | refine S.ld ?_ | refine S.ldB ?_ | refine S.ce ?_ | refine S.ceB ?_ | refine s_q ?_ | refine s_qc (by omega) ?_ | refine n_some ?_ | rw [List.getD_cons_zero] | rw [List.getD_cons_succ]))
      refine j_band (fun K2 hK2 => by (repeat (first | refine s_p ?_ | refine s_c (by omega) ?_ | refine S.ld ?_ | refine S.ldB ?_ | refine S.ce ?_ | refine S.ceB ?_ | refine s_q ?_ | refine s_qc (by omega) ?_ | refine n_some ?_ | rw [List.getD_cons_zero] | rw [List.getD_cons_succ])); exact hK2) ?_
      refine j_band (fun K2 hK2 => hK2) ?_
      rw [decide_eq_decide.2 (int_one t.of.length)]
      exact h _ S.ext
    rw [if_neg h4] at h
    exact h _ S.ext
theorem lookB_succ (structs : Int) (n : Nat) (t : TyD) : lookB structs (n + 1) t = (if t.k = 1 ∨ t.k = 2 then (!t.m && decide (t.re = 0)) && decide (t.st = 0) && decide (t.of.length = 0)
      else if t.k = 5 then (!t.m && decide (t.re = 0)) && decide (t.of.length = 0) && decide (0 ≤ t.st) && decide (t.st < structs)
      else if t.k = 3 then (!t.m && decide (t.re = 0)) && decide (t.st = 0) && (decide (t.of.length = 1) && inB structs n t)
      else if t.k = 4 then decide (-1 ≤ t.re) && decide (t.st = 0) && (decide (t.of.length = 1) && inB structs n t)
      else false) := rfl
theorem c_ref06_look : ∀ (n : Nat) {t : TyD} {w : World} {r : Gh} {v : Value} {structs : Int} {K : Value → World → Prop}, n ≤ 1000 → Holds r w → TyG r v t →
    (∀ w', Ext w w' → K (.bool (lookB structs n t)) w') → oCall Tryd.prog Tryd.n_ref06_look #[v, .int .i64 structs, .int .i64 (n : Int)] w K := by
  intro n
  induction n with
  | zero =>
    intro t w r v structs K _ hr hv h
    refine Tryd.ok_ref06_look ?_
    unfold Tryd.F_ref06_look
    have S := St.start hr
    refine S.box fun b2 w1 S => ?_
    (repeat (first | refine s_p ?_ | refine s_c (by omega) ?_ | refine S.ld ?_ | refine S.ldB ?_ | refine S.ce ?_ | refine S.ceB ?_ | refine s_q ?_ | refine s_qc (by omega) ?_ | refine n_some ?_ | rw [List.getD_cons_zero] | rw [List.getD_cons_succ]))
    exact h _ S.ext
  | succ n ih =>
    intro t w r v structs K hn hr hv h
    refine Tryd.ok_ref06_look ?_
    unfold Tryd.F_ref06_look
    obtain ⟨p, cap, rfl, _, _, hof⟩ := hv
    have S := St.start hr
    refine S.box fun b2 w1 S => ?_
    (repeat (first | refine s_p ?_ | refine s_c (by omega) ?_ | refine S.ld ?_ | refine S.ldB ?_ | refine S.ce ?_ | refine S.ceB ?_ | refine s_q ?_ | refine s_qc (by omega) ?_ | refine n_some ?_ | rw [List.getD_cons_zero] | rw [List.getD_cons_succ]))
    intro K11 hK11
    (repeat (first | refine s_p ?_ | refine s_c (by omega) ?_ | refine S.ld ?_ | refine S.ldB ?_ | refine S.ce ?_ | refine S.ceB ?_ | refine s_q ?_ | refine s_qc (by omega) ?_ | refine n_some ?_ | rw [List.getD_cons_zero] | rw [List.getD_cons_succ]))
    refine k_cor (c := decide (t.k = 2)) (hK11 _ _ fun _ => ?_) fun _ hk => ?_
    rotate_left
    · (repeat (first | refine s_p ?_ | refine s_c (by omega) ?_ | refine S.ld ?_ | refine S.ldB ?_ | refine S.ce ?_ | refine S.ceB ?_ | refine s_q ?_ | refine s_qc (by omega) ?_ | refine n_some ?_ | rw [List.getD_cons_zero] | rw [List.getD_cons_succ])); exact hk
    simp only [List.getD_cons_zero]
    rw [lookB_succ] at h
    refine c_b (fun h12 => ?_) (fun h12 => ?_)
    · have h12 : t.k = 1 ∨ t.k = 2 := by simpa using h12
      rw [if_pos h12] at h
      (repeat (first | refine s_p ?_ | refine s_c (by omega) ?_ | refine S.ld ?_ | refine S.ldB ?_ | refine S.ce ?_ | refine S.ceB ?_ | refine s_q ?_ | refine s_qc (by omega) ?_ | refine n_some ?_ | rw [List.getD_cons_zero] | rw [List.getD_cons_succ]))
      refine j_band (fun K2 hK2 => by (repeat (first | refine s_p ?_ | refine s_c (by omega) ?_ | refine S.ld ?_ | refine S.ldB ?_ | refine S.ce ?_ | refine S.ceB ?_ | refine s_q ?_ | refine s_qc (by omega) ?_ | refine n_some ?_ | rw [List.getD_cons_zero] | rw [List.getD_cons_succ])); exact hK2) ?_
      refine j_band (fun K2 hK2 => by (repeat (first | refine s_p ?_ | refine s_c (by omega) ?_ | refine S.ld ?_ | refine S.ldB ?_ | refine S.ce ?_ | refine S.ceB ?_ | refine s_q ?_ | refine s_qc (by omega) ?_ | refine n_some ?_ | rw [List.getD_cons_zero] | rw [List.getD_cons_succ])); exact hK2) ?_
      refine j_band (fun K2 hK2 => by (repeat (first | refine s_p ?_ | refine s_c (by omega) ?_ | refine S.ld ?_ | refine S.ldB ?_ | refine S.ce ?_ | refine S.ceB ?_ | refine s_q ?_ | refine s_qc (by omega) ?_ | refine n_some ?_ | rw [List.getD_cons_zero] | rw [List.getD_cons_succ])); exact hK2) ?_
      rw [decide_eq_decide.2 (int_zero t.of.length)]
      exact h _ S.ext
    have h12 : ¬ (t.k = 1 ∨ t.k = 2) := by simpa using h12
    rw [if_neg h12] at h
    (repeat (first | refine s_p ?_ | refine s_c (by omega) ?_ | refine S.ld ?_ | refine S.ldB ?_ | refine S.ce ?_ | refine S.ceB ?_ | refine s_q ?_ | refine s_qc (by omega) ?_ | refine n_some ?_ | rw [List.getD_cons_zero] | rw [List.getD_cons_succ]))
    refine c_if (fun h5 => ?_) (fun h5 => ?_)
    · rw [if_pos h5] at h
      (repeat (first | refine s_p ?_ | refine s_c (by omega) ?_ | refine S.ld ?_ | refine S.ldB ?_ | refine S.ce ?_ | refine S.ceB ?_ | refine s_q ?_ | refine s_qc (by omega) ?_ | refine n_some ?_ | rw [List.getD_cons_zero] | rw [List.getD_cons_succ]))
      refine j_band (fun K2 hK2 => by (repeat (first | refine s_p ?_ | refine s_c (by omega) ?_ | refine S.ld ?_ | refine S.ldB ?_ | refine S.ce ?_ | refine S.ceB ?_ | refine s_q ?_ | refine s_qc (by omega) ?_ | refine n_some ?_ | rw [List.getD_cons_zero] | rw [List.getD_cons_succ])); exact hK2) ?_
      refine j_band (fun K2 hK2 => by (repeat (first | refine s_p ?_ | refine s_c (by omega) ?_ | refine S.ld ?_ | refine S.ldB ?_ | refine S.ce ?_ | refine S.ceB ?_ | refine s_q ?_ | refine s_qc (by omega) ?_ | refine n_some ?_ | rw [List.getD_cons_zero] | rw [List.getD_cons_succ])); exact hK2) ?_
      refine j_band (fun K2 hK2 => by (repeat (first | refine s_p ?_ | refine s_c (by omega) ?_ | refine S.ld ?_ | refine S.ldB ?_ | refine S.ce ?_ | refine S.ceB ?_ | refine s_q ?_ | refine s_qc (by omega) ?_ | refine n_some ?_ | rw [List.getD_cons_zero] | rw [List.getD_cons_succ])); exact hK2) ?_
      refine j_band (fun K2 hK2 => by (repeat (first | refine s_p ?_ | refine s_c (by omega) ?_ | refine S.ld ?_ | refine S.ldB ?_ | refine S.ce ?_ | refine S.ceB ?_ | refine s_q ?_ | refine s_qc (by omega) ?_ | refine n_some ?_ | rw [List.getD_cons_zero] | rw [List.getD_cons_succ])); exact hK2) ?_
      rw [decide_eq_decide.2 (int_zero t.of.length)]
      have := h _ S.ext
      simpa only [Bool.and_comm, Bool.and_left_comm, Bool.and_assoc] using this
    rw [if_neg h5] at h
    (repeat (first | refine s_p ?_ | refine s_c (by omega) ?_ | refine S.ld ?_ | refine S.ldB ?_ | refine S.ce ?_ | refine S.ceB ?_ | refine s_q ?_ | refine s_qc (by omega) ?_ | refine n_some ?_ | rw [List.getD_cons_zero] | rw [List.getD_cons_succ]))
    refine c_if (fun h3 => ?_) (fun h3 => ?_)
    · rw [if_pos h3] at h
      (repeat (first | refine s_p ?_ | refine s_c (by omega) ?_ | refine S.ld ?_ | refine S.ldB ?_ | refine S.ce ?_ | refine S.ceB ?_ | refine s_q ?_ | refine s_qc (by omega) ?_ | refine n_some ?_ | rw [List.getD_cons_zero] | rw [List.getD_cons_succ]))
      refine j_band (fun K2 hK2 => by (repeat (first | refine s_p ?_ | refine s_c (by omega) ?_ | refine S.ld ?_ | refine S.ldB ?_ | refine S.ce ?_ | refine S.ceB ?_ | refine s_q ?_ | refine s_qc (by omega) ?_ | refine n_some ?_ | rw [List.getD_cons_zero] | rw [List.getD_cons_succ])); exact hK2) ?_
      refine j_band (fun K2 hK2 => by (repeat (first | refine s_p ?_ | refine s_c (by omega) ?_ | refine S.ld ?_ | refine S.ldB ?_ | refine S.ce ?_ | refine S.ceB ?_ | refine s_q ?_ | refine s_qc (by omega) ?_ | refine n_some ?_ | rw [List.getD_cons_zero] | rw [List.getD_cons_succ])); exact hK2) ?_
      refine j_band (fun K2 hK2 => by (repeat (first | refine s_p ?_ | refine s_c (by omega) ?_ | refine S.ld ?_ | refine S.ldB ?_ | refine S.ce ?_ | refine S.ceB ?_ | refine s_q ?_ | refine s_qc (by omega) ?_ | refine n_some ?_ | rw [List.getD_cons_zero] | rw [List.getD_cons_succ])); exact hK2) ?_
      refine j_bandE (c := inB structs n t) (fun hb K2 hK2 => ?_) fun w5 e5 => ?_
      · have hlen : t.of.length = 1 := by simp only [Bool.and_eq_true, decide_eq_true_eq] at hb; omega
        (repeat (first | refine s_p ?_ | refine s_c (by omega) ?_ | refine S.ld ?_ | refine S.ldB ?_ | refine S.ce ?_ | refine S.ceB ?_ | refine s_q ?_ | refine s_qc (by omega) ?_ | refine n_some ?_ | rw [List.getD_cons_zero] | rw [List.getD_cons_succ]))
        obtain ⟨b, off, c, rfl, hc, hcell, ht⟩ := ty_elem S hof (i := 0) (by omega)
        (repeat (first | refine s_p ?_ | refine s_c (by omega) ?_ | refine S.ld ?_ | refine S.ldB ?_ | refine S.ce ?_ | refine S.ceB ?_ | refine s_q ?_ | refine s_qc (by omega) ?_ | refine n_some ?_ | rw [List.getD_cons_zero] | rw [List.getD_cons_succ]))
        refine s_ldN (n := 5) hc (by simpa using hcell) ?_
        (repeat (first | refine s_p ?_ | refine s_c (by omega) ?_ | refine S.ld ?_ | refine S.ldB ?_ | refine S.ce ?_ | refine S.ceB ?_ | refine s_q ?_ | refine s_qc (by omega) ?_ | refine n_some ?_ | rw [List.getD_cons_zero] | rw [List.getD_cons_succ]))
        rw [show ((n + 1 : Nat) : Int) - 1 = (n : Int) by omega]
        refine ih (by omega) S.holds ht fun w6 e6 => ?_
        rw [← inB_of]
        exact hK2 _ e6
      have S := S.go e5
      rw [decide_eq_decide.2 (int_one t.of.length)]
      have := h _ S.ext
      simpa only [Bool.and_assoc] using this
    rw [if_neg h3] at h
    (repeat (first | refine s_p ?_ | refine s_c (by omega) ?_ | refine S.ld ?_ | refine S.ldB ?_ | refine S.ce ?_ | refine S.ceB ?_ | refine s_q ?_ | refine s_qc (by omega) ?_ | refine n_some ?_ | rw [List.getD_cons_zero] | rw [List.getD_cons_succ]))
    refine c_if (fun h4 => ?_) (fun h4 => ?_)
    · rw [if_pos h4] at h
      (repeat (first | refine s_p ?_ | refine s_c (by omega) ?_ | refine S.ld ?_ | refine S.ldB ?_ | refine S.ce ?_ | refine S.ceB ?_ | refine s_q ?_ | refine s_qc (by omega) ?_ | refine n_some ?_ | rw [List.getD_cons_zero] | rw [List.getD_cons_succ]))
      refine j_band (fun K2 hK2 => by (repeat (first | refine s_p ?_ | refine s_c (by omega) ?_ | refine S.ld ?_ | refine S.ldB ?_ | refine S.ce ?_ | refine S.ceB ?_ | refine s_q ?_ | refine s_qc (by omega) ?_ | refine n_some ?_ | rw [List.getD_cons_zero] | rw [List.getD_cons_succ])); exact hK2) ?_
      refine j_band (fun K2 hK2 => by (repeat (first | refine s_p ?_ | refine s_c (by omega) ?_ | refine S.ld ?_ | refine S.ldB ?_ | refine S.ce ?_ | refine S.ceB ?_ | refine s_q ?_ | refine s_qc (by omega) ?_ | refine n_some ?_ | rw [List.getD_cons_zero] | rw [List.getD_cons_succ])); exact hK2) ?_
      refine j_bandE (c := inB structs n t) (fun hb K2 hK2 => ?_) fun w5 e5 => ?_
      · have hlen : t.of.length = 1 := by simp only [Bool.and_eq_true, decide_eq_true_eq] at hb; omega
        (repeat (first | refine s_p ?_ | refine s_c (by omega) ?_ | refine S.ld ?_ | refine S.ldB ?_ | refine S.ce ?_ | refine S.ceB ?_ | refine s_q ?_ | refine s_qc (by omega) ?_ | refine n_some ?_ | rw [List.getD_cons_zero] | rw [List.getD_cons_succ]))
        obtain ⟨b, off, c, rfl, hc, hcell, ht⟩ := ty_elem S hof (i := 0) (by omega)
        (repeat (first | refine s_p ?_ | refine s_c (by omega) ?_ | refine S.ld ?_ | refine S.ldB ?_ | refine S.ce ?_ | refine S.ceB ?_ | refine s_q ?_ | refine s_qc (by omega) ?_ | refine n_some ?_ | rw [List.getD_cons_zero] | rw [List.getD_cons_succ]))
        refine s_ldN (n := 5) hc (by simpa using hcell) ?_
        (repeat (first | refine s_p ?_ | refine s_c (by omega) ?_ | refine S.ld ?_ | refine S.ldB ?_ | refine S.ce ?_ | refine S.ceB ?_ | refine s_q ?_ | refine s_qc (by omega) ?_ | refine n_some ?_ | rw [List.getD_cons_zero] | rw [List.getD_cons_succ]))
        rw [show ((n + 1 : Nat) : Int) - 1 = (n : Int) by omega]
        refine ih (by omega) S.holds ht fun w6 e6 => ?_
        rw [← inB_of]
        exact hK2 _ e6
      have S := S.go e5
      rw [decide_eq_decide.2 (int_one t.of.length)]
      have := h _ S.ext
      simpa only [Bool.and_assoc] using this
    rw [if_neg h4] at h
    exact h _ S.ext
/-- may a type be, whichever the structs? -/
def isB (t : TyD) : Bool := lookB 32 48 t
theorem c_types_may {t : TyD} {w : World} {r : Gh} {v : Value} {K : Value → World → Prop} (hr : Holds r w) (hv : TyG r v t) (h : ∀ w', Ext w w' → K (.bool (isB t)) w') : oCall Tryd.prog Tryd.n_types_may #[v] w K := by
  refine Tryd.ok_types_may ?_
  unfold Tryd.F_types_may
  have hv0 := hv
  obtain ⟨p, cap, rfl, _⟩ := hv
  have S := St.start hr
  refine S.box fun b2 w1 S => ?_
  (repeat (first | refine s_p ?_ | refine s_c (by omega) ?_ | refine S.ld ?_ | refine S.ldB ?_ | refine S.ce ?_ | refine S.ceB ?_ | refine s_q ?_ | refine s_qc (by omega) ?_ | refine n_some ?_ | rw [List.getD_cons_zero] | rw [List.getD_cons_succ]))
  exact c_types_look 48 (by decide) S.holds hv0 fun w2 e2 => h _ (S.go e2).ext
theorem c_ref06_Is {t : TyD} {w : World} {r : Gh} {v : Value} {K : Value → World → Prop} (hr : Holds r w) (hv : TyG r v t) (h : ∀ w', Ext w w' → K (.bool (isB t)) w') : oCall Tryd.prog Tryd.n_ref06_Is #[v] w K := by
  refine Tryd.ok_ref06_Is ?_
  unfold Tryd.F_ref06_Is
  have hv0 := hv
  obtain ⟨p, cap, rfl, _⟩ := hv
  have S := St.start hr
  refine S.box fun b2 w1 S => ?_
  (repeat (first | refine s_p ?_ | refine s_c (by omega) ?_ | refine S.ld ?_ | refine S.ldB ?_ | refine S.ce ?_ | refine S.ceB ?_ | refine s_q ?_ | refine s_qc (by omega) ?_ | refine n_some ?_ | rw [List.getD_cons_zero] | rw [List.getD_cons_succ]))
  exact c_ref06_look 48 (by decide) S.holds hv0 fun w2 e2 => h _ (S.go e2).ext
end Go.Proofs
