/-
  Contracts: types that are alike, the same.
-/
import Derived.Test.YtajllnahceaipaaDoorTb
namespace Go.Proofs
open Go.Sh
set_option maxRecDepth 100000

theorem look_cases {s : Int} {n : Nat} {t : TyD} (h : lookB s (n + 1) t = true) : (t.of = [] ∧ (t.k = 1 ∨ t.k = 2 ∨ t.k = 5)) ∨ ∃ u, t.of = [u] ∧ lookB s n u = true ∧ (t.k = 3 ∨ t.k = 4) := by
  rw [lookB_succ] at h
  have one : ∀ {b : Bool}, (b && (decide (t.of.length = 1) && inB s n t)) = true → ∃ u, t.of = [u] ∧ lookB s n u = true := by
    intro b hb
    simp only [Bool.and_eq_true, decide_eq_true_eq] at hb
    obtain ⟨_, hl, hi⟩ := hb
    cases t with
    | mk k m re st of =>
      cases of with
      | nil => cases hl
      | cons u l =>
        cases l with
        | nil => exact ⟨u, rfl, hi⟩
        | cons x l => cases hl
  split at h
  · rename_i hk
    simp only [Bool.and_eq_true, decide_eq_true_eq] at h
    exact .inl ⟨List.eq_nil_of_length_eq_zero h.2, hk.elim .inl fun h => .inr (.inl h)⟩
  split at h
  · rename_i hk
    simp only [Bool.and_eq_true, decide_eq_true_eq] at h
    exact .inl ⟨List.eq_nil_of_length_eq_zero h.1.1.2, .inr (.inr hk)⟩
  split at h
  · rename_i hk
    obtain ⟨u, h1, h2⟩ := one h
    exact .inr ⟨u, h1, h2, .inl hk⟩
  split at h
  · rename_i hk
    obtain ⟨u, h1, h2⟩ := one h
    exact .inr ⟨u, h1, h2, .inr hk⟩
  · cases h
/-- are two types, both of which may be, alike? f: of two regions -/
def alikeB (f : Int → Int → Bool) : Nat → TyD → TyD → Bool
  | 0, _, _ => false
  | n + 1, a, b => !(decide (a.k ≠ b.k) || !(a.m == b.m) || decide (a.st ≠ b.st) || !f a.re b.re) && (decide (a.of.length = 0) || (match a.of, b.of with | u :: _, x :: _ => alikeB f n u x | _, _ => false))
theorem alikeB_nil {f : Int → Int → Bool} {n : Nat} {a b : TyD} (h : a.of = []) : alikeB f (n + 1) a b = !(decide (a.k ≠ b.k) || !(a.m == b.m) || decide (a.st ≠ b.st) || !f a.re b.re) := by
  rw [alikeB, h]; simp
theorem alikeB_one {f : Int → Int → Bool} {n : Nat} {a b u x : TyD} (h : a.of = [u]) (h2 : b.of = [x]) : alikeB f (n + 1) a b = (!(decide (a.k ≠ b.k) || !(a.m == b.m) || decide (a.st ≠ b.st) || !f a.re b.re) && alikeB f n u x) := by
  rw [alikeB, h, h2]; simp
theorem alikeB_false {f : Int → Int → Bool} {n : Nat} {a b : TyD} (h : (decide (a.k ≠ b.k) || !(a.m == b.m) || decide (a.st ≠ b.st) || !f a.re b.re) = true) : alikeB f (n + 1) a b = false := by
  rw [alikeB, h]; simp

theorem c_types_alike {f : Int → Int → Bool} {fv : Value} (hf : ∀ (x y : Int) (w : World) (K : Value → World → Prop), K (.bool (f x y)) w → oCallV Tryd.prog fv #[.int .i64 x, .int .i64 y] w K) {s : Int} :
    ∀ (n : Nat) {a b : TyD} {w : World} {r : Gh} {va vb : Value} {K : Value → World → Prop}, Holds r w → TyG r va a → TyG r vb b → lookB s n a = true → lookB s n b = true →
    (∀ w', Ext w w' → K (.bool (alikeB f n a b)) w') → oCall Tryd.prog Tryd.n_types_alike #[va, vb, fv] w K := by
  intro n
  induction n with
  | zero => intro a b w r va vb K _ _ _ h; cases h
  | succ n ih =>
    intro a b w r va vb K hr hva hvb ha hb h
    refine Tryd.ok_types_alike ?_
    unfold Tryd.F_types_alike
    obtain ⟨p, cap, rfl, _, _, hofa⟩ := hva
    obtain ⟨q, cap', rfl, _, _, hofb⟩ := hvb
    have S := St.start hr
    refine S.box fun b3 w1 S => ?_
    refine S.box fun b4 w2 S => ?_
    (repeat (first | refine s_p ?_ | refine s_c (by omega) ?_ | refine S.ld ?_ | refine S.ldB ?_ | refine S.ce ?_ | refine S.ceB ?_ | refine s_q ?_ | refine s_qc (by omega) ?_ | refine n_some ?_ | rw [List.getD_cons_zero] | rw [List.getD_cons_succ]))
    refine j_bor (fun K2 hK2 => by (repeat (first | refine s_p ?_ | refine s_c (by omega) ?_ | refine S.ld ?_ | refine S.ldB ?_ | refine S.ce ?_ | refine S.ceB ?_ | refine s_q ?_ | refine s_qc (by omega) ?_ | refine n_some ?_ | rw [List.getD_cons_zero] | rw [List.getD_cons_succ])); exact hK2) ?_
    refine j_bor (fun K2 hK2 => by (repeat (first | refine s_p ?_ | refine s_c (by omega) ?_ | refine S.ld ?_ | refine S.ldB ?_ | refine S.ce ?_ | refine S.ceB ?_ | refine s_q ?_ | refine s_qc (by omega) ?_ | refine n_some ?_ | rw [List.getD_cons_zero] | rw [List.getD_cons_succ])); exact hK2) ?_
    refine j_bor (c := !f a.re b.re) (fun K2 hK2 => ?_) ?_
    · (repeat (first | refine s_p ?_ | refine s_c (by omega) ?_ | refine S.ld ?_ | refine S.ldB ?_ | refine S.ce ?_ | refine S.ceB ?_ | refine s_q ?_ | refine s_qc (by omega) ?_ | refine n_some ?_ | rw [List.getD_cons_zero] | rw [List.getD_cons_succ]))
      refine hf _ _ _ _ ?_
      (repeat (first | refine s_p ?_ | refine s_c (by omega) ?_ | refine S.ld ?_ | refine S.ldB ?_ | refine S.ce ?_ | refine S.ceB ?_ | refine s_q ?_ | refine s_qc (by omega) ?_ | refine n_some ?_ | rw [List.getD_cons_zero] | rw [List.getD_cons_succ]))
      exact hK2
    refine c_b (fun hne => ?_) (fun heq => ?_)
    · rw [alikeB_false hne] at h
      exact h _ S.ext
    have S := S.go (Ext.drew _)
    (repeat (first | refine s_p ?_ | refine s_c (by omega) ?_ | refine S.ld ?_ | refine S.ldB ?_ | refine S.ce ?_ | refine S.ceB ?_ | refine s_q ?_ | refine s_qc (by omega) ?_ | refine n_some ?_ | rw [List.getD_cons_zero] | rw [List.getD_cons_succ]))
    have hk : a.k = b.k := by
      simp only [Bool.or_eq_false_iff, decide_eq_false_iff_not, Classical.not_not] at heq
      exact heq.1.1.1
    rcases look_cases ha with ⟨hof, hka⟩ | ⟨u, hof, hu, hka⟩
    · rw [alikeB_nil hof, heq] at h
      refine j_or (fun _ => ?_) (fun hn => absurd (by rw [hof]; rfl) hn)
      exact h _ S.ext
    · rcases look_cases hb with ⟨_, hkb⟩ | ⟨x, hofx, hx, hkb⟩
      · exfalso; omega
      rw [alikeB_one hof hofx, heq] at h
      have hla : 0 < a.of.length := by rw [hof]; exact Nat.one_pos
      have hlb : 0 < b.of.length := by rw [hofx]; exact Nat.one_pos
      refine j_or (fun hn => by omega) (fun _ => ?_)
      intro K2 hK2
      obtain ⟨ba, oa, ca, rfl, hca, hcella, hta⟩ := ty_elem S hofa hla
      obtain ⟨bb, ob, cb, rfl, hcb, hcellb, htb⟩ := ty_elem S hofb hlb
      have hau : a.of[0] = u := by simp [hof]
      have hbx : b.of[0] = x := by simp [hofx]
      rw [hau] at hta; rw [hbx] at htb
      (repeat (first | refine s_p ?_ | refine s_c (by omega) ?_ | refine S.ld ?_ | refine S.ldB ?_ | refine S.ce ?_ | refine S.ceB ?_ | refine s_q ?_ | refine s_qc (by omega) ?_ | refine n_some ?_ | rw [List.getD_cons_zero] | rw [List.getD_cons_succ]))
      refine s_ldN (n := 5) hca (by simpa using hcella) ?_
      (repeat (first | refine s_p ?_ | refine s_c (by omega) ?_ | refine S.ld ?_ | refine S.ldB ?_ | refine S.ce ?_ | refine S.ceB ?_ | refine s_q ?_ | refine s_qc (by omega) ?_ | refine n_some ?_ | rw [List.getD_cons_zero] | rw [List.getD_cons_succ]))
      refine s_ldN (n := 5) hcb (by simpa using hcellb) ?_
      (repeat (first | refine s_p ?_ | refine s_c (by omega) ?_ | refine S.ld ?_ | refine S.ldB ?_ | refine S.ce ?_ | refine S.ceB ?_ | refine s_q ?_ | refine s_qc (by omega) ?_ | refine n_some ?_ | rw [List.getD_cons_zero] | rw [List.getD_cons_succ]))
      refine ih S.holds hta htb hu hx fun w5 e5 => ?_
      refine hK2 _ _ ?_
      simpa using h _ (S.go e5).ext
/-- both may be, and are alike -/
def alikeT (f : Int → Int → Bool) (a b : TyD) : Bool := (isB a && isB b) && alikeB f 48 a b
def fAll (_ _ : Int) : Bool := true
def fEq (x y : Int) : Bool := decide (x = y)
theorem hf_fAll (x y : Int) (w : World) (K : Value → World → Prop) (hk : K (.bool (fAll x y)) w) : oCallV Tryd.prog (.func (.func Tryd.n_types_Alike_1) #[] #[]) #[.int .i64 x, .int .i64 y] w K := by
  refine v_func (by kernel_rfl) ?_
  refine Tryd.ok_types_Alike_1 (t0 := .int .i64 x) (t1 := .int .i64 y) ?_
  unfold Tryd.F_types_Alike_1
  exact hk
theorem hf_fEq (x y : Int) (w : World) (K : Value → World → Prop) (hk : K (.bool (fEq x y)) w) : oCallV Tryd.prog (.func (.func Tryd.n_types_Same_1) #[] #[]) #[.int .i64 x, .int .i64 y] w K := by
  refine v_func (by kernel_rfl) ?_
  refine Tryd.ok_types_Same_1 (t0 := .int .i64 x) (t1 := .int .i64 y) ?_
  unfold Tryd.F_types_Same_1
  (first | refine s_p ?_ | refine s_c (by omega) ?_)
  exact hk
theorem c_types_Alike {a b : TyD} {w : World} {r : Gh} {va vb : Value} {K : Value → World → Prop} (hr : Holds r w) (ha : TyG r va a) (hb : TyG r vb b)
    (h : ∀ w', Ext w w' → K (.bool (alikeT fAll a b)) w') : oCall Tryd.prog Tryd.n_types_Alike #[va, vb] w K := by
  refine Tryd.ok_types_Alike ?_
  unfold Tryd.F_types_Alike
  have ha0 := ha; have hb0 := hb
  obtain ⟨p, cap, rfl, _⟩ := ha
  obtain ⟨q, cap', rfl, _⟩ := hb
  have S := St.start hr
  refine S.box fun b2 w1 S => ?_
  refine S.box fun b3 w2 S => ?_
  (repeat (first | refine s_p ?_ | refine s_c (by omega) ?_ | refine S.ld ?_ | refine S.ldB ?_ | refine S.ce ?_ | refine S.ceB ?_ | refine s_q ?_ | refine s_qc (by omega) ?_ | refine n_some ?_ | rw [List.getD_cons_zero] | rw [List.getD_cons_succ]))
  refine c_types_may S.holds ha0 fun w3 e3 => ?_
  have S := S.go e3
  refine j_bandE (c := isB b) (fun _ K2 hK2 => ?_) fun w4 e4 => ?_
  · (repeat (first | refine s_p ?_ | refine s_c (by omega) ?_ | refine S.ld ?_ | refine S.ldB ?_ | refine S.ce ?_ | refine S.ceB ?_ | refine s_q ?_ | refine s_qc (by omega) ?_ | refine n_some ?_ | rw [List.getD_cons_zero] | rw [List.getD_cons_succ]))
    exact c_types_may S.holds hb0 fun w4 e4 => hK2 _ e4
  have S := S.go e4
  refine j_bandE (c := alikeB fAll 48 a b) (fun hab K2 hK2 => ?_) fun w5 e5 => h _ (S.go e5).ext
  simp only [Bool.and_eq_true] at hab
  (repeat (first | refine s_p ?_ | refine s_c (by omega) ?_ | refine S.ld ?_ | refine S.ldB ?_ | refine S.ce ?_ | refine S.ceB ?_ | refine s_q ?_ | refine s_qc (by omega) ?_ | refine n_some ?_ | rw [List.getD_cons_zero] | rw [List.getD_cons_succ]))
  refine c_types_alike (f := fAll) (s := 32) hf_fAll 48 S.holds ha0 hb0 hab.1 hab.2 fun w5 e5 => ?_
  exact hK2 _ e5
theorem c_types_Same {a b : TyD} {w : World} {r : Gh} {va vb : Value} {K : Value → World → Prop} (hr : Holds r w) (ha : TyG r va a) (hb : TyG r vb b)
    (h : ∀ w', Ext w w' → K (.bool (alikeT fEq a b)) w') : oCall Tryd.prog Tryd.n_types_Same #[va, vb] w K := by
  refine Tryd.ok_types_Same ?_
  unfold Tryd.F_types_Same
  have ha0 := ha; have hb0 := hb
  obtain ⟨p, cap, rfl, _⟩ := ha
  obtain ⟨q, cap', rfl, _⟩ := hb
  have S := St.start hr
  refine S.box fun b2 w1 S => ?_
  refine S.box fun b3 w2 S => ?_
  (repeat (first | refine s_p ?_ | refine s_c (by omega) ?_ | refine S.ld ?_ | refine S.ldB ?_ | refine S.ce ?_ | refine S.ceB ?_ | refine s_q ?_ | refine s_qc (by omega) ?_ | refine n_some ?_ | rw [List.getD_cons_zero] | rw [List.getD_cons_succ]))
  refine c_types_may S.holds ha0 fun w3 e3 => ?_
  have S := S.go e3
  refine j_bandE (c := isB b) (fun _ K2 hK2 => ?_) fun w4 e4 => ?_
  · (repeat (first | refine s_p ?_ | refine s_c (by omega) ?_ | refine S.ld ?_ | refine S.ldB ?_ | refine S.ce ?_ | refine S.ceB ?_ | refine s_q ?_ | refine s_qc (by omega) ?_ | refine n_some ?_ | rw [List.getD_cons_zero] | rw [List.getD_cons_succ]))
    exact c_types_may S.holds hb0 fun w4 e4 => hK2 _ e4
  have S := S.go e4
  refine j_bandE (c := alikeB fEq 48 a b) (fun hab K2 hK2 => ?_) fun w5 e5 => h _ (S.go e5).ext
  simp only [Bool.and_eq_true] at hab
  (repeat (first | refine s_p ?_ | refine s_c (by omega) ?_ | refine S.ld ?_ | refine S.ldB ?_ | refine S.ce ?_ | refine S.ceB ?_ | refine s_q ?_ | refine s_qc (by omega) ?_ | refine n_some ?_ | rw [List.getD_cons_zero] | rw [List.getD_cons_succ]))
  refine c_types_alike (f := fEq) (s := 32) hf_fEq 48 S.holds ha0 hb0 hab.1 hab.2 fun w5 e5 => ?_
  exact hK2 _ e5
def fReg (g : Bool) (x y : Int) : Bool := !(g && decide (x ≠ y))
theorem c_ref06_alike {g : Bool} {s : Int} :
    ∀ (n : Nat) {a b : TyD} {w : World} {r : Gh} {va vb : Value} {K : Value → World → Prop}, Holds r w → TyG r va a → TyG r vb b → lookB s n a = true → lookB s n b = true →
    (∀ w', Ext w w' → K (.bool (alikeB (fReg g) n a b)) w') → oCall Tryd.prog Tryd.n_ref06_alike #[va, vb, .bool g] w K := by
  intro n
  induction n with
  | zero => intro a b w r va vb K _ _ _ h; cases h
  | succ n ih =>
    intro a b w r va vb K hr hva hvb ha hb h
    refine Tryd.ok_ref06_alike ?_
    unfold Tryd.F_ref06_alike
    obtain ⟨p, cap, rfl, _, _, hofa⟩ := hva
    obtain ⟨q, cap', rfl, _, _, hofb⟩ := hvb
    have S := St.start hr
    refine S.box fun b3 w1 S => ?_
    refine S.box fun b4 w2 S => ?_
    (repeat (first | refine s_p ?_ | refine s_c (by omega) ?_ | refine S.ld ?_ | refine S.ldB ?_ | refine S.ce ?_ | refine S.ceB ?_ | refine s_q ?_ | refine s_qc (by omega) ?_ | refine n_some ?_ | rw [List.getD_cons_zero] | rw [List.getD_cons_succ]))
    refine j_bor (fun K2 hK2 => by (repeat (first | refine s_p ?_ | refine s_c (by omega) ?_ | refine S.ld ?_ | refine S.ldB ?_ | refine S.ce ?_ | refine S.ceB ?_ | refine s_q ?_ | refine s_qc (by omega) ?_ | refine n_some ?_ | rw [List.getD_cons_zero] | rw [List.getD_cons_succ])); exact hK2) ?_
    refine j_bor (fun K2 hK2 => by (repeat (first | refine s_p ?_ | refine s_c (by omega) ?_ | refine S.ld ?_ | refine S.ldB ?_ | refine S.ce ?_ | refine S.ceB ?_ | refine s_q ?_ | refine s_qc (by omega) ?_ | refine n_some ?_ | rw [List.getD_cons_zero] | rw [List.getD_cons_succ])); exact hK2) ?_
    refine j_borand (c := decide (a.re ≠ b.re)) (fun K2 hK2 => ?_) ?_
    · (repeat (first | refine s_p ?_ | refine s_c (by omega) ?_ | refine S.ld ?_ | refine S.ldB ?_ | refine S.ce ?_ | refine S.ceB ?_ | refine s_q ?_ | refine s_qc (by omega) ?_ | refine n_some ?_ | rw [List.getD_cons_zero] | rw [List.getD_cons_succ]))
      exact hK2
    have hfr : (g && decide (a.re ≠ b.re)) = !fReg g a.re b.re := by simp [fReg]
    rw [hfr]
    refine c_b (fun hne => ?_) (fun heq => ?_)
    · rw [alikeB_false hne] at h
      exact h _ S.ext
    have S := S.go (Ext.drew _)
    (repeat (first | refine s_p ?_ | refine s_c (by omega) ?_ | refine S.ld ?_ | refine S.ldB ?_ | refine S.ce ?_ | refine S.ceB ?_ | refine s_q ?_ | refine s_qc (by omega) ?_ | refine n_some ?_ | rw [List.getD_cons_zero] | rw [List.getD_cons_succ]))
    have hk : a.k = b.k := by
      simp only [Bool.or_eq_false_iff, decide_eq_false_iff_not, Classical.not_not] at heq
      exact heq.1.1.1
    rcases look_cases ha with ⟨hof, hka⟩ | ⟨u, hof, hu, hka⟩
    · rw [alikeB_nil hof, heq] at h
      refine j_or (fun _ => ?_) (fun hn => absurd (by rw [hof]; rfl) hn)
      exact h _ S.ext
    · rcases look_cases hb with ⟨_, hkb⟩ | ⟨x, hofx, hx, hkb⟩
      · exfalso; omega
      rw [alikeB_one hof hofx, heq] at h
      have hla : 0 < a.of.length := by rw [hof]; exact Nat.one_pos
      have hlb : 0 < b.of.length := by rw [hofx]; exact Nat.one_pos
      refine j_or (fun hn => by omega) (fun _ => ?_)
      intro K2 hK2
      obtain ⟨ba, oa, ca, rfl, hca, hcella, hta⟩ := ty_elem S hofa hla
      obtain ⟨bb, ob, cb, rfl, hcb, hcellb, htb⟩ := ty_elem S hofb hlb
      have hau : a.of[0] = u := by simp [hof]
      have hbx : b.of[0] = x := by simp [hofx]
      rw [hau] at hta; rw [hbx] at htb
      (repeat (first | refine s_p ?_ | refine s_c (by omega) ?_ | refine S.ld ?_ | refine S.ldB ?_ | refine S.ce ?_ | refine S.ceB ?_ | refine s_q ?_ | refine s_qc (by omega) ?_ | refine n_some ?_ | rw [List.getD_cons_zero] | rw [List.getD_cons_succ]))
      refine s_ldN (n := 5) hca (by simpa using hcella) ?_
      (repeat (first | refine s_p ?_ | refine s_c (by omega) ?_ | refine S.ld ?_ | refine S.ldB ?_ | refine S.ce ?_ | refine S.ceB ?_ | refine s_q ?_ | refine s_qc (by omega) ?_ | refine n_some ?_ | rw [List.getD_cons_zero] | rw [List.getD_cons_succ]))
      refine s_ldN (n := 5) hcb (by simpa using hcellb) ?_
      (repeat (first | refine s_p ?_ | refine s_c (by omega) ?_ | refine S.ld ?_ | refine S.ldB ?_ | refine S.ce ?_ | refine S.ceB ?_ | refine s_q ?_ | refine s_qc (by omega) ?_ | refine n_some ?_ | rw [List.getD_cons_zero] | rw [List.getD_cons_succ]))
      refine ih S.holds hta htb hu hx fun w5 e5 => ?_
      refine hK2 _ _ ?_
      simpa using h _ (S.go e5).ext
theorem fReg_false : fReg false = fAll := by funext x y; simp [fReg, fAll]
theorem fReg_true : fReg true = fEq := by funext x y; simp [fReg, fEq]
theorem c_ref06_Alike {a b : TyD} {w : World} {r : Gh} {va vb : Value} {K : Value → World → Prop} (hr : Holds r w) (ha : TyG r va a) (hb : TyG r vb b)
    (h : ∀ w', Ext w w' → K (.bool (alikeT fAll a b)) w') : oCall Tryd.prog Tryd.n_ref06_Alike #[va, vb] w K := by
  refine Tryd.ok_ref06_Alike ?_
  unfold Tryd.F_ref06_Alike
  have ha0 := ha; have hb0 := hb
  obtain ⟨p, cap, rfl, _⟩ := ha
  obtain ⟨q, cap', rfl, _⟩ := hb
  have S := St.start hr
  refine S.box fun b2 w1 S => ?_
  refine S.box fun b3 w2 S => ?_
  (repeat (first | refine s_p ?_ | refine s_c (by omega) ?_ | refine S.ld ?_ | refine S.ldB ?_ | refine S.ce ?_ | refine S.ceB ?_ | refine s_q ?_ | refine s_qc (by omega) ?_ | refine n_some ?_ | rw [List.getD_cons_zero] | rw [List.getD_cons_succ]))
  refine c_ref06_Is S.holds ha0 fun w3 e3 => ?_
  have S := S.go e3
  refine j_bandE (c := isB b) (fun _ K2 hK2 => ?_) fun w4 e4 => ?_
  · (repeat (first | refine s_p ?_ | refine s_c (by omega) ?_ | refine S.ld ?_ | refine S.ldB ?_ | refine S.ce ?_ | refine S.ceB ?_ | refine s_q ?_ | refine s_qc (by omega) ?_ | refine n_some ?_ | rw [List.getD_cons_zero] | rw [List.getD_cons_succ]))
    exact c_ref06_Is S.holds hb0 fun w4 e4 => hK2 _ e4
  have S := S.go e4
  refine j_bandE (c := alikeB fAll 48 a b) (fun hab K2 hK2 => ?_) fun w5 e5 => h _ (S.go e5).ext
  simp only [Bool.and_eq_true] at hab
  (repeat (first | refine s_p ?_ | refine s_c (by omega) ?_ | refine S.ld ?_ | refine S.ldB ?_ | refine S.ce ?_ | refine S.ceB ?_ | refine s_q ?_ | refine s_qc (by omega) ?_ | refine n_some ?_ | rw [List.getD_cons_zero] | rw [List.getD_cons_succ]))
  refine c_ref06_alike 48 S.holds ha0 hb0 hab.1 hab.2 fun w5 e5 => ?_
  rw [fReg_false]; exact hK2 _ e5
theorem c_ref06_Same {a b : TyD} {w : World} {r : Gh} {va vb : Value} {K : Value → World → Prop} (hr : Holds r w) (ha : TyG r va a) (hb : TyG r vb b)
    (h : ∀ w', Ext w w' → K (.bool (alikeT fEq a b)) w') : oCall Tryd.prog Tryd.n_ref06_Same #[va, vb] w K := by
  refine Tryd.ok_ref06_Same ?_
  unfold Tryd.F_ref06_Same
  have ha0 := ha; have hb0 := hb
  obtain ⟨p, cap, rfl, _⟩ := ha
  obtain ⟨q, cap', rfl, _⟩ := hb
  have S := St.start hr
  refine S.box fun b2 w1 S => ?_
  refine S.box fun b3 w2 S => ?_
  (repeat (first | refine s_p ?_ | refine s_c (by omega) ?_ | refine S.ld ?_ | refine S.ldB ?_ | refine S.ce ?_ | refine S.ceB ?_ | refine s_q ?_ | refine s_qc (by omega) ?_ | refine n_some ?_ | rw [List.getD_cons_zero] | rw [List.getD_cons_succ]))
  refine c_ref06_Is S.holds ha0 fun w3 e3 => ?_
  have S := S.go e3
  refine j_bandE (c := isB b) (fun _ K2 hK2 => ?_) fun w4 e4 => ?_
  · (repeat (first | refine s_p ?_ | refine s_c (by omega) ?_ | refine S.ld ?_ | refine S.ldB ?_ | refine S.ce ?_ | refine S.ceB ?_ | refine s_q ?_ | refine s_qc (by omega) ?_ | refine n_some ?_ | rw [List.getD_cons_zero] | rw [List.getD_cons_succ]))
    exact c_ref06_Is S.holds hb0 fun w4 e4 => hK2 _ e4
  have S := S.go e4
  refine j_bandE (c := alikeB fEq 48 a b) (fun hab K2 hK2 => ?_) fun w5 e5 => h _ (S.go e5).ext
  simp only [Bool.and_eq_true] at hab
  (repeat (first | refine s_p ?_ | refine s_c (by omega) ?_ | refine S.ld ?_ | refine S.ldB ?_ | refine S.ce ?_ | refine S.ceB ?_ | refine s_q ?_ | refine s_qc (by omega) ?_ | refine n_some ?_ | rw [List.getD_cons_zero] | rw [List.getD_cons_succ]))
  refine c_ref06_alike 48 S.holds ha0 hb0 hab.1 hab.2 fun w5 e5 => ?_
  rw [fReg_true]; exact hK2 _ e5
end Go.Proofs
