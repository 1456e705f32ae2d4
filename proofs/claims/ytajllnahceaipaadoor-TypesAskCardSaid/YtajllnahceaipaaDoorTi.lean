/-
  Contracts: the text of a type, of both sides. Itoa of small numbers.
-/
import Derived.Test.YtajllnahceaipaaDoorTh
namespace Go.Proofs
open Go.Sh
set_option maxRecDepth 100000

/-- a number's digits -/
def digsF : Nat → Nat → List UInt8
  | 0, _ => []
  | f + 1, n => if n < 10 then [UInt8.ofNat (48 + n)] else digsF f (n / 10) ++ [UInt8.ofNat (48 + n % 10)]
def itoa (x : Int) : List UInt8 := digsF 20 x.toNat
theorem digsF_len : ∀ f n, (digsF f n).length ≤ f
  | 0, _ => Nat.le_refl _
  | f + 1, n => by
    rw [digsF]; split
    · exact Nat.succ_le_succ (Nat.zero_le _)
    · rw [List.length_append]; exact Nat.succ_le_succ (digsF_len f _)
theorem itoa_len (x : Int) : (itoa x).length ≤ 20 := digsF_len _ _
/-- strconv.Itoa tells this number well, in every world that holds r -/
def ItoaOK (r : Gh) (x : Int) : Prop := ∀ (w : World) (K : Value → World → Prop), Holds r w → (∀ w', Ext w w' → K (.string (bs (itoa x))) w') → oCall Tryd.prog Tryd.n_strconv_Itoa #[.int .i64 x] w K
theorem ItoaOK.up {r s : Gh} {x : Int} (h : ItoaOK r x) [l : Le r s] : ItoaOK s x := fun w K hr k => h w K (hr.le (h := l)) k

def headB (re : Int) (m : Bool) : List UInt8 := ([38] ++ (if 0 ≤ re then [39] ++ itoa re ++ [32] else [])) ++ (if m then [109, 117, 116, 32] else [])
def inText (f : TyD → List UInt8) : List TyD → List UInt8
  | u :: _ => f u
  | [] => []
/-- a type's text -/
def textB : Nat → TyD → List UInt8
  | 0, _ => []
  | n + 1, t => if t.k = 1 then [105, 54, 52] else if t.k = 2 then [98, 111, 111, 108] else
    if t.k = 3 then [66, 111, 120, 60] ++ inText (textB n) t.of ++ [62] else if t.k = 5 then [35] ++ itoa t.st else
    (if headB t.re t.m == [38] && decide (byteAt (inText (textB n) t.of) 0 = 38) then [38, 32] else headB t.re t.m) ++ inText (textB n) t.of
theorem headB_len (re : Int) (m : Bool) : (headB re m).length ≤ 27 := by
  have := itoa_len re
  unfold headB
  split <;> split <;> simp only [List.length_append, List.length_cons, List.length_nil] <;> omega
theorem textB_len : ∀ (n : Nat) (t : TyD), (textB n t).length ≤ 40 * n := by
  intro n
  induction n with
  | zero => intro t; exact Nat.le_refl _
  | succ n ih =>
    intro t
    have hi : (inText (textB n) t.of).length ≤ 40 * n := by
      cases t.of with
      | nil => exact Nat.zero_le _
      | cons u l => exact ih u
    have := itoa_len t.st
    have := headB_len t.re t.m
    rw [textB]
    split
    · simp only [List.length_cons, List.length_nil]; omega
    split
    · simp only [List.length_cons, List.length_nil]; omega
    split
    · simp only [List.length_append, List.length_cons, List.length_nil]; omega
    split
    · simp only [List.length_append, List.length_cons, List.length_nil]; omega
    · rw [List.length_append]
      split
      · simp only [List.length_cons, List.length_nil]; omega
      · omega
theorem headB_pos (re : Int) (m : Bool) : 0 < (headB re m).length := by
  unfold headB; simp only [List.length_append, List.length_cons, List.length_nil]; omega
theorem textB_pos : ∀ (n : Nat) (t : TyD), 0 < (textB (n + 1) t).length := by
  intro n t
  rw [textB]
  have := headB_pos t.re t.m
  split
  · decide
  split
  · decide
  split
  · simp
  split
  · simp
  · rw [List.length_append]
    split
    · simp only [List.length_cons, List.length_nil]; omega
    · omega
/-- Itoa tells all numbers of a type well -/
def NumsOK (r : Gh) (t : TyD) : Prop := ∀ u ∈ t.chain, (0 ≤ u.re → ItoaOK r u.re) ∧ (0 ≤ u.st → ItoaOK r u.st)
theorem NumsOK.up {r s : Gh} {t : TyD} (h : NumsOK r t) [l : Le r s] : NumsOK s t := fun u hu => ⟨fun h0 => ((h u hu).1 h0).up, fun h0 => ((h u hu).2 h0).up⟩
theorem NumsOK.inn {r : Gh} {t u : TyD} (h : NumsOK r t) (ho : t.of = [u]) : NumsOK r u := fun x hx => h x (by rw [TyD.chain_eq, ho]; exact List.mem_cons_of_mem _ hx)
theorem NumsOK.top {r : Gh} {t : TyD} (h : NumsOK r t) : (0 ≤ t.re → ItoaOK r t.re) ∧ (0 ≤ t.st → ItoaOK r t.st) := h t (by rw [TyD.chain_eq]; exact List.mem_cons_self ..)

theorem c_types_text {s : Int} : ∀ (n : Nat) {t : TyD} {w : World} {r : Gh} {v : Value} {K : Value → World → Prop}, n ≤ 1000 → lookB s n t = true → NumsOK r t → Holds r w → TyG r v t →
    (∀ w', Ext w w' → K (.string (bs (textB n t))) w') → oCall Tryd.prog Tryd.n_types_text #[v] w K := by
  intro n
  induction n with
  | zero => intro t w r v K _ h; cases h
  | succ n ih =>
    intro t w r v K hn hl hI hr hv h
    refine Tryd.ok_types_text ?_
    unfold Tryd.F_types_text
    obtain ⟨p, cap, rfl, _, _, hof⟩ := hv
    have S := St.start hr
    refine S.box fun b1 w1 S => ?_
    rw [textB] at h
    (repeat (first | refine s_p ?_ | refine s_c (by omega) ?_ | refine S.ld ?_ | refine S.ldB ?_ | refine S.ce ?_ | refine S.ceB ?_ | refine s_q ?_ | refine s_qc (by omega) ?_ | refine n_some ?_ | rw [List.getD_cons_zero] | rw [List.getD_cons_succ]))
    refine c_if (fun h1 => ?_) (fun h1 => ?_)
    · rw [if_pos h1] at h; exact h _ S.ext
    rw [if_neg h1] at h
    (repeat (first | refine s_p ?_ | refine s_c (by omega) ?_ | refine S.ld ?_ | refine S.ldB ?_ | refine S.ce ?_ | refine S.ceB ?_ | refine s_q ?_ | refine s_qc (by omega) ?_ | refine n_some ?_ | rw [List.getD_cons_zero] | rw [List.getD_cons_succ]))
    refine c_if (fun h2 => ?_) (fun h2 => ?_)
    · rw [if_pos h2] at h; exact h _ S.ext
    rw [if_neg h2] at h
    (repeat (first | refine s_p ?_ | refine s_c (by omega) ?_ | refine S.ld ?_ | refine S.ldB ?_ | refine S.ce ?_ | refine S.ceB ?_ | refine s_q ?_ | refine s_qc (by omega) ?_ | refine n_some ?_ | rw [List.getD_cons_zero] | rw [List.getD_cons_succ]))
    have hbig := textB_len (n + 1) t
    have one : t.k ≠ 5 → ∃ (u : TyD) (ba oa : Nat) (c : List Value), t.of = [u] ∧ p = some ⟨ba, oa, none⟩ ∧ c.length = 5 ∧ (∀ j v, c[j]? = some v → Ob r fun w => w.cell? ⟨ba, oa + 0 * 5 + j, none⟩ = some v) ∧ TyG r (.agg c.toArray) u ∧ lookB s n u = true := by
      intro h5
      rcases look_cases hl with ⟨_, hk⟩ | ⟨u, hofu, hu, _⟩
      · exfalso; omega
      obtain ⟨ba, oa, rfl, c, hc, hcell, ht⟩ := NdG.of hof (i := 0) (by rw [hofu]; exact Nat.one_pos)
      refine ⟨u, ba, oa, c, hofu, rfl, hc, hcell, ?_, hu⟩
      simpa [hofu] using ht
    refine c_if (fun h3 => ?_) (fun h3 => ?_)
    · rw [if_pos h3] at h
      obtain ⟨u, ba, oa, c, hofu, rfl, hc, hcell, ht, hu⟩ := one (by omega)
      rw [hofu] at h
      have hb := textB_len n u
      have hlen : (t.of.length : Int) = 1 := by rw [hofu]; rfl
      (repeat (first | refine s_p ?_ | refine s_c (by omega) ?_ | refine S.ld ?_ | refine S.ldB ?_ | refine S.ce ?_ | refine S.ceB ?_ | refine s_q ?_ | refine s_qc (by omega) ?_ | refine n_some ?_ | rw [List.getD_cons_zero] | rw [List.getD_cons_succ]))
      refine s_ldN (n := 5) hc (fun j v hj => by simpa using S.at (hcell j v hj)) ?_
      refine ih (by omega) hu (hI.inn hofu) S.holds ht fun w2 e2 => ?_
      refine s_c (by simp only [List.length_cons, List.length_nil]; omega) ?_
      refine s_c (by simp only [List.length_append, List.length_cons, List.length_nil]; omega) ?_
      exact h _ (S.go e2).ext
    rw [if_neg h3] at h
    (repeat (first | refine s_p ?_ | refine s_c (by omega) ?_ | refine S.ld ?_ | refine S.ldB ?_ | refine S.ce ?_ | refine S.ceB ?_ | refine s_q ?_ | refine s_qc (by omega) ?_ | refine n_some ?_ | rw [List.getD_cons_zero] | rw [List.getD_cons_succ]))
    refine c_if (fun h5 => ?_) (fun h5 => ?_)
    · rw [if_pos h5] at h
      have hst : 0 ≤ t.st := by
        rw [lookB_succ, if_neg (by omega), if_pos h5] at hl
        simp only [Bool.and_eq_true, decide_eq_true_eq] at hl; exact hl.1.2
      (repeat (first | refine s_p ?_ | refine s_c (by omega) ?_ | refine S.ld ?_ | refine S.ldB ?_ | refine S.ce ?_ | refine S.ceB ?_ | refine s_q ?_ | refine s_qc (by omega) ?_ | refine n_some ?_ | rw [List.getD_cons_zero] | rw [List.getD_cons_succ]))
      refine hI.top.2 hst _ _ S.holds fun w2 e2 => ?_
      have := itoa_len t.st
      refine s_c (by simp only [List.length_cons, List.length_nil]; omega) ?_
      exact h _ (S.go e2).ext
    rw [if_neg h5] at h
    obtain ⟨u, ba, oa, c, hofu, rfl, hc, hcell, ht, hu⟩ := one h5
    rw [hofu] at h
    have hb := textB_len n u
    have hlen : (t.of.length : Int) = 1 := by rw [hofu]; rfl
    have hnp : 0 < (textB n u).length := by
      cases n with
      | zero => cases hu
      | succ n => exact textB_pos n u
    (repeat (first | refine s_p ?_ | refine s_c (by omega) ?_ | refine S.ld ?_ | refine S.ldB ?_ | refine S.ce ?_ | refine S.ceB ?_ | refine s_q ?_ | refine s_qc (by omega) ?_ | refine n_some ?_ | rw [List.getD_cons_zero] | rw [List.getD_cons_succ]))
    refine s_ldN (n := 5) hc (fun j v hj => by simpa using S.at (hcell j v hj)) ?_
    refine ih (by omega) hu (hI.inn hofu) S.holds ht fun w2 e2 => ?_
    have S := S.go e2
    have hil := itoa_len t.re
    refine j_intro (fun x w' => ∃ l, x = [.string (bs l)] ∧ l = [38] ++ (if 0 ≤ t.re then [39] ++ itoa t.re ++ [32] else []) ∧ StX noX w r w' [.cell b1 (Value.agg #[.int .u8 t.k, .bool t.m, .int .i64 t.re, .int .i64 t.st, .slice (some ⟨ba, oa, none⟩) t.of.length cap]).cells.toList 25]) (fun K2 hK2 => ?_) ?_
    · (repeat (first | refine s_p ?_ | refine s_c (by omega) ?_ | refine S.ld ?_ | refine S.ldB ?_ | refine S.ce ?_ | refine S.ceB ?_ | refine s_q ?_ | refine s_qc (by omega) ?_ | refine n_some ?_ | rw [List.getD_cons_zero] | rw [List.getD_cons_succ]))
      refine c_if (fun h0 => ?_) (fun h0 => hK2 _ _ ⟨_, rfl, by rw [if_neg h0]; rfl, S⟩)
      (repeat (first | refine s_p ?_ | refine s_c (by omega) ?_ | refine S.ld ?_ | refine S.ldB ?_ | refine S.ce ?_ | refine S.ceB ?_ | refine s_q ?_ | refine s_qc (by omega) ?_ | refine n_some ?_ | rw [List.getD_cons_zero] | rw [List.getD_cons_succ]))
      refine hI.top.1 h0 _ _ S.holds fun w3 e3 => ?_
      have S := S.go e3
      refine s_c (by simp only [List.length_cons, List.length_nil]; omega) ?_
      refine s_c (by simp only [List.length_append, List.length_cons, List.length_nil]; omega) ?_
      refine s_c (by simp only [List.length_append, List.length_cons, List.length_nil]; omega) ?_
      exact hK2 _ _ ⟨_, rfl, by rw [if_pos h0], S⟩
    rintro x w3 ⟨l, rfl, hl1, S⟩ d3
    rw [List.getD_cons_zero]
    have hll : l.length ≤ 23 := by rw [hl1]; split <;> simp only [List.length_append, List.length_cons, List.length_nil] <;> omega
    refine j_intro (fun x w' => x = [.string (bs (headB t.re t.m))] ∧ Ext w w') (fun K2 hK2 => ?_) ?_
    · (repeat (first | refine s_p ?_ | refine s_c (by omega) ?_ | refine S.ld ?_ | refine S.ldB ?_ | refine S.ce ?_ | refine S.ceB ?_ | refine s_q ?_ | refine s_qc (by omega) ?_ | refine n_some ?_ | rw [List.getD_cons_zero] | rw [List.getD_cons_succ]))
      refine c_b (fun hm => ?_) (fun hm => hK2 _ _ ⟨?_, S.ext⟩)
      · refine s_c (by simp only [List.length_cons, List.length_nil]; omega) ?_
        exact hK2 _ _ ⟨by rw [headB, ← hl1, hm]; rfl, S.ext⟩
      · rw [headB, ← hl1, hm]; simp
    rintro x w4 ⟨rfl, e4⟩ d4
    rw [List.getD_cons_zero]
    have hhl := headB_len t.re t.m
    refine j_intro (fun x w' => x = [.string (bs (if headB t.re t.m == [38] && decide (byteAt (textB n u) 0 = 38) then [38, 32] else headB t.re t.m))] ∧ Ext w w') (fun K2 hK2 => ?_) ?_
    · (first | refine s_p ?_ | refine s_c (by omega) ?_)
      refine j_band (c := decide (byteAt (textB n u) 0 = 38)) (fun K3 hK3 => ?_) ?_
      · refine s_c ⟨by omega, by omega⟩ ?_
        (first | refine s_p ?_ | refine s_c (by omega) ?_)
        exact hK3
      refine c_b (fun hc => hK2 _ _ ⟨?_, e4⟩) (fun hc => hK2 _ _ ⟨?_, e4⟩)
      · rw [if_pos hc]
      · rw [if_neg (by rw [hc]; simp)]
    rintro x w5 ⟨rfl, e5⟩ d5
    rw [List.getD_cons_zero]
    refine s_c (by
      split
      · simp only [List.length_cons, List.length_nil]; omega
      · omega) ?_
    exact h _ e5
/-- what Text tells -/
def textT (t : TyD) : List UInt8 × Int := if isB t then (textB 48 t, 0) else ([], 2)
theorem c_types_Text {t : TyD} {w : World} {r : Gh} {v : Value} {K : Value → World → Prop} (hr : Holds r w) (hv : TyG r v t) (hI : NumsOK r t)
    (h : ∀ w', Ext w w' → K (.tuple #[.string (bs (textT t).1), .int .i64 (textT t).2]) w') : oCall Tryd.prog Tryd.n_types_Text #[v] w K := by
  refine Tryd.ok_types_Text ?_
  unfold Tryd.F_types_Text
  have hv0 := hv
  obtain ⟨p, cap, rfl, _⟩ := hv
  have S := St.start hr
  refine S.box fun b1 w1 S => ?_
  (repeat (first | refine s_p ?_ | refine s_c (by omega) ?_ | refine S.ld ?_ | refine S.ldB ?_ | refine S.ce ?_ | refine S.ceB ?_ | refine s_q ?_ | refine s_qc (by omega) ?_ | refine n_some ?_ | rw [List.getD_cons_zero] | rw [List.getD_cons_succ]))
  refine c_types_may S.holds hv0 fun w2 e2 => ?_
  have S := S.go e2
  (repeat (first | refine s_p ?_ | refine s_c (by omega) ?_ | refine S.ld ?_ | refine S.ldB ?_ | refine S.ce ?_ | refine S.ceB ?_ | refine s_q ?_ | refine s_qc (by omega) ?_ | refine n_some ?_ | rw [List.getD_cons_zero] | rw [List.getD_cons_succ]))
  refine c_b (fun hn => ?_) (fun hb => ?_)
  · have hb : isB t = false := by simpa using hn
    rw [textT, hb] at h; exact h _ S.ext
  have hb : isB t = true := by simpa using hb
  rw [textT, hb] at h
  (repeat (first | refine s_p ?_ | refine s_c (by omega) ?_ | refine S.ld ?_ | refine S.ldB ?_ | refine S.ce ?_ | refine S.ceB ?_ | refine s_q ?_ | refine s_qc (by omega) ?_ | refine n_some ?_ | rw [List.getD_cons_zero] | rw [List.getD_cons_succ]))
  exact c_types_text 48 (by decide) hb hI S.holds hv0 fun w3 e3 => h _ (S.go e3).ext
end Go.Proofs
