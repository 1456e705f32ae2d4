/-
  The law TypesOrder.
  Arithmetic of unsigned numbers, told by whole numbers where nothing runs over.
  Contracts: the document's reader of types' texts: next, word, number.
  Contracts: the document's reader of types' texts: number.
  Contracts: the document's reader of types' texts: reference, kind.
  Contracts: the document's reader of types' texts: Read.
  Contracts: equal (of what is alike), spoil.
  Contracts: Itoa of every number that is not negative (the kit's contract, laid at this program).
  A law's end: the answer is true, the input reads as it did.
  Whatever an argument reads as, it is a datum: one theorem for all types of numbers, texts, structs and slices.
  What every law of layer 6 opens: types, lists, numbers, texts; the program's facts.
  The table of tens, told by the row.
  loanwordlaw06.TypesOrder: the card: whatever the input, the law returns true and the input reads as it did.
-/
import Derived.Test.YtajllnahceaipaaDoorNe
import Derived.Test.YtajllnahceaipaaDoorNb
import Derived.Test.YtajllnahceaipaaDoorNa
import Derived.Shelf.Strconv.Itoa3
import Derived.ChangeSame
import Derived.ChangeStays
import Derived.ReadAgain
import Derived.ProofKit
import Derived.OpenShut
import Derived.Deep.DeepHandedRow
import Derived.Lib.LaidTab
import Derived.Lib.SmallJoins
import Derived.ChangeArms
import Derived.DataReads
import Derived.Test.YtajllnahceaipaaDoorCards
import Derived.Test.YtajllnahceaipaaDoorTie
import Derived.WalkKit
import Derived.Stop.LaidErr

section
namespace Go.Proofs
open Go.Sh
set_option maxRecDepth 100000
set_option linter.unusedSimpArgs false
set_option linter.unusedVariables false
theorem alk_head {n : Nat} {a b : TyD} (h : Alk (n + 1) a b) : a.k = b.k ∧ a.m = b.m ∧ a.st = b.st := by
  have h3 := h.2.2
  rw [alikeB] at h3
  simp only [Bool.and_eq_true, Bool.not_eq_true', Bool.or_eq_false_iff, decide_eq_false_iff_not, Classical.not_not] at h3
  exact ⟨h3.1.1.1.1, by simpa using h3.1.1.1.2, h3.1.1.2⟩
theorem alk_refl_self : ∀ (l : List TyD) (g : Bool) (p : Int × Int), p ∈ asksC g l l → p.1 = p.2
  | [], _, p, h => by simp [asksC] at h
  | a :: l, g, p, h => by
    rw [asksC] at h
    rcases List.mem_append.1 h with h | h
    · rw [stepL] at h
      split at h
      · rcases List.mem_cons.1 h with rfl | h
        · rfl
        · split at h
          · simp only [List.mem_singleton] at h; subst h; rfl
          · cases h
      · cases h
    · exact alk_refl_self l _ p h
theorem step_trans {g : Bool} {a b c : TyD} (hk : a.k = b.k) {p : Int × Int} (h : p ∈ stepL g a c) : ∃ q1 q2, (q1 ∈ stepL g a b ∨ q1 ∈ stepL g b c) ∧ (q2 ∈ stepL g a b ∨ q2 ∈ stepL g b c) ∧ q1.2 = q2.1 ∧ p = (q1.1, q2.2) := by
  rw [stepL] at h
  split at h
  · rename_i h4
    have hb4 : b.k = 4 := by omega
    rcases List.mem_cons.1 h with rfl | h
    · exact ⟨(a.re, b.re), (b.re, c.re), .inl (by rw [stepL, if_pos h4]; exact List.mem_cons_self), .inr (by rw [stepL, if_pos hb4]; exact List.mem_cons_self), rfl, rfl⟩
    · split at h
      · rename_i hg
        simp only [List.mem_singleton] at h; subst h
        exact ⟨(c.re, b.re), (b.re, a.re), .inr (by rw [stepL, if_pos hb4, if_pos hg]; simp), .inl (by rw [stepL, if_pos h4, if_pos hg]; simp), rfl, rfl⟩
      · cases h
  · cases h
theorem alk_trans : ∀ (n : Nat) (a b c : TyD), Alk n a b → Alk n b c → alikeB fAll n a c = true ∧
    ∀ (g : Bool) (p : Int × Int), p ∈ asksD g a c → ∃ q1 q2, q1 ∈ asksD g a b ++ asksD g b c ∧ q2 ∈ asksD g a b ++ asksD g b c ∧ q1.2 = q2.1 ∧ p = (q1.1, q2.2) := by
  intro n
  induction n with
  | zero => intro a b c h; cases h.1
  | succ n ih =>
    intro a b c h1 h2
    obtain ⟨m, hm, hk1, h1'⟩ := alk_cases h1
    obtain ⟨m', hm', hk2, h2'⟩ := alk_cases h2
    cases hm; cases hm'
    obtain ⟨_, hm1, hs1⟩ := alk_head h1
    obtain ⟨_, hm2, hs2⟩ := alk_head h2
    rcases h1' with ⟨ha4, ha3, hao, had⟩ | ⟨x, y, hao, hbo, hxy, hk, had⟩
    · have hac : Alk (n + 1) a c := ⟨h1.1, h2.2.1, by rw [alikeB_nil hao]; simp [hk1, hk2, hm1, hm2, hs1, hs2, fAll]⟩
      refine ⟨hac.2.2, fun g p hp => ?_⟩
      obtain ⟨_, hm'', _, h3⟩ := alk_cases hac
      rcases h3 with ⟨_, _, _, h3⟩ | ⟨x, y, hx, _⟩
      · rw [h3] at hp; cases hp
      · rw [hao] at hx; cases hx
    · rcases h2' with ⟨hb4, hb3, hbo', _⟩ | ⟨y', z, hbo', hco, hyz, _, hbd⟩
      · rw [hbo] at hbo'; cases hbo'
      · rw [hbo] at hbo'
        cases hbo'
        obtain ⟨h5, h6⟩ := ih x y z hxy hyz
        have hac : Alk (n + 1) a c := ⟨h1.1, h2.2.1, by rw [alikeB_one hao hco, h5]; simp [hk1, hk2, hm1, hm2, hs1, hs2, fAll]⟩
        refine ⟨hac.2.2, fun g p hp => ?_⟩
        have hcd : asksD g a c = stepL g a c ++ asksD (bothL g a) x z := by
          rw [asksD, TyD.chain_eq a, TyD.chain_eq c, asksC, hao, hco]; rfl
        have hg : bothL g b = bothL g a := by rw [bothL, bothL, hk1, hm1]
        rw [hcd] at hp
        rw [had g, hbd g, hg]
        rcases List.mem_append.1 hp with hp | hp
        · obtain ⟨q1, q2, m1, m2, e1, e2⟩ := step_trans (b := b) hk1 hp
          refine ⟨q1, q2, ?_, ?_, e1, e2⟩
          · simp only [List.mem_append]; rcases m1 with m1 | m1 <;> simp [m1]
          · simp only [List.mem_append]; rcases m2 with m2 | m2 <;> simp [m2]
        · obtain ⟨q1, q2, m1, m2, e1, e2⟩ := h6 _ p hp
          refine ⟨q1, q2, ?_, ?_, e1, e2⟩
          · simp only [List.mem_append] at m1 ⊢; rcases m1 with m1 | m1 <;> simp [m1]
          · simp only [List.mem_append] at m2 ⊢; rcases m2 with m2 | m2 <;> simp [m2]
theorem asksT_ok {a b : TyD} (h : (asksT a b).2 = 0) : alikeT fAll a b = true ∧ (∀ x ∈ a.regs ++ b.regs, 0 ≤ x) ∧ (asksT a b).1 = asksD false a b := by
  rw [asksT] at h ⊢
  split at h
  · rename_i h1
    split at h
    · cases h
    · rename_i h2
      refine ⟨h1, fun x hx => ?_, by rw [if_pos h1, if_neg h2]⟩
      simp only [Bool.not_eq_true, List.any_eq_false, decide_eq_true_eq, Int.not_lt] at h2
      exact h2 x hx
  · cases h
theorem asks_order {a b c : TyD} (h1 : (asksT a b).2 = 0) (h2 : (asksT b c).2 = 0) : (asksT a c).2 = 0 ∧ alikeT fAll a c = true ∧
    ∀ p ∈ (asksT a c).1, ∃ q1 q2, q1 ∈ (asksT a b).1 ++ (asksT b c).1 ∧ q2 ∈ (asksT a b).1 ++ (asksT b c).1 ∧ q1.2 = q2.1 ∧ p = (q1.1, q2.2) := by
  obtain ⟨k1, n1, e1⟩ := asksT_ok h1
  obtain ⟨k2, n2, e2⟩ := asksT_ok h2
  obtain ⟨h3, h4⟩ := alk_trans 48 a b c (alk_of k1) (alk_of k2)
  have hac : alikeT fAll a c = true := by
    simp only [alikeT, Bool.and_eq_true] at k1 k2 ⊢
    exact ⟨⟨k1.1.1, k2.1.2⟩, h3⟩
  have hneg : ¬ ((a.regs ++ c.regs).any fun x => decide (x < 0)) = true := by
    simp only [Bool.not_eq_true, List.any_eq_false, decide_eq_true_eq, Int.not_lt]
    intro x hx
    rcases List.mem_append.1 hx with hx | hx
    · exact n1 x (List.mem_append_left _ hx)
    · exact n2 x (List.mem_append_right _ hx)
  have e3 : asksT a c = (asksD false a c, 0) := by rw [asksT, if_pos hac, if_neg hneg]
  rw [e1, e2, e3]
  exact ⟨rfl, hac, h4 false⟩
theorem asks_self {a : TyD} (h : (asksT a a).2 = 0) : ∀ p ∈ (asksT a a).1, p.1 = p.2 := by
  obtain ⟨_, _, e⟩ := asksT_ok h
  rw [e]
  exact alk_refl_self _ _
theorem c_law06_TypesOrder {a b c : TyD} {w : World} {r : Gh} {va vb vc : Value} {K : Value → World → Prop} (hr : Holds r w) (ha : TyG r va a) (hb : TyG r vb b) (hc : TyG r vc c)
    (h : ∀ w', Ext w w' → K (.bool true) w') : oCall Tryd.prog Tryd.n_law06_TypesOrder #[va, vb, vc] w K := by
  refine Tryd.ok_law06_TypesOrder ?_
  unfold Tryd.F_law06_TypesOrder
  have ha0 := ha; have hb0 := hb; have hc0 := hc
  obtain ⟨p, cap, rfl, _⟩ := ha
  obtain ⟨q, cap', rfl, _⟩ := hb
  obtain ⟨t, cap'', rfl, _⟩ := hc
  have S := St.start hr
  refine S.box fun b2 w1 S => ?_
  refine S.box fun b3 w2 S => ?_
  refine S.box fun b4 w3 S => ?_
  (repeat (first | refine s_p ?_ | refine s_c (by omega) ?_ | refine S.ld ?_ | refine S.ldB ?_ | refine S.ce ?_ | refine S.ceB ?_ | refine s_q ?_ | refine s_qc (by omega) ?_ | refine n_some ?_ | rw [List.getD_cons_zero] | rw [List.getD_cons_succ]))
  refine c_law06_typeFits 14 (by decide) (by decide) (by decide) S.holds ha0 fun x w4 e4 => ?_
  have S := S.go e4
  (repeat (first | refine s_p ?_ | refine s_c (by omega) ?_ | refine S.ld ?_ | refine S.ldB ?_ | refine S.ce ?_ | refine S.ceB ?_ | refine s_q ?_ | refine s_qc (by omega) ?_ | refine n_some ?_ | rw [List.getD_cons_zero] | rw [List.getD_cons_succ]))
  refine j_borX (fun _ K2 hK2 => ?_) fun y w5 e5 => ?_
  · (repeat (first | refine s_p ?_ | refine s_c (by omega) ?_ | refine S.ld ?_ | refine S.ldB ?_ | refine S.ce ?_ | refine S.ceB ?_ | refine s_q ?_ | refine s_qc (by omega) ?_ | refine n_some ?_ | rw [List.getD_cons_zero] | rw [List.getD_cons_succ]))
    refine c_law06_typeFits 14 (by decide) (by decide) (by decide) S.holds hb0 fun x w3 e3 => ?_
    (first | refine s_p ?_ | refine s_c (by omega) ?_)
    exact hK2 _ _ e3
  have S := S.go e5
  refine j_borX (fun _ K2 hK2 => ?_) fun z w6 e6 => ?_
  · (repeat (first | refine s_p ?_ | refine s_c (by omega) ?_ | refine S.ld ?_ | refine S.ldB ?_ | refine S.ce ?_ | refine S.ceB ?_ | refine s_q ?_ | refine s_qc (by omega) ?_ | refine n_some ?_ | rw [List.getD_cons_zero] | rw [List.getD_cons_succ]))
    refine c_law06_typeFits 14 (by decide) (by decide) (by decide) S.holds hc0 fun x w3 e3 => ?_
    (first | refine s_p ?_ | refine s_c (by omega) ?_)
    exact hK2 _ _ e3
  have S := S.go e6
  refine c_b (fun _ => ?_) (fun _ => ?_)
  · exact c_law06_awake fun w5 e5 => h _ (S.go e5).ext
  (repeat (first | refine s_p ?_ | refine s_c (by omega) ?_ | refine S.ld ?_ | refine S.ldB ?_ | refine S.ce ?_ | refine S.ceB ?_ | refine s_q ?_ | refine s_qc (by omega) ?_ | refine n_some ?_ | rw [List.getD_cons_zero] | rw [List.getD_cons_succ]))
  refine c_types_Asks S.holds ha0 ha0 fun v5 w5 e5 o5 => ?_
  have S := S.take e5 o5
  obtain ⟨p5, cap5, rfl, hp5, hc5, _, _⟩ := S.rowS v5
  have hs5 := asks_self (a := a)
  have hl5 := asksT_len (a := a) (b := a)
  clear o5
  generalize asksT a a = R at *
  obtain ⟨l5, c5⟩ := R
  simp only at S hs5 hl5 ⊢
  (repeat (first | refine s_p ?_ | refine s_c (by omega) ?_ | refine S.ld ?_ | refine S.ldB ?_ | refine S.ce ?_ | refine S.ceB ?_ | refine s_q ?_ | refine s_qc (by omega) ?_ | refine n_some ?_ | rw [List.getD_cons_zero] | rw [List.getD_cons_succ]))
  refine j_intro (fun _ w' => StX noX w r w' [.cell b4 (Value.agg #[.int .u8 c.k, .bool c.m, .int .i64 c.re, .int .i64 c.st, .slice t c.of.length cap'']).cells.toList 25, .cell b3 (Value.agg #[.int .u8 b.k, .bool b.m, .int .i64 b.re, .int .i64 b.st, .slice q b.of.length cap']).cells.toList 25, .cell b2 (Value.agg #[.int .u8 a.k, .bool a.m, .int .i64 a.re, .int .i64 a.st, .slice p a.of.length cap]).cells.toList 25]) (fun K2 hK2 => ?_) ?_
  · (repeat (first | refine s_p ?_ | refine s_c (by omega) ?_ | refine S.ld ?_ | refine S.ldB ?_ | refine S.ce ?_ | refine S.ceB ?_ | refine s_q ?_ | refine s_qc (by omega) ?_ | refine n_some ?_ | rw [List.getD_cons_zero] | rw [List.getD_cons_succ]))
    refine c_b (fun h0 => ?_) (fun _ => hK2 _ _ S.tl)
    have hs5 := hs5 (by simpa using h0)
    refine l_intro (ι := Nat) (fun i => [.int .i64 i]) (fun i w' => i ≤ l5.length ∧ StX noX w r w' [.row (.slice p5 l5.length cap5) 35 2 l5.length (cons2 l5), .cell b4 (Value.agg #[.int .u8 c.k, .bool c.m, .int .i64 c.re, .int .i64 c.st, .slice t c.of.length cap'']).cells.toList 25, .cell b3 (Value.agg #[.int .u8 b.k, .bool b.m, .int .i64 b.re, .int .i64 b.st, .slice q b.of.length cap']).cells.toList 25, .cell b2 (Value.agg #[.int .u8 a.k, .bool a.m, .int .i64 a.re, .int .i64 a.st, .slice p a.of.length cap]).cells.toList 25])
      (fun i => l5.length - i) 0 rfl ⟨Nat.zero_le _, S⟩ ?_
    clear S
    rintro i d w8 ⟨hi, S⟩ K6 hK6
    rw [List.getD_cons_zero]
    (repeat (first | refine s_p ?_ | refine s_c (by omega) ?_ | refine S.ld ?_ | refine S.ldB ?_ | refine S.ce ?_ | refine S.ceB ?_ | refine s_q ?_ | refine s_qc (by omega) ?_ | refine n_some ?_ | rw [List.getD_cons_zero] | rw [List.getD_cons_succ]))
    refine c_b (fun hlt => ?_) (fun hge => hK2 _ _ S.tl)
    have hlt : i < l5.length := by simpa using hlt
    have S := S.go (Ext.drew _)
    obtain ⟨_, _, hv, _, _, _, h6⟩ := S.rowS (.slice p5 l5.length cap5)
    cases hv
    obtain ⟨b6, o6, rfl, k6⟩ := pair_at h6 hlt
    have hlt' : (i : Int) < (l5.length : Int) := by omega
    (repeat (first | refine s_p ?_ | refine s_c (by omega) ?_ | refine S.ld ?_ | refine S.ldB ?_ | refine S.ce ?_ | refine S.ceB ?_ | refine s_q ?_ | refine s_qc (by omega) ?_ | refine n_some ?_ | rw [List.getD_cons_zero] | rw [List.getD_cons_succ]))
    rw [Int.toNat_natCast]
    refine s_ld1 (k6 0 _ rfl) ?_
    (repeat (first | refine s_p ?_ | refine s_c (by omega) ?_ | refine S.ld ?_ | refine S.ldB ?_ | refine S.ce ?_ | refine S.ceB ?_ | refine s_q ?_ | refine s_qc (by omega) ?_ | refine n_some ?_ | rw [List.getD_cons_zero] | rw [List.getD_cons_succ]))
    rw [Int.toNat_natCast]
    refine s_ld1 (k6 1 _ rfl) ?_
    (repeat (first | refine s_p ?_ | refine s_c (by omega) ?_ | refine S.ld ?_ | refine S.ldB ?_ | refine S.ce ?_ | refine S.ceB ?_ | refine s_q ?_ | refine s_qc (by omega) ?_ | refine n_some ?_ | rw [List.getD_cons_zero] | rw [List.getD_cons_succ]))
    refine c_f (by simp [hs5 _ (List.getElem_mem hlt)]) ?_
    (repeat (first | refine s_p ?_ | refine s_c (by omega) ?_ | refine S.ld ?_ | refine S.ldB ?_ | refine S.ce ?_ | refine S.ceB ?_ | refine s_q ?_ | refine s_qc (by omega) ?_ | refine n_some ?_ | rw [List.getD_cons_zero] | rw [List.getD_cons_succ]))
    rw [show ((i : Int) + 1) = ((i + 1 : Nat) : Int) by omega]
    exact hK6 (i + 1) _ ⟨hlt, S⟩ (by omega)
  clear S hs5
  rintro _ w7 S d7
  (repeat (first | refine s_p ?_ | refine s_c (by omega) ?_ | refine S.ld ?_ | refine S.ldB ?_ | refine S.ce ?_ | refine S.ceB ?_ | refine s_q ?_ | refine s_qc (by omega) ?_ | refine n_some ?_ | rw [List.getD_cons_zero] | rw [List.getD_cons_succ]))
  refine c_types_Asks S.holds ha0 hb0 fun v6 w6 e6 o6 => ?_
  have S := S.take e6 o6
  obtain ⟨p6, cap6, rfl, hp6, hc6, _, _⟩ := S.rowS v6
  (repeat (first | refine s_p ?_ | refine s_c (by omega) ?_ | refine S.ld ?_ | refine S.ldB ?_ | refine S.ce ?_ | refine S.ceB ?_ | refine s_q ?_ | refine s_qc (by omega) ?_ | refine n_some ?_ | rw [List.getD_cons_zero] | rw [List.getD_cons_succ]))
  refine c_types_Asks S.holds hb0 hc0 fun v7 w7 e7 o7 => ?_
  have S := S.take e7 o7
  obtain ⟨p7, cap7, rfl, hp7, hc7, _, _⟩ := S.rowS v7
  (repeat (first | refine s_p ?_ | refine s_c (by omega) ?_ | refine S.ld ?_ | refine S.ldB ?_ | refine S.ce ?_ | refine S.ceB ?_ | refine s_q ?_ | refine s_qc (by omega) ?_ | refine n_some ?_ | rw [List.getD_cons_zero] | rw [List.getD_cons_succ]))
  refine c_types_Asks S.holds ha0 hc0 fun v8 w8 e8 o8 => ?_
  have S := S.take e8 o8
  obtain ⟨p8, cap8, rfl, hp8, hc8, _, _⟩ := S.rowS v8
  have hord := asks_order (a := a) (b := b) (c := c)
  have hl6 := asksT_len (a := a) (b := b)
  have hl7 := asksT_len (a := b) (b := c)
  have hl8 := asksT_len (a := a) (b := c)
  clear o6 o7 o8
  generalize asksT a b = R6 at *
  generalize asksT b c = R7 at *
  generalize asksT a c = R8 at *
  obtain ⟨l6, c6⟩ := R6
  obtain ⟨l7, c7⟩ := R7
  obtain ⟨l8, c8⟩ := R8
  simp only at S hord hl6 hl7 hl8 ⊢
  (repeat (first | refine s_p ?_ | refine s_c (by omega) ?_ | refine S.ld ?_ | refine S.ldB ?_ | refine S.ce ?_ | refine S.ceB ?_ | refine s_q ?_ | refine s_qc (by omega) ?_ | refine n_some ?_ | rw [List.getD_cons_zero] | rw [List.getD_cons_succ]))
  refine j_borH (c := decide (c7 ≠ 0)) (fun _ K2 hK2 => ?_) ?_
  · (repeat (first | refine s_p ?_ | refine s_c (by omega) ?_ | refine S.ld ?_ | refine S.ldB ?_ | refine S.ce ?_ | refine S.ceB ?_ | refine s_q ?_ | refine s_qc (by omega) ?_ | refine n_some ?_ | rw [List.getD_cons_zero] | rw [List.getD_cons_succ]))
    exact hK2
  refine c_b (fun _ => ?_) (fun hcd => ?_)
  · exact c_law06_awake fun w5 e5 => h _ (S.go e5).ext
  obtain ⟨h61, h62, h63⟩ := hord (by
    simp only [Bool.or_eq_false_iff, decide_eq_false_iff_not, Classical.not_not] at hcd; exact hcd.1) (by
    simp only [Bool.or_eq_false_iff, decide_eq_false_iff_not, Classical.not_not] at hcd; exact hcd.2)
  subst h61
  (repeat (first | refine s_p ?_ | refine s_c (by omega) ?_ | refine S.ld ?_ | refine S.ldB ?_ | refine S.ce ?_ | refine S.ceB ?_ | refine s_q ?_ | refine s_qc (by omega) ?_ | refine n_some ?_ | rw [List.getD_cons_zero] | rw [List.getD_cons_succ]))
  refine j_borE (c := false) (fun _ K2 hK2 => ?_) fun w9 e9 => ?_
  · (repeat (first | refine s_p ?_ | refine s_c (by omega) ?_ | refine S.ld ?_ | refine S.ldB ?_ | refine S.ce ?_ | refine S.ceB ?_ | refine s_q ?_ | refine s_qc (by omega) ?_ | refine n_some ?_ | rw [List.getD_cons_zero] | rw [List.getD_cons_succ]))
    refine c_types_Alike S.holds ha0 hc0 fun w10 e10 => ?_
    rw [h62]
    (repeat (first | refine s_p ?_ | refine s_c (by omega) ?_ | refine S.ld ?_ | refine S.ldB ?_ | refine S.ce ?_ | refine S.ceB ?_ | refine s_q ?_ | refine s_qc (by omega) ?_ | refine n_some ?_ | rw [List.getD_cons_zero] | rw [List.getD_cons_succ]))
    exact hK2 _ e10
  have S := S.go e9
  refine c_f (by simp) ?_
  have S := S.ownNil 35 2
  obtain ⟨_, _, hv, _, _, _, h6⟩ := S.rowS (.slice p6 l6.length cap6)
  cases hv
  refine S.ap h6 (fun v9 w10 S => ?_) (by omega) (cons2_len _) hp6 (cons2_ones _)
  obtain ⟨_, _, hv, _, _, _, h7⟩ := S.rowS (.slice p7 l7.length cap7)
  cases hv
  refine S.ap h7 (fun v10 w11 S => ?_) (by omega) (cons2_len _) hp7 (cons2_ones _)
  simp only [List.nil_append, Nat.zero_add] at S
  rw [← cons2_append, ← List.length_append] at S
  obtain ⟨p10, cap10, rfl, hp10, _, _, h10⟩ := S.rowS v10
  refine c_law06_reach h10 hp10 (by rw [List.length_append]; omega) fun v11 o w12 e12 o12 ho hre => ?_
  have S := S.take e12 o12
  obtain ⟨p11, cap11, rfl, hp11, _, _, _⟩ := S.rowS v11
  have S := S.go (.refl _)
  refine l_intro (ι := Nat) (fun i => [.int .i64 i]) (fun i w' => i ≤ l8.length ∧ ∃ M, StX noX w r w' (.row (.slice p11 o.length cap11) 35 2 o.length (cons2 o) :: .row (.slice p8 l8.length cap8) 35 2 l8.length (cons2 l8) :: M))
    (fun i => l8.length - i) 0 rfl ⟨Nat.zero_le _, _, S.swap.tl⟩ ?_
  clear S
  rintro i d w13 ⟨hi, M, S⟩ K6 hK6
  rw [List.getD_cons_zero]
  (repeat (first | refine s_p ?_ | refine s_c (by omega) ?_ | refine S.ld ?_ | refine S.ldB ?_ | refine S.ce ?_ | refine S.ceB ?_ | refine s_q ?_ | refine s_qc (by omega) ?_ | refine n_some ?_ | rw [List.getD_cons_zero] | rw [List.getD_cons_succ]))
  refine c_b (fun hlt => ?_) (fun hge => ?_)
  rotate_left
  · exact c_law06_awake fun w5 e5 => h _ (S.go e5).ext
  have hlt : i < l8.length := by simpa using hlt
  have S := S.go (Ext.drew _)
  obtain ⟨_, _, hv, _, _, _, h8⟩ := S.rowS (.slice p8 l8.length cap8)
  cases hv
  obtain ⟨_, _, hv, _, _, _, h11⟩ := S.rowS (.slice p11 o.length cap11)
  cases hv
  obtain ⟨b8, o8, rfl, k8⟩ := pair_at h8 hlt
  have hlt' : (i : Int) < (l8.length : Int) := by omega
  have hmem : l8[i] ∈ o := by
    obtain ⟨q1, q2, m1, m2, e1, e2⟩ := h63 _ (List.getElem_mem hlt)
    rw [e2]
    exact hre q1 m1 q2 m2 e1
  (repeat (first | refine s_p ?_ | refine s_c (by omega) ?_ | refine S.ld ?_ | refine S.ldB ?_ | refine S.ce ?_ | refine S.ceB ?_ | refine s_q ?_ | refine s_qc (by omega) ?_ | refine n_some ?_ | rw [List.getD_cons_zero] | rw [List.getD_cons_succ]))
  rw [Int.toNat_natCast]
  refine s_ld1 (k8 0 _ rfl) ?_
  (repeat (first | refine s_p ?_ | refine s_c (by omega) ?_ | refine S.ld ?_ | refine S.ldB ?_ | refine S.ce ?_ | refine S.ceB ?_ | refine s_q ?_ | refine s_qc (by omega) ?_ | refine n_some ?_ | rw [List.getD_cons_zero] | rw [List.getD_cons_succ]))
  rw [Int.toNat_natCast]
  refine s_ld1 (k8 1 _ rfl) ?_
  (repeat (first | refine s_p ?_ | refine s_c (by omega) ?_ | refine S.ld ?_ | refine S.ldB ?_ | refine S.ce ?_ | refine S.ceB ?_ | refine s_q ?_ | refine s_qc (by omega) ?_ | refine n_some ?_ | rw [List.getD_cons_zero] | rw [List.getD_cons_succ]))
  refine j_bandE (c := false) (fun _ K3 hK3 => ?_) fun w14 e14 => ?_
  · (repeat (first | refine s_p ?_ | refine s_c (by omega) ?_ | refine S.ld ?_ | refine S.ldB ?_ | refine S.ce ?_ | refine S.ceB ?_ | refine s_q ?_ | refine s_qc (by omega) ?_ | refine n_some ?_ | rw [List.getD_cons_zero] | rw [List.getD_cons_succ]))
    rw [Int.toNat_natCast]
    refine s_ldN (n := 2) rfl k8 ?_
    refine c_law06_has (c := l8[i]) h11 (by omega) fun w15 e15 => ?_
    rw [decide_eq_true hmem]
    (repeat (first | refine s_p ?_ | refine s_c (by omega) ?_ | refine S.ld ?_ | refine S.ldB ?_ | refine S.ce ?_ | refine S.ceB ?_ | refine s_q ?_ | refine s_qc (by omega) ?_ | refine n_some ?_ | rw [List.getD_cons_zero] | rw [List.getD_cons_succ]))
    exact hK3 _ e15
  refine c_f (by simp) ?_
  (repeat (first | refine s_p ?_ | refine s_c (by omega) ?_ | refine S.ld ?_ | refine S.ldB ?_ | refine S.ce ?_ | refine S.ceB ?_ | refine s_q ?_ | refine s_qc (by omega) ?_ | refine n_some ?_ | rw [List.getD_cons_zero] | rw [List.getD_cons_succ]))
  rw [show ((i : Int) + 1) = ((i + 1 : Nat) : Int) by omega]
  exact hK6 (i + 1) _ ⟨hlt, M, S.go e14⟩ (by omega)
end Go.Proofs
end

section
namespace Go.Sh
open Go.RowKit
set_option linter.unusedSimpArgs false
set_option linter.unusedVariables false

/-- an unsigned kind, and how many numbers it has -/
class Uk (k : IntKind) (m : outParam Int) : Prop where
  h : ∀ n : Int, k.wrap n = n % m
instance : Uk .u8 256 := ⟨IntKind.wrap_u8⟩
instance : Uk .u32 4294967296 := ⟨IntKind.wrap_u32⟩
instance : Uk .u64 18446744073709551616 := ⟨IntKind.wrap_u64⟩
theorem Uk.eq {k : IntKind} {m n : Int} [h : Uk k m] (h0 : 0 ≤ n) (h1 : n < m) : k.wrap n = n := by rw [h.h]; exact Int.emod_eq_of_lt h0 h1
section
variable {P : Program} {t s : TypeId} {c : Bool} {k : IntKind} {m a b : Int}
instance (priority := low) [h : Uk k m] : PCond P (bsem .add t c (.int k a) (.int k b)) (.int k (a + b)) (0 ≤ a + b ∧ a + b < m) := .of fun x _ z =>
  p_of (fun w => by rw [bsem_int]; simp [binOp, Op.intArith, Uk.eq (k := k) x.1 x.2]) z
instance (priority := low) [h : Uk k m] : PCond P (bsem .sub t c (.int k a) (.int k b)) (.int k (a - b)) (0 ≤ a - b ∧ a - b < m) := .of fun x _ z =>
  p_of (fun w => by rw [bsem_int]; simp [binOp, Op.intArith, Uk.eq (k := k) x.1 x.2]) z
instance (priority := low) [h : Uk k m] : PCond P (bsem .mul t c (.int k a) (.int k b)) (.int k (a * b)) (0 ≤ a * b ∧ a * b < m) := .of fun x _ z =>
  p_of (fun w => by rw [bsem_int]; simp [binOp, Op.intArith, Uk.eq (k := k) x.1 x.2]) z
instance (priority := low) [h : Uk k m] : PCond P (bsem .quo t c (.int k a) (.int k b)) (.int k (a / b)) (0 ≤ a ∧ a < m ∧ 0 < b) := .of fun x _ z =>
  p_of (fun w => by
    have h1 : b ≠ 0 := by omega
    have h2 : a.tdiv b = a / b := Int.tdiv_eq_ediv_of_nonneg x.1
    have h3 : a / b ≤ a := Int.ediv_le_self _ x.1
    have h4 : 0 ≤ a / b := Int.ediv_nonneg x.1 (by omega)
    rw [bsem_int]; simp [binOp, Op.intDiv, h1, h2, Uk.eq (k := k) (m := m) (n := a / b) h4 (by omega)]) z
instance (priority := low) [h : Uk k m] : PCond P (bsem .rem t c (.int k a) (.int k b)) (.int k (a % b)) (0 ≤ a ∧ 0 < b) := .of fun x _ z =>
  p_of (fun w => by
    have h1 : b ≠ 0 := by omega
    rw [bsem_int]; simp [binOp, Op.intDiv, h1, Int.tmod_eq_emod_of_nonneg x.1]) z
instance (priority := low) {k1 k3 : IntKind} [h1 : KdT P s k1] [h2 : KdT P t k] [h : Uk k m] : PCond P (convert s t (.int k3 a)) (.int k a) (0 ≤ a ∧ a < m) := .of fun x _ z =>
  p_cvt h1.h h2.h (by rw [Uk.eq (k := k) x.1 x.2]; exact z)
/-- shifted to the right by e bits -/
theorem p_shrI {K : Value → Prop} {i : IntKind} {n : Int} (e : Nat) (he : n = e) (hb : e ≤ k.bits) (z : K (.int k (a / 2 ^ e))) : opP P (bsem .shr t c (.int k a) (.int i n)) K :=
  p_of (fun w => by
    have h1 : ¬ n < 0 := by omega
    have h2 : n.toNat = e := by omega
    have h3 : Int.fdiv a (2 ^ (min n.toNat k.bits)) = a / 2 ^ e := by
      rw [h2, Nat.min_eq_left hb, Int.fdiv_eq_ediv_of_nonneg _ (Int.pow_nonneg (by decide))]
    rw [bsem_int]
    simp only [binOp, Op.shift, h1, if_false, h3]; rfl) z
end
end Go.Sh
end

section
namespace Go.Proofs
open Go.Sh
set_option maxRecDepth 100000
set_option linter.unusedSimpArgs false

/-- 'B or (G and C)', G and C both reckoned -/
theorem j_borand2 {b g c : Bool} {w : World} {G : (List Value → World → Prop) → Prop} {A : (List Value → World → Prop) → World → Prop} {Z : Value → World → Prop}
    (hG : b = false → ∀ K : List Value → World → Prop, K [.bool g] w → G K) (hA : b = false → g = true → ∀ K : List Value → World → Prop, K [.bool c] w → A K w) (hZ : Z (.bool (b || (g && c))) w) :
    sJoin (fun K1 => gIf (.bool b) false (G K1) (K1 [undef] w)) fun s1 _ w1 =>
      sJoin (fun K2 => gIf (s1.getD 0 undef) true (A K2 w1) (K2 [undef] w1)) fun s2 _ w2 =>
        sJoin (fun K3 => gIf (.bool b) false (oPick (s1.getD 0 undef) (s2.getD 0 undef) (.bool false) fun t => K3 [t] w2) (K3 [undef] w2)) fun s3 _ w3 =>
          oPick (.bool b) (.bool true) (s3.getD 0 undef) fun t => Z t w3 := by
  intro K1 hK1
  cases b with
  | true =>
    refine hK1 _ _ fun _ => ?_
    intro K2 hK2
    refine hK2 _ _ fun _ => ?_
    intro K3 hK3
    refine hK3 _ _ fun _ => ⟨true, rfl, ?_⟩
    rw [Bool.true_or] at hZ; exact hZ
  | false =>
    refine hG rfl _ (hK1 _ _ fun _ => ?_)
    intro K2 hK2
    cases g with
    | true =>
      refine hA rfl rfl _ (hK2 _ _ fun _ => ?_)
      intro K3 hK3
      refine ⟨true, rfl, hK3 _ _ fun _ => ⟨false, rfl, ?_⟩⟩
      rw [Bool.false_or, Bool.true_and] at hZ; exact hZ
    | false =>
      refine hK2 _ _ fun _ => ?_
      intro K3 hK3
      refine ⟨false, rfl, hK3 _ _ fun _ => ⟨false, rfl, ?_⟩⟩
      rw [Bool.false_or, Bool.false_and] at hZ; exact hZ
/-- where the document's reader stands -/
abbrev rqC (rb : Nat) (s : List UInt8) (a : Nat) (st : Bool) : Asr := .cell rb [.string (bs s), .int .i64 (a : Int), .bool st] 94
def nxB (s : List UInt8) (a : Nat) (st : Bool) : Int := if st || decide ((s.length : Int) ≤ a) then 0 else byteAt s a
/-- what came of it: from a place, stuck or not, as the one reader goes -/
def Out {α : Type} (st : Bool) (a : Nat) (x : Rd' α) (a' : Nat) (st' : Bool) (v : α) : Prop :=
  if st then st' = true ∧ a' = a else
    match x with
    | (a1, some u) => st' = false ∧ a' = a1 ∧ v = u
    | (a1, none) => st' = true ∧ a' = a1
theorem Out.stuck {α : Type} {a : Nat} {x : Rd' α} {v : α} : Out true a x a true v := ⟨rfl, rfl⟩
theorem Out.ok {α : Type} {a a' : Nat} {x : Rd' α} {v : α} (h : x = (a', some v)) : Out false a x a' false v := by
  rw [h]; exact ⟨rfl, rfl, rfl⟩
theorem Out.no {α : Type} {a a' : Nat} {x : Rd' α} {v : α} (h : x = (a', none)) : Out false a x a' true v := by
  rw [h]; exact ⟨rfl, rfl⟩
theorem Out.bd {α β : Type} {st st1 st2 : Bool} {a a1 a2 : Nat} {x : Rd' α} {k : α → Nat → Rd' β} {u : α} {v : β} (h : Out st a x a1 st1 u) (h2 : Out st1 a1 (k u a1) a2 st2 v) : Out st a (bd x k) a2 st2 v := by
  cases st with
  | true =>
    obtain ⟨rfl, rfl⟩ := h
    exact h2
  | false =>
    obtain ⟨b, o⟩ := x
    cases o with
    | some y =>
      obtain ⟨rfl, rfl, rfl⟩ := h
      exact h2
    | none =>
      obtain ⟨rfl, rfl⟩ := h
      exact h2
theorem nx_eq {s : List UInt8} {a : Nat} {st : Bool} {c : UInt8} (hc : c ≠ 0) : decide (nxB s a st = (c.toNat : Int)) = (!st && cmB s a [c]) := by
  have hc0 : (0 : Int) ≠ (c.toNat : Int) := by
    intro h
    apply hc
    have : c.toNat = 0 := by omega
    exact UInt8.toNat_inj.1 (by rw [this]; rfl)
  rw [nxB]
  cases st with
  | true => simp [hc0]
  | false =>
    rw [Bool.false_or, Bool.not_false, Bool.true_and, cmB, prefB]
    by_cases h : (s.length : Int) ≤ a
    · rw [if_pos (by simpa using h), List.drop_eq_nil_of_le (by omega)]
      simp [hc0]
    · have hlt : a < s.length := by omega
      rw [if_neg (by simpa using h), List.drop_eq_getElem_cons hlt, byteAt, List.getD_eq_getElem?_getD, List.getElem?_eq_getElem hlt, Option.getD_some]
      have h1 : decide ((([c] : List UInt8).length : Int) ≤ ((s[a] :: s.drop (a + 1)).length : Int)) = true := by simp; omega
      rw [h1, Bool.true_and, show (s[a] :: s.drop (a + 1)).take ([c] : List UInt8).length = [s[a]] from rfl]
      by_cases h2 : s[a] = c
      · simp [h2]
      · have h3 : (s[a].toNat : Int) ≠ c.toNat := fun h => h2 (UInt8.toNat_inj.1 (by omega))
        simp [h2, h3]
section
variable {X : Nat → Prop} {w0 w : World} {r : Gh} {L : List Asr} {rb : Nat} {s p : List UInt8} {a : Nat} {st : Bool} {K : Value → World → Prop}
theorem c_q_next (S : StX X w0 r w (rqC rb s a st :: L)) (h : ∀ w', StX X w0 r w' (rqC rb s a st :: L) → K (.int .u8 (nxB s a st)) w') : oCall Tryd.prog Tryd.n_ref06_reader_next #[rdP rb] w K := by
  refine Tryd.ok_ref06_reader_next ?_
  unfold Tryd.F_ref06_reader_next
  have S := S.go (Ext.drew _)
  (repeat (first | refine s_p ?_ | refine s_c (by omega) ?_ | refine S.ld ?_ | refine S.ldB ?_ | refine S.ce ?_ | refine S.ceB ?_ | refine s_q ?_ | refine s_qc (by omega) ?_ | refine n_some ?_ | rw [List.getD_cons_zero] | rw [List.getD_cons_succ]))
  refine j_borH (c := decide ((s.length : Int) ≤ a)) (fun _ K2 hK2 => ?_) ?_
  · (repeat (first | refine s_p ?_ | refine s_c (by omega) ?_ | refine S.ld ?_ | refine S.ldB ?_ | refine S.ce ?_ | refine S.ceB ?_ | refine s_q ?_ | refine s_qc (by omega) ?_ | refine n_some ?_ | rw [List.getD_cons_zero] | rw [List.getD_cons_succ]))
    exact hK2
  refine c_b (fun hc => ?_) (fun hc => ?_)
  · have := h _ S
    rw [nxB, if_pos hc] at this
    exact this
  · have hlt : (a : Int) < s.length := by
      simp only [Bool.or_eq_false_iff, decide_eq_false_iff_not] at hc
      omega
    have S := S.go (Ext.drew _)
    (repeat (first | refine s_p ?_ | refine s_c (by omega) ?_ | refine S.ld ?_ | refine S.ldB ?_ | refine S.ce ?_ | refine S.ceB ?_ | refine s_q ?_ | refine s_qc (by omega) ?_ | refine n_some ?_ | rw [List.getD_cons_zero] | rw [List.getD_cons_succ]))
    have := h _ S
    rw [nxB, if_neg (by rw [hc]; simp)] at this
    rw [Int.toNat_natCast]
    exact this
theorem c_q_word (S : StX X w0 r w (rqC rb s a st :: L)) (ha : a ≤ s.length) (hs : s.length ≤ 1000000000) (hp : p.length ≤ 1000000)
    (h : ∀ a' st' w', a' ≤ s.length → StX X w0 r w' (rqC rb s a' st' :: L) → Out st a (tkR s p a) a' st' () → K (.tuple #[]) w') :
    oCall Tryd.prog Tryd.n_ref06_reader_word #[rdP rb, .string (bs p)] w K := by
  refine Tryd.ok_ref06_reader_word ?_
  unfold Tryd.F_ref06_reader_word
  cases st with
  | true =>
    refine l_intro (ι := Nat) (fun i => [.int .i64 i]) (fun i w' => i = 0 ∧ StX X w0 r w' (rqC rb s a true :: L)) (fun i => p.length - i) 0 rfl ⟨rfl, S⟩ ?_
    clear S
    rintro i d w1 ⟨rfl, S⟩ K6 hK6
    simp only [List.getD_cons_zero]
    (first | refine s_p ?_ | refine s_c (by omega) ?_)
    (first | refine s_p ?_ | refine s_c (by omega) ?_)
    refine j_bandH (c := false) (fun _ K3 hK3 => ?_) ?_
    · (repeat (first | refine s_p ?_ | refine s_c (by omega) ?_ | refine S.ld ?_ | refine S.ldB ?_ | refine S.ce ?_ | refine S.ceB ?_ | refine s_q ?_ | refine s_qc (by omega) ?_ | refine n_some ?_ | rw [List.getD_cons_zero] | rw [List.getD_cons_succ]))
      exact hK3
    refine c_f (by simp) ?_
    exact h a true _ ha S .stuck
  | false =>
    refine l_intro (ι := Nat) (fun i => [.int .i64 i]) (fun i w' => i ≤ p.length ∧ a + i ≤ s.length ∧ takeR s p a = takeR s (p.drop i) (a + i) ∧ StX X w0 r w' (rqC rb s (a + i) false :: L)) (fun i => p.length - i) 0 rfl ⟨Nat.zero_le _, ha, rfl, S⟩ ?_
    clear S
    rintro i d w1 ⟨hi, hai, hrec, S⟩ K6 hK6
    simp only [List.getD_cons_zero]
    (first | refine s_p ?_ | refine s_c (by omega) ?_)
    (first | refine s_p ?_ | refine s_c (by omega) ?_)
    refine j_bandH (c := true) (fun _ K3 hK3 => ?_) ?_
    · (repeat (first | refine s_p ?_ | refine s_c (by omega) ?_ | refine S.ld ?_ | refine S.ldB ?_ | refine S.ce ?_ | refine S.ceB ?_ | refine s_q ?_ | refine s_qc (by omega) ?_ | refine n_some ?_ | rw [List.getD_cons_zero] | rw [List.getD_cons_succ]))
      exact hK3
    rw [Bool.and_true]
    refine c_if (fun hlt => ?_) (fun hge => ?_)
    · have hlt : i < p.length := by omega
      rw [List.drop_eq_getElem_cons hlt, takeR] at hrec
      have hpi : byteAt p i = (p[i].toNat : Int) := by rw [byteAt, List.getD_eq_getElem?_getD, List.getElem?_eq_getElem hlt]; rfl
      have S := S.go (Ext.drew _)
      (repeat (first | refine s_p ?_ | refine s_c (by omega) ?_ | refine S.ld ?_ | refine S.ldB ?_ | refine S.ce ?_ | refine S.ceB ?_ | refine s_q ?_ | refine s_qc (by omega) ?_ | refine n_some ?_ | rw [List.getD_cons_zero] | rw [List.getD_cons_succ]))
      refine j_borH (c := decide (byteAt s (a + i) ≠ (p[i].toNat : Int))) (fun hb K3 hK3 => ?_) ?_
      · have hb : ¬ (s.length : Int) ≤ ((a + i : Nat) : Int) := by simpa using hb
        (repeat (first | refine s_p ?_ | refine s_c (by omega) ?_ | refine S.ld ?_ | refine S.ldB ?_ | refine S.ce ?_ | refine S.ceB ?_ | refine s_q ?_ | refine s_qc (by omega) ?_ | refine n_some ?_ | rw [List.getD_cons_zero] | rw [List.getD_cons_succ]))
        rw [Int.toNat_natCast, Int.toNat_natCast, hpi]; exact hK3
      have hcc : decide ((s.length : Int) ≤ ((a + i : Nat) : Int)) = decide (((a + i : Nat) : Int) = s.length) := decide_eq_decide.2 (by omega)
      rw [hcc]
      refine c_b (fun hc => ?_) (fun hc => ?_)
      · rw [if_pos hc] at hrec
        (repeat (first | refine s_p ?_ | refine s_c (by omega) ?_ | refine S.ld ?_ | refine S.ldB ?_ | refine S.ce ?_ | refine S.ceB ?_ | refine s_q ?_ | refine s_qc (by omega) ?_ | refine n_some ?_ | rw [List.getD_cons_zero] | rw [List.getD_cons_succ]))
        refine S.st fun w3 S => ?_
        exact h (a + i) true _ hai S (.no (by rw [tkR, hrec]; rfl))
      · rw [hc, if_neg (by simp)] at hrec
        simp only [Bool.or_eq_false_iff, decide_eq_false_iff_not] at hc
        (repeat (first | refine s_p ?_ | refine s_c (by omega) ?_ | refine S.ld ?_ | refine S.ldB ?_ | refine S.ce ?_ | refine S.ceB ?_ | refine s_q ?_ | refine s_qc (by omega) ?_ | refine n_some ?_ | rw [List.getD_cons_zero] | rw [List.getD_cons_succ]))
        refine S.st fun w3 S => ?_
        (first | refine s_p ?_ | refine s_c (by omega) ?_)
        refine hK6 (i + 1) _ ⟨hlt, by omega, hrec, ?_⟩ (by omega)
        exact S
    · have : i = p.length := by omega
      subst this
      rw [List.drop_length, takeR] at hrec
      exact h (a + p.length) false _ hai S (.ok (by rw [tkR, hrec]; rfl))
end
end Go.Proofs
end

section
namespace Go.Proofs
open Go.Sh
set_option maxRecDepth 100000
set_option linter.unusedSimpArgs false
section
variable {X : Nat → Prop} {w0 w : World} {r : Gh} {L : List Asr} {rb : Nat} {s p : List UInt8} {a : Nat} {st : Bool} {K : Value → World → Prop}
theorem c_q_number {most : Int} (S : StX X w0 r w (rqC rb s a st :: L)) (ha : a ≤ s.length) (hs : s.length ≤ 1000000000) (hm : 9 ≤ most) (hm2 : most < 9223372036854775808)
    (h : ∀ a' st' n w', a' ≤ s.length → 0 ≤ n → n ≤ most → StX X w0 r w' (rqC rb s a' st' :: L) → Out st a (digT s most a) a' st' n → K (.int .i64 n) w') :
    oCall Tryd.prog Tryd.n_ref06_reader_number #[rdP rb, .int .u64 most] w K := by
  refine Tryd.ok_ref06_reader_number ?_
  unfold Tryd.F_ref06_reader_number
  (repeat (first | refine s_p ?_ | refine s_c (by omega) ?_ | refine S.ld ?_ | refine S.ldB ?_ | refine S.ce ?_ | refine S.ceB ?_ | refine s_q ?_ | refine s_qc (by omega) ?_ | refine n_some ?_ | rw [List.getD_cons_zero] | rw [List.getD_cons_succ]))
  cases st with
  | true =>
    refine l_intro (ι := Unit) (fun _ => [.int .u64 0]) (fun _ w' => StX X w0 r w' (rqC rb s a true :: L)) (fun _ => 0) () rfl S ?_
    clear S
    rintro ⟨⟩ d w1 S K6 hK6
    rw [List.getD_cons_zero]
    refine c_q_next S fun w2 S => ?_
    rw [show nxB s a true = 0 by rw [nxB]; simp]
    (repeat (first | refine s_p ?_ | refine s_c (by omega) ?_ | refine S.ld ?_ | refine S.ldB ?_ | refine S.ce ?_ | refine S.ceB ?_ | refine s_q ?_ | refine s_qc (by omega) ?_ | refine n_some ?_ | rw [List.getD_cons_zero] | rw [List.getD_cons_succ]))
    refine j_bandR (c := false) (fun w' => StX X w0 r w' (rqC rb s a true :: L)) S (fun hb => by simp at hb) fun w3 S => ?_
    refine c_f (by simp) ?_
    refine j_intro (fun _ w' => StX X w0 r w' (rqC rb s a true :: L)) (fun K2 hK2 => ?_) ?_
    · (repeat (first | refine s_p ?_ | refine s_c (by omega) ?_ | refine S.ld ?_ | refine S.ldB ?_ | refine S.ce ?_ | refine S.ceB ?_ | refine s_q ?_ | refine s_qc (by omega) ?_ | refine n_some ?_ | rw [List.getD_cons_zero] | rw [List.getD_cons_succ]))
      refine c_t (by simp) ?_
      (repeat (first | refine s_p ?_ | refine s_c (by omega) ?_ | refine S.ld ?_ | refine S.ldB ?_ | refine S.ce ?_ | refine S.ceB ?_ | refine s_q ?_ | refine s_qc (by omega) ?_ | refine n_some ?_ | rw [List.getD_cons_zero] | rw [List.getD_cons_succ]))
      refine S.st fun w4 S => ?_
      exact hK2 _ _ S
    rintro _ w4 S d4
    (repeat (first | refine s_p ?_ | refine s_c (by omega) ?_ | refine S.ld ?_ | refine S.ldB ?_ | refine S.ce ?_ | refine S.ceB ?_ | refine s_q ?_ | refine s_qc (by omega) ?_ | refine n_some ?_ | rw [List.getD_cons_zero] | rw [List.getD_cons_succ]))
    exact h a true 0 _ ha (Int.le_refl _) (by omega) S .stuck
  | false =>
    refine l_intro (ι := Nat × Int × Nat) (fun i => [.int .u64 i.2.1]) (fun i w' => a ≤ i.1 ∧ i.1 ≤ s.length ∧ i.2.2 = s.length + 1 - i.1 ∧ 0 ≤ i.2.1 ∧ i.2.1 ≤ most ∧ (i.1 = a → i.2.1 = 0) ∧ (a + 1 < i.1 → byteAt s a ≠ 48) ∧ digR s most a (s.length + 1 - a) a 0 = digR s most a i.2.2 i.1 i.2.1 ∧ StX X w0 r w' (rqC rb s i.1 false :: L))
      (fun i => i.2.2) (a, 0, s.length + 1 - a) rfl ⟨Nat.le_refl _, ha, rfl, Int.le_refl _, by simp only; omega, fun _ => rfl, fun h => by simp only at h; omega, rfl, S⟩ ?_
    clear S
    rintro ⟨b, n, f⟩ d w1 ⟨hab, hbs, hf, hn0, hnm, hba, hfirst, hrec, S⟩ K6 hK6
    simp only at hab hbs hf hn0 hnm hba hfirst hrec S ⊢
    rw [List.getD_cons_zero]
    obtain ⟨f, rfl⟩ : ∃ g, f = g + 1 := ⟨f - 1, by omega⟩
    rw [digR] at hrec
    have hby := byteAt_lt s b
    have hT : digT s most a = if (digR s most a (s.length + 1 - a) a 0).1 = a then (a, none) else ((digR s most a (s.length + 1 - a) a 0).1, some (digR s most a (s.length + 1 - a) a 0).2) := rfl
    have hnx : nxB s b false = if (s.length : Int) ≤ b then 0 else byteAt s b := by rw [nxB]; simp
    refine c_q_next S fun w2 S => ?_
    (repeat (first | refine s_p ?_ | refine s_c (by omega) ?_ | refine S.ld ?_ | refine S.ldB ?_ | refine S.ce ?_ | refine S.ceB ?_ | refine s_q ?_ | refine s_qc (by omega) ?_ | refine n_some ?_ | rw [List.getD_cons_zero] | rw [List.getD_cons_succ]))
    refine j_bandR (c := decide (nxB s b false ≤ 57)) (fun w' => StX X w0 r w' (rqC rb s b false :: L)) S (fun _ K3 hK3 => ?_) fun w3 S => ?_
    · refine c_q_next S fun w4 S => ?_
      (repeat (first | refine s_p ?_ | refine s_c (by omega) ?_ | refine S.ld ?_ | refine S.ldB ?_ | refine S.ce ?_ | refine S.ceB ?_ | refine s_q ?_ | refine s_qc (by omega) ?_ | refine n_some ?_ | rw [List.getD_cons_zero] | rw [List.getD_cons_succ]))
      exact hK3 _ S
    have hcc : (decide (48 ≤ nxB s b false) && decide (nxB s b false ≤ 57)) = ((decide ((b : Int) < s.length) && decide (48 ≤ byteAt s b)) && decide (byteAt s b ≤ 57)) := by
      rw [hnx]
      by_cases hlt : (b : Int) < s.length
      · rw [if_neg (by omega)]; simp [hlt]
      · rw [if_pos (by omega)]; simp [hlt]
    rw [hcc]
    refine c_b (fun hd => ?_) (fun hd => ?_)
    · rw [if_pos hd] at hrec
      simp only [Bool.and_eq_true, decide_eq_true_eq] at hd
      obtain ⟨⟨hd1, hd2⟩, hd3⟩ := hd
      have hnx' : nxB s b false = byteAt s b := by rw [hnx, if_neg (by omega)]
      refine c_q_next S fun w4 S => ?_
      rw [hnx']
      (repeat (first | refine s_p ?_ | refine s_c (by omega) ?_ | refine S.ld ?_ | refine S.ldB ?_ | refine S.ce ?_ | refine S.ceB ?_ | refine s_q ?_ | refine s_qc (by omega) ?_ | refine n_some ?_ | rw [List.getD_cons_zero] | rw [List.getD_cons_succ]))
      refine j_bandH (c := decide (byteAt s a = 48)) (fun hb K3 hK3 => ?_) ?_
      · (repeat (first | refine s_p ?_ | refine s_c (by omega) ?_ | refine S.ld ?_ | refine S.ldB ?_ | refine S.ce ?_ | refine S.ceB ?_ | refine s_q ?_ | refine s_qc (by omega) ?_ | refine n_some ?_ | rw [List.getD_cons_zero] | rw [List.getD_cons_succ]))
        rw [Int.toNat_natCast]
        (repeat (first | refine s_p ?_ | refine s_c (by omega) ?_ | refine S.ld ?_ | refine S.ldB ?_ | refine S.ce ?_ | refine S.ceB ?_ | refine s_q ?_ | refine s_qc (by omega) ?_ | refine n_some ?_ | rw [List.getD_cons_zero] | rw [List.getD_cons_succ]))
        exact hK3
      refine j_borH (c := decide (most / 10 < n)) (fun hb K3 hK3 => ?_) ?_
      · (repeat (first | refine s_p ?_ | refine s_c (by omega) ?_ | refine S.ld ?_ | refine S.ldB ?_ | refine S.ce ?_ | refine S.ceB ?_ | refine s_q ?_ | refine s_qc (by omega) ?_ | refine n_some ?_ | rw [List.getD_cons_zero] | rw [List.getD_cons_succ]))
        exact hK3
      refine j_borand2 (g := decide (n = most / 10)) (c := decide (most % 10 < byteAt s b - 48)) (fun _ K3 hK3 => ?_) (fun _ _ K3 hK3 => ?_) ?_
      · (repeat (first | refine s_p ?_ | refine s_c (by omega) ?_ | refine S.ld ?_ | refine S.ldB ?_ | refine S.ce ?_ | refine S.ceB ?_ | refine s_q ?_ | refine s_qc (by omega) ?_ | refine n_some ?_ | rw [List.getD_cons_zero] | rw [List.getD_cons_succ]))
        exact hK3
      · (repeat (first | refine s_p ?_ | refine s_c (by omega) ?_ | refine S.ld ?_ | refine S.ldB ?_ | refine S.ce ?_ | refine S.ceB ?_ | refine s_q ?_ | refine s_qc (by omega) ?_ | refine n_some ?_ | rw [List.getD_cons_zero] | rw [List.getD_cons_succ]))
        exact hK3
      have hcond : (decide ((b : Int) = a + 1) && decide (byteAt s a = 48) || decide (most / 10 < n) || (decide (n = most / 10) && decide (most % 10 < byteAt s b - 48))) =
          ((decide ((a : Int) < b) && decide (byteAt s a = 48)) || decide ((most - (byteAt s b - 48)) / 10 < n)) := by
        have e1 : (decide ((b : Int) = a + 1) && decide (byteAt s a = 48)) = (decide ((a : Int) < b) && decide (byteAt s a = 48)) := by
          by_cases h48 : byteAt s a = 48
          · have : ¬ a + 1 < b := fun h => hfirst h h48
            rw [decide_eq_decide.2 (show ((b : Int) = a + 1) ↔ ((a : Int) < b) by omega)]
          · simp [h48]
        have e2 : (decide (most / 10 < n) || (decide (n = most / 10) && decide (most % 10 < byteAt s b - 48))) = decide ((most - (byteAt s b - 48)) / 10 < n) := by
          rw [← Bool.decide_and, ← Bool.decide_or]
          exact decide_eq_decide.2 (by omega)
        rw [e1, Bool.or_assoc, e2]
      rw [hcond]
      refine c_b (fun hc => ?_) (fun hc => ?_)
      · rw [if_pos hc] at hrec
        (repeat (first | refine s_p ?_ | refine s_c (by omega) ?_ | refine S.ld ?_ | refine S.ldB ?_ | refine S.ce ?_ | refine S.ceB ?_ | refine s_q ?_ | refine s_qc (by omega) ?_ | refine n_some ?_ | rw [List.getD_cons_zero] | rw [List.getD_cons_succ]))
        have hne : b ≠ a := by
          intro he
          have := hba he
          simp only [Bool.or_eq_true, Bool.and_eq_true, decide_eq_true_eq] at hc
          omega
        refine h b false n _ hbs hn0 hnm S (.ok ?_)
        rw [hT, hrec, if_neg hne]
      · rw [if_neg (by rw [hc]; simp)] at hrec
        simp only [Bool.or_eq_false_iff, decide_eq_false_iff_not, Int.not_lt] at hc
        (repeat (first | refine s_p ?_ | refine s_c (by omega) ?_ | refine S.ld ?_ | refine S.ldB ?_ | refine S.ce ?_ | refine S.ceB ?_ | refine s_q ?_ | refine s_qc (by omega) ?_ | refine n_some ?_ | rw [List.getD_cons_zero] | rw [List.getD_cons_succ]))
        refine S.st fun w5 S => ?_
        refine hK6 (b + 1, 10 * n + (byteAt s b - 48), f) _ ⟨by omega, by omega, by simp only; omega, by simp only; omega, by simp only; omega, fun h => by simp only at h; omega, fun h => ?_, hrec, S⟩ (Nat.lt_succ_self _)
        simp only at h
        intro h48
        have := hc.1
        simp [h48] at this
        omega
    · rw [if_neg (by rw [hd]; simp)] at hrec
      rw [hrec] at hT
      refine j_intro (fun _ w' => StX X w0 r w' (rqC rb s b (decide (b = a)) :: L)) (fun K2 hK2 => ?_) ?_
      · (repeat (first | refine s_p ?_ | refine s_c (by omega) ?_ | refine S.ld ?_ | refine S.ldB ?_ | refine S.ce ?_ | refine S.ceB ?_ | refine s_q ?_ | refine s_qc (by omega) ?_ | refine n_some ?_ | rw [List.getD_cons_zero] | rw [List.getD_cons_succ]))
        refine c_if (fun he => ?_) (fun he => ?_)
        · have he : b = a := by omega
          (repeat (first | refine s_p ?_ | refine s_c (by omega) ?_ | refine S.ld ?_ | refine S.ldB ?_ | refine S.ce ?_ | refine S.ceB ?_ | refine s_q ?_ | refine s_qc (by omega) ?_ | refine n_some ?_ | rw [List.getD_cons_zero] | rw [List.getD_cons_succ]))
          refine S.st fun w4 S => ?_
          refine hK2 [] _ ?_
          rw [show decide (b = a) = true by simpa using he]
          exact S
        · have he : b ≠ a := by omega
          refine hK2 [] _ ?_
          rw [show decide (b = a) = false by simpa using he]
          exact S
      rintro _ w4 S d4
      (repeat (first | refine s_p ?_ | refine s_c (by omega) ?_ | refine S.ld ?_ | refine S.ldB ?_ | refine S.ce ?_ | refine S.ceB ?_ | refine s_q ?_ | refine s_qc (by omega) ?_ | refine n_some ?_ | rw [List.getD_cons_zero] | rw [List.getD_cons_succ]))
      by_cases he : b = a
      · rw [if_pos he] at hT
        rw [show decide (b = a) = true by simpa using he] at S
        exact h b true n _ hbs hn0 hnm S (.no (by rw [hT, he]))
      · rw [if_neg he] at hT
        rw [show decide (b = a) = false by simpa using he] at S
        exact h b false n _ hbs hn0 hnm S (.ok hT)
end
end Go.Proofs
end

section
namespace Go.Proofs
open Go.Sh
set_option maxRecDepth 100000
set_option linter.unusedSimpArgs false
/-- the walk's own cells, in another order -/
theorem _root_.Go.Sh.StX.perm {X : Nat → Prop} {w0 w : World} {r : Gh} {L M : List Asr} (S : StX X w0 r w L) (hp : L.Perm M) : StX X w0 r w M :=
  ⟨S.x, S.holds, fun z hz => S.has z (hp.mem_iff.2 hz), fun z hz => S.mine z (hp.mem_iff.2 hz), (List.Perm.pairwise_iff (fun h k h1 h2 => h k h2 h1) hp).1 S.apart⟩
theorem Out.ret {α : Type} {st : Bool} {a : Nat} {v : α} : Out st a (a, some v) a st v := by
  cases st
  · exact ⟨rfl, rfl, rfl⟩
  · exact ⟨rfl, rfl⟩
theorem Out.cut {α : Type} {st : Bool} {a : Nat} {x : Rd' α} {v : α} (h : st = false → x = (a, none)) : Out st a x a true v := by
  cases st
  · exact .no (h rfl)
  · exact .stuck
theorem Out.as {α : Type} {st st' : Bool} {a a' : Nat} {x y : Rd' α} {v : α} (h : Out st a x a' st' v) (e : st = false → y = x) : Out st a y a' st' v := by
  cases st
  · rw [e rfl]; exact h
  · exact h
/-- the byte comes: which, and the reader may take it -/
theorem cm_take {s : List UInt8} {a : Nat} {c : UInt8} (h : cmB s a [c] = true) : a < s.length ∧ tkR s [c] a = (a + 1, some ()) ∧ ∀ d, cmB s a [d] = decide (c = d) := by
  have hlt : a < s.length := by
    by_cases hl : a < s.length
    · exact hl
    · rw [cmB, prefB, List.drop_eq_nil_of_le (by omega)] at h; simp at h
  have hcm : ∀ d, cmB s a [d] = decide (s[a] = d) := by
    intro d
    rw [cmB, prefB, List.drop_eq_getElem_cons hlt]
    have h1 : decide ((([d] : List UInt8).length : Int) ≤ ((s[a] :: s.drop (a + 1)).length : Int)) = true := by simp; omega
    rw [h1, Bool.true_and, show (s[a] :: s.drop (a + 1)).take ([d] : List UInt8).length = [s[a]] from rfl]
    by_cases h2 : s[a] = d
    · simp [h2]
    · simp [h2]
  have hc : s[a] = c := by rw [hcm] at h; simpa using h
  refine ⟨hlt, ?_, fun d => by rw [hcm, hc]⟩
  have hb : byteAt s a = (c.toNat : Int) := by rw [byteAt, List.getD_eq_getElem?_getD, List.getElem?_eq_getElem hlt, ← hc]; rfl
  rw [tkR, takeR, if_neg (by simp [hb]; omega)]
  rfl
theorem nx_is {s : List UInt8} {a : Nat} {st : Bool} (c : UInt8) {n : Int} (hn : n = (c.toNat : Int)) (hc : c ≠ 0) : decide (nxB s a st = n) = (!st && cmB s a [c]) := by
  rw [hn]; exact nx_eq hc
/-- the contract of kind, so deep -/
def KindQ (s : List UInt8) (rd : Nat → Rd' TyD) (left : Nat) : Prop :=
  ∀ {X : Nat → Prop} {w0 w : World} {r : Gh} {L : List Asr} {rb a : Nat} {st : Bool} {K : Value → World → Prop}, StX X w0 r w (rqC rb s a st :: L) → a ≤ s.length → s.length ≤ 1000000000 →
  (∀ t v sn a' st' w', Out st a (rd a) a' st' t → a' ≤ s.length → StX X w0 (r.or sn) w' (rqC rb s a' st' :: L) → (∀ b o, sn b o → w.heap.size ≤ b) → TyG sn v t → K v w') →
  oCall Tryd.prog Tryd.n_ref06_reader_kind #[rdP rb, .int .i64 (left : Int)] w K
section
variable {X : Nat → Prop} {w0 w : World} {r : Gh} {L : List Asr} {rb : Nat} {s p : List UInt8} {a : Nat} {K : Value → World → Prop}
abbrev t5C (b5 : Nat) (m : Bool) (re : Int) : Asr := .cell b5 [.int .u8 4, .bool m, .int .i64 re, .int .i64 0, .slice none 0 0] 25
abbrev t4C (b4 : Nat) : Asr := .cell b4 [.int .u8 0, .bool false, .int .i64 0, .int .i64 0, .slice none 0 0] 25
theorem c_q_reference {n : Nat} {rec : Nat → Rd' TyD} (hkind : KindQ s rec n) (hn : n ≤ 1000) (S : StX X w0 r w (rqC rb s a false :: L)) (_ : a ≤ s.length) (hs : s.length ≤ 1000000000) (hc0 : cmB s a [38] = true)
    (h : ∀ t v sn a' st' w', Out false a (refS s rec (n + 1) a) a' st' t → a' ≤ s.length → StX X w0 (r.or sn) w' (rqC rb s a' st' :: L) → (∀ b o, sn b o → w.heap.size ≤ b) → TyG sn v t → K v w') :
    oCall Tryd.prog Tryd.n_ref06_reader_reference #[rdP rb, .int .i64 ((n + 1 : Nat) : Int)] w K := by
  obtain ⟨ha, e0, _⟩ := cm_take hc0
  refine Tryd.ok_ref06_reader_reference ?_
  unfold Tryd.F_ref06_reader_reference
  refine S.alM fun b4 w1 hb4 _ S => ?_
  refine p_build (cs := #[.int .u8 4, .bool false, .int .i64 (-1), .int .i64 0, .slice none 0 0]) (by kernel_rfl) ?_
  refine S.al fun b5 w2 S => ?_
  refine S.stB fun w3 S => ?_
  (repeat (first | refine s_p ?_ | refine s_c (by omega) ?_ | refine S.ld ?_ | refine S.ldB ?_ | refine S.ce ?_ | refine S.ceB ?_ | refine s_q ?_ | refine s_qc (by omega) ?_ | refine n_some ?_ | rw [List.getD_cons_zero] | rw [List.getD_cons_succ]))
  refine S.st fun w4 S => ?_
  have S : StX X w0 r w4 (t5C b5 false (-1) :: t4C b4 :: rqC rb s (a + 1) false :: L) := S
  refine j_intro (fun _ w' => ∃ a2 st2 re, Out false (a + 1) (rgR s (a + 1)) a2 st2 re ∧ a2 ≤ s.length ∧ -1 ≤ re ∧ StX X w0 r w' (rqC rb s a2 st2 :: t5C b5 false re :: t4C b4 :: L)) (fun K2 hK2 => ?_) ?_
  · have S : StX X w0 r w4 (rqC rb s (a + 1) false :: t5C b5 false (-1) :: t4C b4 :: L) := S.perm (by
      refine (List.Perm.cons _ (.swap _ _ _)).trans ?_
      exact .swap _ _ _)
    refine c_q_next S fun w5 S => ?_
    (repeat (first | refine s_p ?_ | refine s_c (by omega) ?_ | refine S.ld ?_ | refine S.ldB ?_ | refine S.ce ?_ | refine S.ceB ?_ | refine s_q ?_ | refine s_qc (by omega) ?_ | refine n_some ?_ | rw [List.getD_cons_zero] | rw [List.getD_cons_succ]))
    rw [nx_is 39 (n := 39) (by decide) (by decide)]
    refine c_b (fun hc => ?_) (fun hc => ?_)
    · have hc : cmB s (a + 1) [39] = true := by simpa using hc
      obtain ⟨ha1, e1, _⟩ := cm_take hc
      (repeat (first | refine s_p ?_ | refine s_c (by omega) ?_ | refine S.ld ?_ | refine S.ldB ?_ | refine S.ce ?_ | refine S.ceB ?_ | refine s_q ?_ | refine s_qc (by omega) ?_ | refine n_some ?_ | rw [List.getD_cons_zero] | rw [List.getD_cons_succ]))
      refine S.st fun w6 S => ?_
      have S : StX X w0 r w6 (rqC rb s (a + 1 + 1) false :: t5C b5 false (-1) :: t4C b4 :: L) := S
      refine c_q_number S ha1 hs (by decide) (by decide) fun a3 st3 re w7 ha3 h0 _ S o3 => ?_
      (first | refine s_p ?_ | refine s_c (by omega) ?_)
      refine S.st fun w8 S => ?_
      refine c_q_word S ha3 hs (by decide) fun a4 st4 w9 ha4 S o4 => ?_
      refine hK2 [] _ ⟨a4, st4, re, ?_, ha4, by omega, S⟩
      rw [rgR, if_pos hc]
      exact (Out.ok e1).bd (o3.bd (o4.bd .ret))
    · have hc : cmB s (a + 1) [39] = false := by simpa using hc
      refine hK2 [] _ ⟨a + 1, false, -1, ?_, ha, Int.le_refl _, S⟩
      rw [rgR, if_neg (by rw [hc]; simp)]
      exact .ret
  rintro _ w5 ⟨a2, st2, re, o2, ha2, hre, S⟩ d5
  refine j_intro (fun _ w' => ∃ a3 st3 m, Out st2 a2 (mtR s a2) a3 st3 m ∧ a3 ≤ s.length ∧ StX X w0 r w' (rqC rb s a3 st3 :: t5C b5 m re :: t4C b4 :: L)) (fun K2 hK2 => ?_) ?_
  · refine c_q_next S fun w6 S => ?_
    (repeat (first | refine s_p ?_ | refine s_c (by omega) ?_ | refine S.ld ?_ | refine S.ldB ?_ | refine S.ce ?_ | refine S.ceB ?_ | refine s_q ?_ | refine s_qc (by omega) ?_ | refine n_some ?_ | rw [List.getD_cons_zero] | rw [List.getD_cons_succ]))
    rw [nx_is 109 (n := 109) (by decide) (by decide)]
    refine c_b (fun hc => ?_) (fun hc => ?_)
    · have hcc : st2 = false ∧ cmB s a2 [109] = true := by simpa using hc
      clear hc
      obtain ⟨rfl, hc⟩ := hcc
      refine c_q_word S ha2 hs (by decide) fun a3 st3 w7 ha3 S o3 => ?_
      (first | refine s_p ?_ | refine s_c (by omega) ?_)
      refine S.st fun w8 S => ?_
      refine hK2 [] _ ⟨a3, st3, true, ?_, ha3, S⟩
      rw [mtR, if_pos hc]
      exact o3.bd .ret
    · refine hK2 [] _ ⟨a2, st2, false, ?_, ha2, S⟩
      refine Out.ret.as fun hst => ?_
      rw [mtR, if_neg (by rw [hst] at hc; simpa using hc)]
  rintro _ w6 ⟨a3, st3, m, o3, ha3, S⟩ d6
  have hfin : ∀ {a' st'} {u : TyD}, Out st3 a3 (bd (brR s (n + 1) re m a3) fun _ a => bd (rec a) fun u a => (a, some (.mk 4 m re 0 [u]))) a' st' u → Out false a (refS s rec (n + 1) a) a' st' u := by
    intro a' st' u o
    rw [refS]
    exact (Out.ok e0).bd (o2.bd (o3.bd o))
  refine j_intro (fun _ w' => ∃ a4 st4, Out st3 a3 (brR s (n + 1) re m a3) a4 st4 () ∧ a4 ≤ s.length ∧ StX X w0 r w' (rqC rb s a4 st4 :: t5C b5 m re :: t4C b4 :: L)) (fun K2 hK2 => ?_) ?_
  · (repeat (first | refine s_p ?_ | refine s_c (by omega) ?_ | refine S.ld ?_ | refine S.ldB ?_ | refine S.ce ?_ | refine S.ceB ?_ | refine s_q ?_ | refine s_qc (by omega) ?_ | refine n_some ?_ | rw [List.getD_cons_zero] | rw [List.getD_cons_succ]))
    refine j_bandH (c := !m) (fun _ K3 hK3 => ?_) ?_
    · (repeat (first | refine s_p ?_ | refine s_c (by omega) ?_ | refine S.ld ?_ | refine S.ldB ?_ | refine S.ce ?_ | refine S.ceB ?_ | refine s_q ?_ | refine s_qc (by omega) ?_ | refine n_some ?_ | rw [List.getD_cons_zero] | rw [List.getD_cons_succ]))
      exact hK3
    generalize hbare : (decide (re < 0) && !m) = bare at *
    refine c_b (fun hb => ?_) (fun hb => ?_)
    · subst hb
      refine c_q_next S fun w7 S => ?_
      (repeat (first | refine s_p ?_ | refine s_c (by omega) ?_ | refine S.ld ?_ | refine S.ldB ?_ | refine S.ce ?_ | refine S.ceB ?_ | refine s_q ?_ | refine s_qc (by omega) ?_ | refine n_some ?_ | rw [List.getD_cons_zero] | rw [List.getD_cons_succ]))
      rw [nx_is 38 (n := 38) (by decide) (by decide)]
      refine c_b (fun hc1 => ?_) (fun hc1 => ?_)
      · have hcc : st3 = false ∧ cmB s a3 [38] = true := by simpa using hc1
        clear hc1
        obtain ⟨rfl, hc1⟩ := hcc
        (repeat (first | refine s_p ?_ | refine s_c (by omega) ?_ | refine S.ld ?_ | refine S.ldB ?_ | refine S.ce ?_ | refine S.ceB ?_ | refine s_q ?_ | refine s_qc (by omega) ?_ | refine n_some ?_ | rw [List.getD_cons_zero] | rw [List.getD_cons_succ]))
        refine S.st fun w8 S => ?_
        (repeat (first | refine s_p ?_ | refine s_c (by omega) ?_ | refine S.ld ?_ | refine S.ldB ?_ | refine S.ce ?_ | refine S.ceB ?_ | refine s_q ?_ | refine s_qc (by omega) ?_ | refine n_some ?_ | rw [List.getD_cons_zero] | rw [List.getD_cons_succ]))
        refine S.stB fun w9 S => ?_
        (repeat (first | refine s_p ?_ | refine s_c (by omega) ?_ | refine S.ld ?_ | refine S.ldB ?_ | refine S.ce ?_ | refine S.ceB ?_ | refine s_q ?_ | refine s_qc (by omega) ?_ | refine n_some ?_ | rw [List.getD_cons_zero] | rw [List.getD_cons_succ]))
        refine h (.mk 4 m re 0 []) _ nothing a3 true _ (hfin (Out.bd (u := ()) (.no ?_) .stuck)) ha3 (S.d1.d1.to (r.or nothing)) (fun _ _ h => h.elim) ty_leaf
        rw [brR, hbare, hc1]; rfl
      refine c_q_next S fun w8 S => ?_
      (repeat (first | refine s_p ?_ | refine s_c (by omega) ?_ | refine S.ld ?_ | refine S.ldB ?_ | refine S.ce ?_ | refine S.ceB ?_ | refine s_q ?_ | refine s_qc (by omega) ?_ | refine n_some ?_ | rw [List.getD_cons_zero] | rw [List.getD_cons_succ]))
      rw [nx_is 32 (n := 32) (by decide) (by decide)]
      refine j_bandH (c := decide (2 < n + 1)) (fun _ K3 hK3 => ?_) ?_
      · (first | refine s_p ?_ | refine s_c (by omega) ?_)
        rw [show decide ((2 : Int) < ((n + 1 : Nat) : Int)) = decide (2 < n + 1) from decide_eq_decide.2 (by omega)]
        exact hK3
      have hbr : st3 = false → brR s (n + 1) re m a3 = if cmB s a3 [32] && decide (2 < n + 1) then bd (tkR s [32] a3) fun _ a => if !cmB s a [38] then (a, none) else (a, some ()) else (a3, some ()) := by
        intro hst
        rw [hst] at hc1
        rw [brR, hbare, Bool.true_and, Bool.true_and, if_neg (by simpa using hc1)]
      refine c_b (fun hc2 => ?_) (fun hc2 => ?_)
      · simp only [Bool.and_eq_true, Bool.not_eq_true'] at hc2
        obtain ⟨⟨rfl, hc2⟩, hn2⟩ := hc2
        have hbr := hbr rfl
        rw [hc2, hn2, Bool.true_and, if_pos rfl] at hbr
        obtain ⟨ha4, e4, _⟩ := cm_take hc2
        rw [e4] at hbr
        (repeat (first | refine s_p ?_ | refine s_c (by omega) ?_ | refine S.ld ?_ | refine S.ldB ?_ | refine S.ce ?_ | refine S.ceB ?_ | refine s_q ?_ | refine s_qc (by omega) ?_ | refine n_some ?_ | rw [List.getD_cons_zero] | rw [List.getD_cons_succ]))
        refine S.st fun w9 S => ?_
        have S : StX X w0 r w9 (rqC rb s (a3 + 1) false :: t5C b5 m re :: t4C b4 :: L) := S
        refine c_q_next S fun w10 S => ?_
        (repeat (first | refine s_p ?_ | refine s_c (by omega) ?_ | refine S.ld ?_ | refine S.ldB ?_ | refine S.ce ?_ | refine S.ceB ?_ | refine s_q ?_ | refine s_qc (by omega) ?_ | refine n_some ?_ | rw [List.getD_cons_zero] | rw [List.getD_cons_succ]))
        have hne : decide (nxB s (a3 + 1) false ≠ 38) = !cmB s (a3 + 1) [38] := by
          have := nx_is (s := s) (a := a3 + 1) (st := false) 38 (n := 38) (by decide) (by decide)
          rw [decide_not, this]; simp
        rw [hne]
        refine c_b (fun hc3 => ?_) (fun hc3 => ?_)
        · (repeat (first | refine s_p ?_ | refine s_c (by omega) ?_ | refine S.ld ?_ | refine S.ldB ?_ | refine S.ce ?_ | refine S.ceB ?_ | refine s_q ?_ | refine s_qc (by omega) ?_ | refine n_some ?_ | rw [List.getD_cons_zero] | rw [List.getD_cons_succ]))
          refine S.st fun w11 S => ?_
          (repeat (first | refine s_p ?_ | refine s_c (by omega) ?_ | refine S.ld ?_ | refine S.ldB ?_ | refine S.ce ?_ | refine S.ceB ?_ | refine s_q ?_ | refine s_qc (by omega) ?_ | refine n_some ?_ | rw [List.getD_cons_zero] | rw [List.getD_cons_succ]))
          refine S.stB fun w12 S => ?_
          (repeat (first | refine s_p ?_ | refine s_c (by omega) ?_ | refine S.ld ?_ | refine S.ldB ?_ | refine S.ce ?_ | refine S.ceB ?_ | refine s_q ?_ | refine s_qc (by omega) ?_ | refine n_some ?_ | rw [List.getD_cons_zero] | rw [List.getD_cons_succ]))
          refine h (.mk 4 m re 0 []) _ nothing (a3 + 1) true _ (hfin (Out.bd (u := ()) (.no ?_) .stuck)) ha4 (S.d1.d1.to (r.or nothing)) (fun _ _ h => h.elim) ty_leaf
          rw [hbr]; simp only [bd]; rw [if_pos hc3]
        · refine hK2 [] _ ⟨a3 + 1, false, .ok ?_, ha4, S⟩
          rw [hbr]; simp only [bd]; rw [if_neg (by rw [hc3]; simp)]
      · refine hK2 [] _ ⟨a3, st3, Out.ret.as fun hst => ?_, ha3, S⟩
        rw [hbr hst, if_neg (by rw [hst] at hc2; simpa using hc2)]
    · subst hb
      refine hK2 [] _ ⟨a3, st3, Out.ret.as fun hst => ?_, ha3, S⟩
      rw [brR, hbare]; simp
  rintro _ w7 ⟨a4, st4, o4, ha4, S⟩ d7
  (first | refine s_p ?_ | refine s_c (by omega) ?_)
  rw [show ((n + 1 : Nat) : Int) - 1 = (n : Int) by omega]
  have hb47 : b4 < w7.heap.size := Asr.lt (x := t4C b4) (S.has _ (by simp)) rfl
  refine hkind S ha4 hs (fun u v sn a5 st5 w8 o5 ha5 S hf hty => ?_)
  have hty0 := hty
  obtain ⟨p9, cap9, rfl, _⟩ := hty
  refine w_lit (e := 25) (cs := [.int .u8 u.k, .bool u.m, .int .i64 u.re, .int .i64 u.st, .slice p9 u.of.length cap9]) (by kernel_rfl) fun b9 w9 hb9 e9 _ B9 => ?_
  have hb4' : b4 < w8.heap.size := Asr.lt (x := t4C b4) (S.has _ (by simp)) rfl
  have S := S.add e9 (by omega) B9
  have S := S.frz
  (first | refine s_p ?_ | refine s_c (by omega) ?_)
  refine S.st fun w10 S => ?_
  (repeat (first | refine s_p ?_ | refine s_c (by omega) ?_ | refine S.ld ?_ | refine S.ldB ?_ | refine S.ce ?_ | refine S.ceB ?_ | refine s_q ?_ | refine s_qc (by omega) ?_ | refine n_some ?_ | rw [List.getD_cons_zero] | rw [List.getD_cons_succ]))
  refine S.stB fun w11 S => ?_
  (repeat (first | refine s_p ?_ | refine s_c (by omega) ?_ | refine S.ld ?_ | refine S.ldB ?_ | refine S.ce ?_ | refine S.ceB ?_ | refine s_q ?_ | refine s_qc (by omega) ?_ | refine n_some ?_ | rw [List.getD_cons_zero] | rw [List.getD_cons_succ]))
  have S := S.d1.d1.to (r.or (sn.or (one b9 [.int .u8 u.k, .bool u.m, .int .i64 u.re, .int .i64 u.st, .slice p9 u.of.length cap9] 25)))
  refine h (.mk 4 m re 0 [u]) _ (sn.or (one b9 [.int .u8 u.k, .bool u.m, .int .i64 u.re, .int .i64 u.st, .slice p9 u.of.length cap9] 25)) a5 st5 _ (hfin (o4.bd (o5.bd .ret))) ha5 S (fun b o hbo => ?_) (ty_one hty0)
  rcases hbo with hbo | ⟨rfl, _⟩
  · have := hf b o hbo; omega
  · omega
theorem kindq_step {rec : Nat → Rd' TyD} {left : Nat} (hl : left ≤ 1000) (hrec : 1 < left → ∃ m, left = m + 1 ∧ KindQ s rec m) : KindQ s (kindS s rec left) left := by
  intro X w0 w r L rb a st K S ha hs h
  refine Tryd.ok_ref06_reader_kind ?_
  unfold Tryd.F_ref06_reader_kind
  refine S.alM fun b4 w1 hb4 _ S => ?_
  have S := S.swap
  refine c_q_next S fun w2 S => ?_
  (repeat (first | refine s_p ?_ | refine s_c (by omega) ?_ | refine S.ld ?_ | refine S.ldB ?_ | refine S.ce ?_ | refine S.ceB ?_ | refine s_q ?_ | refine s_qc (by omega) ?_ | refine n_some ?_ | rw [List.getD_cons_zero] | rw [List.getD_cons_succ]))
  rw [nx_is 105 (n := 105) (by decide) (by decide)]
  refine c_b (fun hc => ?_) (fun hc1 => ?_)
  · have hcc : st = false ∧ cmB s a [105] = true := by simpa using hc
    clear hc
    obtain ⟨rfl, hc⟩ := hcc
    refine c_q_word S ha hs (by decide) fun a1 st1 w3 ha1 S o1 => ?_
    refine p_build (cs := #[.int .u8 1, .bool false, .int .i64 0, .int .i64 0, .slice none 0 0]) (by kernel_rfl) ?_
    refine S.stB fun w4 S => ?_
    (repeat (first | refine s_p ?_ | refine s_c (by omega) ?_ | refine S.ld ?_ | refine S.ldB ?_ | refine S.ce ?_ | refine S.ceB ?_ | refine s_q ?_ | refine s_qc (by omega) ?_ | refine n_some ?_ | rw [List.getD_cons_zero] | rw [List.getD_cons_succ]))
    refine h (.mk 1 false 0 0 []) _ nothing a1 st1 _ ?_ ha1 (S.d1.to (r.or nothing)) (fun _ _ h => h.elim) ty_leaf
    rw [kindS, if_pos hc]
    exact o1.bd .ret
  (repeat (first | refine s_p ?_ | refine s_c (by omega) ?_ | refine S.ld ?_ | refine S.ldB ?_ | refine S.ce ?_ | refine S.ceB ?_ | refine s_q ?_ | refine s_qc (by omega) ?_ | refine n_some ?_ | rw [List.getD_cons_zero] | rw [List.getD_cons_succ]))
  rw [nx_is 35 (n := 35) (by decide) (by decide)]
  refine c_b (fun hc => ?_) (fun hc2 => ?_)
  · have hcc : st = false ∧ cmB s a [35] = true := by simpa using hc
    clear hc
    obtain ⟨rfl, hc⟩ := hcc
    obtain ⟨ha1, e1, hd⟩ := cm_take hc
    (repeat (first | refine s_p ?_ | refine s_c (by omega) ?_ | refine S.ld ?_ | refine S.ldB ?_ | refine S.ce ?_ | refine S.ceB ?_ | refine s_q ?_ | refine s_qc (by omega) ?_ | refine n_some ?_ | rw [List.getD_cons_zero] | rw [List.getD_cons_succ]))
    refine S.st fun w3 S => ?_
    have S : StX X w0 r w3 (rqC rb s (a + 1) false :: t4C b4 :: L) := S
    refine c_q_number S ha1 hs (by decide) (by decide) fun a2 st2 n w4 ha2 h0 _ S o2 => ?_
    refine p_build (cs := #[.int .u8 5, .bool false, .int .i64 0, .int .i64 n, .slice none 0 0]) (by kernel_rfl) ?_
    refine S.stB fun w5 S => ?_
    (repeat (first | refine s_p ?_ | refine s_c (by omega) ?_ | refine S.ld ?_ | refine S.ldB ?_ | refine S.ce ?_ | refine S.ceB ?_ | refine s_q ?_ | refine s_qc (by omega) ?_ | refine n_some ?_ | rw [List.getD_cons_zero] | rw [List.getD_cons_succ]))
    refine h (.mk 5 false 0 n []) _ nothing a2 st2 _ ?_ ha2 (S.d1.to (r.or nothing)) (fun _ _ h => h.elim) ty_leaf
    rw [kindS, if_neg (by rw [hd]; decide), if_neg (by rw [hd]; decide), if_pos hc]
    exact (Out.ok e1).bd (o2.bd .ret)
  (repeat (first | refine s_p ?_ | refine s_c (by omega) ?_ | refine S.ld ?_ | refine S.ldB ?_ | refine S.ce ?_ | refine S.ceB ?_ | refine s_q ?_ | refine s_qc (by omega) ?_ | refine n_some ?_ | rw [List.getD_cons_zero] | rw [List.getD_cons_succ]))
  rw [nx_is 98 (n := 98) (by decide) (by decide)]
  refine c_b (fun hc => ?_) (fun hc3 => ?_)
  · have hcc : st = false ∧ cmB s a [98] = true := by simpa using hc
    clear hc
    obtain ⟨rfl, hc⟩ := hcc
    obtain ⟨_, _, hd⟩ := cm_take hc
    refine c_q_word S ha hs (by decide) fun a1 st1 w3 ha1 S o1 => ?_
    refine p_build (cs := #[.int .u8 2, .bool false, .int .i64 0, .int .i64 0, .slice none 0 0]) (by kernel_rfl) ?_
    refine S.stB fun w4 S => ?_
    (repeat (first | refine s_p ?_ | refine s_c (by omega) ?_ | refine S.ld ?_ | refine S.ldB ?_ | refine S.ce ?_ | refine S.ceB ?_ | refine s_q ?_ | refine s_qc (by omega) ?_ | refine n_some ?_ | rw [List.getD_cons_zero] | rw [List.getD_cons_succ]))
    refine h (.mk 2 false 0 0 []) _ nothing a1 st1 _ ?_ ha1 (S.d1.to (r.or nothing)) (fun _ _ h => h.elim) ty_leaf
    rw [kindS, if_neg (by rw [hd]; decide), if_pos hc]
    exact o1.bd .ret
  (repeat (first | refine s_p ?_ | refine s_c (by omega) ?_ | refine S.ld ?_ | refine S.ldB ?_ | refine S.ce ?_ | refine S.ceB ?_ | refine s_q ?_ | refine s_qc (by omega) ?_ | refine n_some ?_ | rw [List.getD_cons_zero] | rw [List.getD_cons_succ]))
  rw [nx_is 66 (n := 66) (by decide) (by decide)]
  refine c_b (fun hc => ?_) (fun hc4 => ?_)
  · have hcc : st = false ∧ cmB s a [66] = true := by simpa using hc
    clear hc
    obtain ⟨rfl, hc⟩ := hcc
    obtain ⟨_, _, hd⟩ := cm_take hc
    (first | refine s_p ?_ | refine s_c (by omega) ?_)
    refine c_if (fun hlt => ?_) (fun hge => ?_)
    · (repeat (first | refine s_p ?_ | refine s_c (by omega) ?_ | refine S.ld ?_ | refine S.ldB ?_ | refine S.ce ?_ | refine S.ceB ?_ | refine s_q ?_ | refine s_qc (by omega) ?_ | refine n_some ?_ | rw [List.getD_cons_zero] | rw [List.getD_cons_succ]))
      refine S.st fun w3 S => ?_
      refine p_build (cs := #[.int .u8 0, .bool false, .int .i64 0, .int .i64 0, .slice none 0 0]) (by kernel_rfl) ?_
      refine S.stB fun w4 S => ?_
      (repeat (first | refine s_p ?_ | refine s_c (by omega) ?_ | refine S.ld ?_ | refine S.ldB ?_ | refine S.ce ?_ | refine S.ceB ?_ | refine s_q ?_ | refine s_qc (by omega) ?_ | refine n_some ?_ | rw [List.getD_cons_zero] | rw [List.getD_cons_succ]))
      refine h (.mk 0 false 0 0 []) _ nothing a true _ (.no ?_) ha (S.d1.to (r.or nothing)) (fun _ _ h => h.elim) ty_leaf
      rw [kindS, if_neg (by rw [hd]; decide), if_neg (by rw [hd]; decide), if_neg (by rw [hd]; decide), if_neg (by simp; omega), if_neg (by simp; omega)]
    obtain ⟨m, rfl, hkind⟩ := hrec (by omega)
    have hR : kindS s rec (m + 1) a = bd (tkR s [66, 111, 120, 60] a) fun _ a => bd (rec a) fun u a => bd (tkR s [62] a) fun _ a => (a, some (.mk 3 false 0 0 [u])) := by
      rw [kindS, if_neg (by rw [hd]; decide), if_neg (by rw [hd]; decide), if_neg (by rw [hd]; decide), if_pos (by rw [hc]; simp; omega)]
    rw [hR] at h
    refine c_q_word S ha hs (by decide) fun a1 st1 w6 ha1 S o1 => ?_
    (first | refine s_p ?_ | refine s_c (by omega) ?_)
    rw [show ((m + 1 : Nat) : Int) - 1 = (m : Int) by omega]
    have hb46 : b4 < w6.heap.size := Asr.lt (x := t4C b4) (S.has _ (by simp)) rfl
    refine hkind S ha1 hs (fun u v sn a2 st2 w7 o2 ha2 S hf hty => ?_)
    have hty0 := hty
    obtain ⟨p9, cap9, rfl, _⟩ := hty
    refine w_lit (e := 25) (cs := [.int .u8 u.k, .bool u.m, .int .i64 u.re, .int .i64 u.st, .slice p9 u.of.length cap9]) (by kernel_rfl) fun b9 w9 hb9 e9 _ B9 => ?_
    have hb47 : b4 < w7.heap.size := Asr.lt (x := t4C b4) (S.has _ (by simp)) rfl
    have S := S.add e9 (by omega) B9
    have S := S.frz
    refine p_build (cs := #[.int .u8 3, .bool false, .int .i64 0, .int .i64 0, .slice (some ⟨b9, 0, none⟩) 1 1]) (by kernel_rfl) ?_
    refine S.al fun b6 w10 S => ?_
    have S := S.swap
    refine S.stB fun w11 S => ?_
    refine c_q_word S ha2 hs (by decide) fun a3 st3 w12 ha3 S o3 => ?_
    (repeat (first | refine s_p ?_ | refine s_c (by omega) ?_ | refine S.ld ?_ | refine S.ldB ?_ | refine S.ce ?_ | refine S.ceB ?_ | refine s_q ?_ | refine s_qc (by omega) ?_ | refine n_some ?_ | rw [List.getD_cons_zero] | rw [List.getD_cons_succ]))
    refine S.stB fun w13 S => ?_
    (repeat (first | refine s_p ?_ | refine s_c (by omega) ?_ | refine S.ld ?_ | refine S.ldB ?_ | refine S.ce ?_ | refine S.ceB ?_ | refine s_q ?_ | refine s_qc (by omega) ?_ | refine n_some ?_ | rw [List.getD_cons_zero] | rw [List.getD_cons_succ]))
    have S := S.d1.d1.to (r.or (sn.or (one b9 [.int .u8 u.k, .bool u.m, .int .i64 u.re, .int .i64 u.st, .slice p9 u.of.length cap9] 25)))
    refine h (.mk 3 false 0 0 [u]) _ (sn.or (one b9 [.int .u8 u.k, .bool u.m, .int .i64 u.re, .int .i64 u.st, .slice p9 u.of.length cap9] 25)) a3 st3 _ (o1.bd (o2.bd (o3.bd .ret))) ha3 S (fun b o hbo => ?_) (ty_one hty0)
    rcases hbo with hbo | ⟨rfl, _⟩
    · have := hf b o hbo; omega
    · omega
  (repeat (first | refine s_p ?_ | refine s_c (by omega) ?_ | refine S.ld ?_ | refine S.ldB ?_ | refine S.ce ?_ | refine S.ceB ?_ | refine s_q ?_ | refine s_qc (by omega) ?_ | refine n_some ?_ | rw [List.getD_cons_zero] | rw [List.getD_cons_succ]))
  rw [nx_is 38 (n := 38) (by decide) (by decide)]
  refine c_b (fun hc => ?_) (fun hc5 => ?_)
  · have hcc : st = false ∧ cmB s a [38] = true := by simpa using hc
    clear hc
    obtain ⟨rfl, hc⟩ := hcc
    obtain ⟨_, _, hd⟩ := cm_take hc
    have hR : kindS s rec left a = if 1 < left then refS s rec left a else (a, none) := by
      rw [kindS, if_neg (by rw [hd]; decide), if_neg (by rw [hd]; decide), if_neg (by rw [hd]; decide), if_neg (by rw [hd]; simp), hc, Bool.true_and]
      by_cases h1 : 1 < left <;> simp [h1]
    rw [hR] at h
    (first | refine s_p ?_ | refine s_c (by omega) ?_)
    refine c_if (fun hlt => ?_) (fun hge => ?_)
    · (repeat (first | refine s_p ?_ | refine s_c (by omega) ?_ | refine S.ld ?_ | refine S.ldB ?_ | refine S.ce ?_ | refine S.ceB ?_ | refine s_q ?_ | refine s_qc (by omega) ?_ | refine n_some ?_ | rw [List.getD_cons_zero] | rw [List.getD_cons_succ]))
      refine S.st fun w3 S => ?_
      refine p_build (cs := #[.int .u8 0, .bool false, .int .i64 0, .int .i64 0, .slice none 0 0]) (by kernel_rfl) ?_
      refine S.stB fun w4 S => ?_
      (repeat (first | refine s_p ?_ | refine s_c (by omega) ?_ | refine S.ld ?_ | refine S.ldB ?_ | refine S.ce ?_ | refine S.ceB ?_ | refine s_q ?_ | refine s_qc (by omega) ?_ | refine n_some ?_ | rw [List.getD_cons_zero] | rw [List.getD_cons_succ]))
      refine h (.mk 0 false 0 0 []) _ nothing a true _ (.no ?_) ha (S.d1.to (r.or nothing)) (fun _ _ h => h.elim) ty_leaf
      rw [if_neg (by omega)]
    obtain ⟨m, rfl, hkind⟩ := hrec (by omega)
    rw [if_pos (by omega)] at h
    have hb46 : b4 < w2.heap.size := Asr.lt (x := t4C b4) (S.has _ (by simp)) rfl
    refine c_q_reference hkind (by omega) S ha hs hc (fun u v sn a2 st2 w7 o2 ha2 S hf hty => ?_)
    have hty0 := hty
    obtain ⟨p9, cap9, rfl, _⟩ := hty
    refine S.stB fun w8 S => ?_
    (repeat (first | refine s_p ?_ | refine s_c (by omega) ?_ | refine S.ld ?_ | refine S.ldB ?_ | refine S.ce ?_ | refine S.ceB ?_ | refine s_q ?_ | refine s_qc (by omega) ?_ | refine n_some ?_ | rw [List.getD_cons_zero] | rw [List.getD_cons_succ]))
    exact h u _ sn a2 st2 _ o2 ha2 S.d1 (fun b o hbo => by have := hf b o hbo; omega) hty0
  · (repeat (first | refine s_p ?_ | refine s_c (by omega) ?_ | refine S.ld ?_ | refine S.ldB ?_ | refine S.ce ?_ | refine S.ceB ?_ | refine s_q ?_ | refine s_qc (by omega) ?_ | refine n_some ?_ | rw [List.getD_cons_zero] | rw [List.getD_cons_succ]))
    refine S.st fun w3 S => ?_
    refine p_build (cs := #[.int .u8 0, .bool false, .int .i64 0, .int .i64 0, .slice none 0 0]) (by kernel_rfl) ?_
    refine S.stB fun w4 S => ?_
    (repeat (first | refine s_p ?_ | refine s_c (by omega) ?_ | refine S.ld ?_ | refine S.ldB ?_ | refine S.ce ?_ | refine S.ceB ?_ | refine s_q ?_ | refine s_qc (by omega) ?_ | refine n_some ?_ | rw [List.getD_cons_zero] | rw [List.getD_cons_succ]))
    refine h (.mk 0 false 0 0 []) _ nothing a true _ (.cut fun hst => ?_) ha (S.d1.to (r.or nothing)) (fun _ _ h => h.elim) ty_leaf
    rw [hst] at hc1 hc2 hc3 hc4 hc5
    simp only [Bool.not_false, Bool.true_and] at hc1 hc2 hc3 hc4 hc5
    rw [kindS, hc1, hc2, hc3, hc4, hc5]; rfl
theorem c_q_kind (s : List UInt8) : ∀ n, n ≤ 1000 → KindQ s (kindR s n) n := by
  intro n
  induction n with
  | zero => intro _; exact kindq_step (by decide) fun h => absurd h (by decide)
  | succ n ih => intro hn; exact kindq_step hn fun _ => ⟨n, rfl, ih (by omega)⟩
end
end Go.Proofs
end

section
namespace Go.Proofs
open Go.Sh
set_option maxRecDepth 100000
set_option linter.unusedSimpArgs false
set_option linter.unusedVariables false
theorem out_read {s : List UInt8} {a : Nat} {st : Bool} {t : TyD} (o : Out false 0 (kindR s 48 0) a st t) :
    readT s = if st || decide ((a : Int) < s.length) then (zeroD, (a : Int), 60) else (t, 0, 0) := by
  rw [readT]
  revert o
  generalize kindR s 48 0 = x
  obtain ⟨a1, o1⟩ := x
  cases o1 with
  | none =>
    rintro ⟨rfl, rfl⟩
    simp
  | some u =>
    rintro ⟨rfl, rfl, rfl⟩
    simp only [Bool.false_or, decide_eq_true_eq]
theorem c_ref06_Read {s : List UInt8} {w : World} {r : Gh} {K : Value → World → Prop} (hr : Holds r w) (hs : s.length ≤ 1000000000)
    (h : ∀ v sn w', Ext w w' → New w sn w' → TyG sn v (readT s).1 → K (.tuple #[v, .int .i64 (readT s).2.1, .int .i64 (readT s).2.2]) w') :
    oCall Tryd.prog Tryd.n_ref06_Read #[.string (bs s)] w K := by
  refine Tryd.ok_ref06_Read ?_
  unfold Tryd.F_ref06_Read
  have S := St.start hr
  refine S.al fun b2 w1 S => ?_
  refine p_build (cs := #[.string (bs s), .int .i64 0, .bool false]) (by kernel_rfl) ?_
  refine S.box fun rb w2 S => ?_
  have esz := S.ext.size
  have S : StX noX w r w2 (rqC rb s 0 false :: .cell b2 [.int .u8 0, .bool false, .int .i64 0, .int .i64 0, .slice none 0 0] 25 :: []) := S
  refine c_q_kind s 48 (by decide) S (Nat.zero_le _) hs fun t v sn a st w3 o ha S hf hty => ?_
  have hT := out_read o
  have hty0 := hty
  obtain ⟨p9, cap9, rfl, _⟩ := hty
  refine S.al fun b6 w4 S => ?_
  refine S.stB fun w5 S => ?_
  (repeat (first | refine s_p ?_ | refine s_c (by omega) ?_ | refine S.ld ?_ | refine S.ldB ?_ | refine S.ce ?_ | refine S.ceB ?_ | refine s_q ?_ | refine s_qc (by omega) ?_ | refine n_some ?_ | rw [List.getD_cons_zero] | rw [List.getD_cons_succ]))
  refine j_borH (c := decide ((a : Int) < s.length)) (fun _ K2 hK2 => ?_) ?_
  · (repeat (first | refine s_p ?_ | refine s_c (by omega) ?_ | refine S.ld ?_ | refine S.ldB ?_ | refine S.ce ?_ | refine S.ceB ?_ | refine s_q ?_ | refine s_qc (by omega) ?_ | refine n_some ?_ | rw [List.getD_cons_zero] | rw [List.getD_cons_succ]))
    exact hK2
  refine c_b (fun hc => ?_) (fun hc => ?_)
  · rw [if_pos hc] at hT
    rw [hT] at h
    refine p_build (cs := #[.int .u8 0, .bool false, .int .i64 0, .int .i64 0, .slice none 0 0]) (by kernel_rfl) ?_
    have S := S.go (Ext.drew _)
    (repeat (first | refine s_p ?_ | refine s_c (by omega) ?_ | refine S.ld ?_ | refine S.ldB ?_ | refine S.ce ?_ | refine S.ceB ?_ | refine s_q ?_ | refine s_qc (by omega) ?_ | refine n_some ?_ | rw [List.getD_cons_zero] | rw [List.getD_cons_succ]))
    refine ⟨?_, ?_⟩
    · refine w_q ?_
      (repeat (first | refine s_p ?_ | refine s_c (by omega) ?_ | refine S.ld ?_ | refine S.ldB ?_ | refine S.ce ?_ | refine S.ceB ?_ | refine s_q ?_ | refine s_qc (by omega) ?_ | refine n_some ?_ | rw [List.getD_cons_zero] | rw [List.getD_cons_succ]))
      refine S.stB fun w6 S => ?_
      (repeat (first | refine s_p ?_ | refine s_c (by omega) ?_ | refine S.ld ?_ | refine S.ldB ?_ | refine S.ce ?_ | refine S.ceB ?_ | refine s_q ?_ | refine s_qc (by omega) ?_ | refine n_some ?_ | rw [List.getD_cons_zero] | rw [List.getD_cons_succ]))
      exact h _ nothing _ S.ext New.nothing ty_leaf
    · refine S.stB fun w6 S => ?_
      refine w_q ?_
      (repeat (first | refine s_p ?_ | refine s_c (by omega) ?_ | refine S.ld ?_ | refine S.ldB ?_ | refine S.ce ?_ | refine S.ceB ?_ | refine s_q ?_ | refine s_qc (by omega) ?_ | refine n_some ?_ | rw [List.getD_cons_zero] | rw [List.getD_cons_succ]))
      exact h _ nothing _ S.ext New.nothing ty_leaf
  · rw [hc, if_neg (by simp)] at hT
    rw [hT] at h
    (repeat (first | refine s_p ?_ | refine s_c (by omega) ?_ | refine S.ld ?_ | refine S.ldB ?_ | refine S.ce ?_ | refine S.ceB ?_ | refine s_q ?_ | refine s_qc (by omega) ?_ | refine n_some ?_ | rw [List.getD_cons_zero] | rw [List.getD_cons_succ]))
    refine S.stB fun w6 S => ?_
    (repeat (first | refine s_p ?_ | refine s_c (by omega) ?_ | refine S.ld ?_ | refine S.ldB ?_ | refine S.ce ?_ | refine S.ceB ?_ | refine s_q ?_ | refine s_qc (by omega) ?_ | refine n_some ?_ | rw [List.getD_cons_zero] | rw [List.getD_cons_succ]))
    exact h _ sn _ S.ext ⟨S.holds.le (h := inferInstance), fun b o hb => Nat.le_trans esz (hf b o hb)⟩ hty0
end Go.Proofs
end

section
namespace Go.Proofs
open Go.Sh
set_option maxRecDepth 100000
set_option linter.unusedSimpArgs false
set_option linter.unusedVariables false
mutual
/-- no list of a type is longer than three -/
def TyD.few : TyD → Prop
  | .mk _ _ _ _ of => of.length ≤ 3 ∧ TyD.fews of
def TyD.fews : List TyD → Prop
  | [] => True
  | t :: l => TyD.few t ∧ TyD.fews l
end
theorem TyD.fews_mem : ∀ {l : List TyD}, TyD.fews l → ∀ t ∈ l, t.few
  | [], _, t, h => by cases h
  | x :: l, h, t, ht => by
    rcases List.mem_cons.1 ht with rfl | ht
    · exact h.1
    · exact TyD.fews_mem h.2 t ht
theorem TyD.few_of {t : TyD} (h : t.few) : t.of.length ≤ 3 ∧ ∀ u ∈ t.of, u.few := by
  cases t with | mk k m re st of => exact ⟨h.1, TyD.fews_mem h.2⟩
theorem ChnG.few {sn : Gh} {v : Value} {t : TyD} (h : ChnG sn v t) : t.few := by
  induction h with
  | nil => exact ⟨Nat.zero_le _, trivial⟩
  | one _ _ _ _ ih => exact ⟨by simp, ih, trivial⟩
theorem c_law06_equal : ∀ (n : Nat) (t : TyD), t.ht ≤ n → t.few → ∀ {w : World} {r : Gh} {va vb : Value} {K : Value → World → Prop}, Holds r w → TyG r va t → TyG r vb t →
    (∀ w', Ext w w' → K (.bool true) w') → oCall Tryd.prog Tryd.n_law06_equal #[va, vb] w K := by
  intro n
  induction n with
  | zero => intro t h; cases t; simp [TyD.ht] at h
  | succ n ih =>
    intro t hn hf w r va vb K hr ha hb h
    obtain ⟨hlen, hfs⟩ := TyD.few_of hf
    obtain ⟨p, cap, rfl, _, _, hra⟩ := ha
    obtain ⟨q, cap', rfl, _, _, hrb⟩ := hb
    refine Tryd.ok_law06_equal ?_
    unfold Tryd.F_law06_equal
    have S := St.start hr
    refine S.box fun b2 w1 S => ?_
    refine S.box fun b3 w2 S => ?_
    (repeat (first | refine s_p ?_ | refine s_c (by omega) ?_ | refine S.ld ?_ | refine S.ldB ?_ | refine S.ce ?_ | refine S.ceB ?_ | refine s_q ?_ | refine s_qc (by omega) ?_ | refine n_some ?_ | rw [List.getD_cons_zero] | rw [List.getD_cons_succ]))
    refine j_borH (c := false) (fun _ K2 hK2 => ?_) ?_
    · (repeat (first | refine s_p ?_ | refine s_c (by omega) ?_ | refine S.ld ?_ | refine S.ldB ?_ | refine S.ce ?_ | refine S.ceB ?_ | refine s_q ?_ | refine s_qc (by omega) ?_ | refine n_some ?_ | rw [List.getD_cons_zero] | rw [List.getD_cons_succ]))
      simpa using hK2
    refine j_borH (c := false) (fun _ K2 hK2 => ?_) ?_
    · (repeat (first | refine s_p ?_ | refine s_c (by omega) ?_ | refine S.ld ?_ | refine S.ldB ?_ | refine S.ce ?_ | refine S.ceB ?_ | refine s_q ?_ | refine s_qc (by omega) ?_ | refine n_some ?_ | rw [List.getD_cons_zero] | rw [List.getD_cons_succ]))
      simpa using hK2
    refine j_borH (c := false) (fun _ K2 hK2 => ?_) ?_
    · (repeat (first | refine s_p ?_ | refine s_c (by omega) ?_ | refine S.ld ?_ | refine S.ldB ?_ | refine S.ce ?_ | refine S.ceB ?_ | refine s_q ?_ | refine s_qc (by omega) ?_ | refine n_some ?_ | rw [List.getD_cons_zero] | rw [List.getD_cons_succ]))
      simpa using hK2
    refine j_borH (c := false) (fun _ K2 hK2 => ?_) ?_
    · (repeat (first | refine s_p ?_ | refine s_c (by omega) ?_ | refine S.ld ?_ | refine S.ldB ?_ | refine S.ce ?_ | refine S.ceB ?_ | refine s_q ?_ | refine s_qc (by omega) ?_ | refine n_some ?_ | rw [List.getD_cons_zero] | rw [List.getD_cons_succ]))
      simpa using hK2
    refine c_f (by simp) ?_
    refine l_intro (ι := Nat) (fun i => [.int .i64 i]) (fun i w' => i ≤ t.of.length ∧ StX noX w r w' [.cell b3 (Value.agg #[.int .u8 t.k, .bool t.m, .int .i64 t.re, .int .i64 t.st, .slice q t.of.length cap']).cells.toList 25, .cell b2 (Value.agg #[.int .u8 t.k, .bool t.m, .int .i64 t.re, .int .i64 t.st, .slice p t.of.length cap]).cells.toList 25])
      (fun i => t.of.length - i) 0 rfl ⟨Nat.zero_le _, S⟩ ?_
    clear S
    rintro i d w3 ⟨hi, S⟩ K6 hK6
    rw [List.getD_cons_zero]
    (repeat (first | refine s_p ?_ | refine s_c (by omega) ?_ | refine S.ld ?_ | refine S.ldB ?_ | refine S.ce ?_ | refine S.ceB ?_ | refine s_q ?_ | refine s_qc (by omega) ?_ | refine n_some ?_ | rw [List.getD_cons_zero] | rw [List.getD_cons_succ]))
    refine c_b (fun hlt => ?_) (fun hge => h _ S.ext)
    have hlt : i < t.of.length := by simpa using hlt
    have S := S.go (Ext.drew _)
    obtain ⟨ba, oa, ca, rfl, hca1, hca2, hca3⟩ := ty_elem S hra hlt
    obtain ⟨bb, ob, cb, rfl, hcb1, hcb2, hcb3⟩ := ty_elem S hrb hlt
    (repeat (first | refine s_p ?_ | refine s_c (by omega) ?_ | refine S.ld ?_ | refine S.ldB ?_ | refine S.ce ?_ | refine S.ceB ?_ | refine s_q ?_ | refine s_qc (by omega) ?_ | refine n_some ?_ | rw [List.getD_cons_zero] | rw [List.getD_cons_succ]))
    refine s_ldN (n := 5) hca1 (fun j v hj => by rw [Int.toNat_natCast]; exact hca2 j v hj) ?_
    (repeat (first | refine s_p ?_ | refine s_c (by omega) ?_ | refine S.ld ?_ | refine S.ldB ?_ | refine S.ce ?_ | refine S.ceB ?_ | refine s_q ?_ | refine s_qc (by omega) ?_ | refine n_some ?_ | rw [List.getD_cons_zero] | rw [List.getD_cons_succ]))
    refine s_ldN (n := 5) hcb1 (fun j v hj => by rw [Int.toNat_natCast]; exact hcb2 j v hj) ?_
    refine ih (t.of[i]) (by have := TyD.ht_of (List.getElem_mem hlt); omega) (hfs _ (List.getElem_mem hlt)) S.holds hca3 hcb3 fun w4 e4 => ?_
    have S := S.go e4
    (repeat (first | refine s_p ?_ | refine s_c (by omega) ?_ | refine S.ld ?_ | refine S.ldB ?_ | refine S.ce ?_ | refine S.ceB ?_ | refine s_q ?_ | refine s_qc (by omega) ?_ | refine n_some ?_ | rw [List.getD_cons_zero] | rw [List.getD_cons_succ]))
    rw [show ((i : Int) + 1) = ((i + 1 : Nat) : Int) by omega]
    exact hK6 (i + 1) _ ⟨hlt, S⟩ (by omega)
/-- blocks that may turn turn, none of them one's own -/
theorem _root_.Go.Sh.StX.butX {X Y : Nat → Prop} {w0 w w' : World} {r q : Gh} {L : List Asr} (S : StX X w0 r w L) (e : ExtBut Y w w') (hq : ∀ b o, q b o → r b o ∧ ¬ Y b) (hX : ∀ b, Y b → w0.heap.size ≤ b ∨ X b)
    (hL : ∀ x ∈ L, ∀ k, x.dom k → ¬ Y k) : StX X w0 q w' L :=
  ⟨S.x.but e hX, fun b o hb => (e.block b (S.holds.lt (hq b o hb).1) (hq b o hb).2).trans (S.holds b o (hq b o hb).1),
    fun x hx => Asr.keep (S.has x hx) fun k hk => e.block k (Asr.lt (S.has x hx) hk) (hL x hx k hk), fun x hx k hk => ⟨(S.mine x hx k hk).1, fun o ho => (S.mine x hx k hk).2 o (hq k o ho).1⟩, S.apart⟩
def Gh.dom (r : Gh) (b : Nat) : Prop := ∃ o, r b o
theorem c_law06_spoil {sn : Gh} {v : Value} {t : TyD} (hch : ChnG sn v t) : ∀ {w : World} {K : Value → World → Prop}, TyG sn v t → Holds sn w →
    (∀ w', ExtBut (Gh.dom sn) w w' → K (.tuple #[]) w') → oCall Tryd.prog Tryd.n_law06_spoil #[v] w K := by
  induction hch with
  | nil =>
    intro w K ht hr h
    obtain ⟨p, cap, rfl, _, _, _⟩ := ht
    refine Tryd.ok_law06_spoil ?_
    unfold Tryd.F_law06_spoil
    have S := St.start hr
    refine S.box fun b2 w1 S => ?_
    refine l_intro (ι := Unit) (fun _ => [.int .i64 0]) (fun _ w' => w' = w1) (fun _ => 0) () rfl rfl ?_
    rintro ⟨⟩ d w5 rfl K6 hK6
    rw [List.getD_cons_zero]
    (repeat (first | refine s_p ?_ | refine s_c (by omega) ?_ | refine S.ld ?_ | refine S.ldB ?_ | refine S.ce ?_ | refine S.ceB ?_ | refine s_q ?_ | refine s_qc (by omega) ?_ | refine n_some ?_ | rw [List.getD_cons_zero] | rw [List.getD_cons_succ]))
    refine c_f rfl ?_
    exact h _ (.of_ext S.ext)
  | @one sn b c k re st m u no hc hty _ ih =>
    intro w K ht hr h
    refine Tryd.ok_law06_spoil ?_
    unfold Tryd.F_law06_spoil
    have B : Blk w b c 25 := hr b _ (.inr ⟨rfl, rfl⟩)
    have S : StX (Gh.dom (sn.or (one b c 25))) w sn w [.cell b c 25] :=
      ⟨.refl _ _, fun b o hb => hr b o (.inl hb), fun x hx => by rw [List.mem_singleton.1 hx]; exact B, fun x hx k hk => by
        rw [List.mem_singleton.1 hx] at hk
        obtain rfl : k = b := hk
        exact ⟨.inr ⟨_, .inr ⟨rfl, rfl⟩⟩, no⟩, List.pairwise_singleton _ _⟩
    refine S.box fun b1 w1 S => ?_
    refine l_intro (ι := Bool × Gh × List Value) (fun i => [.int .i64 (if i.1 then 1 else 0)]) (fun i w' => (i.1 = false → i.2.1 = sn ∧ i.2.2 = c) ∧ StX (Gh.dom (sn.or (one b c 25))) w i.2.1 w' [.cell b1 (Value.agg #[.int .u8 k, .bool m, .int .i64 re, .int .i64 st, .slice (some ⟨b, 0, none⟩) 1 1]).cells.toList 25, .cell b i.2.2 25])
      (fun i => if i.1 then 0 else 1) (false, sn, c) rfl ⟨fun _ => ⟨rfl, rfl⟩, S⟩ ?_
    clear S
    rintro ⟨i, q, c'⟩ d w5 ⟨hi, S⟩ K6 hK6
    simp only at hi S ⊢
    rw [List.getD_cons_zero]
    cases i with
    | true =>
      (repeat (first | refine s_p ?_ | refine s_c (by omega) ?_ | refine S.ld ?_ | refine S.ldB ?_ | refine S.ce ?_ | refine S.ceB ?_ | refine s_q ?_ | refine s_qc (by omega) ?_ | refine n_some ?_ | rw [List.getD_cons_zero] | rw [List.getD_cons_succ]))
      refine c_f (by simp) ?_
      exact h _ S.x
    | false =>
      obtain ⟨rfl, rfl⟩ := hi rfl
      rw [show (if false = true then (1 : Int) else 0) = 0 from rfl]
      (repeat (first | refine s_p ?_ | refine s_c (by omega) ?_ | refine S.ld ?_ | refine S.ldB ?_ | refine S.ce ?_ | refine S.ceB ?_ | refine s_q ?_ | refine s_qc (by omega) ?_ | refine n_some ?_ | rw [List.getD_cons_zero] | rw [List.getD_cons_succ]))
      refine S.ldB (b := b) ?_ hc
      refine ih hty S.holds fun w6 e6 => ?_
      have S := S.butX (q := nothing) e6 (fun _ _ h => h.elim) (fun k hk => .inr (by obtain ⟨o, ho⟩ := hk; exact ⟨o, .inl ho⟩)) (fun x hx k hk hy => by obtain ⟨o, ho⟩ := hy; exact (S.mine x hx k hk).2 o ho)
      (repeat (first | refine s_p ?_ | refine s_c (by omega) ?_ | refine S.ld ?_ | refine S.ldB ?_ | refine S.ce ?_ | refine S.ceB ?_ | refine s_q ?_ | refine s_qc (by omega) ?_ | refine n_some ?_ | rw [List.getD_cons_zero] | rw [List.getD_cons_succ]))
      refine S.stB (b := b) (hl := hc) fun w7 S => ?_
      (repeat (first | refine s_p ?_ | refine s_c (by omega) ?_ | refine S.ld ?_ | refine S.ldB ?_ | refine S.ce ?_ | refine S.ceB ?_ | refine s_q ?_ | refine s_qc (by omega) ?_ | refine n_some ?_ | rw [List.getD_cons_zero] | rw [List.getD_cons_succ]))
      exact hK6 (true, nothing, [.int .u8 9, .bool false, .int .i64 0, .int .i64 0, .slice none 0 0]) _ ⟨(fun h => by cases h), S⟩ (by simp)
end Go.Proofs
end

section
namespace Go.Proofs
open Go.Shelf
def Tryd.lays171_ren : Go.Shelf.Ren := ⟨fun | 171 => 88 | 243 => 99 | 246 => 101 | 283 => 103 | 284 => 104 | 285 => 105 | 286 => 106 | 129 => 108 | 317 => 107 | 318 => 109 | 319 => 110 | 320 => 111 | 337 => 112 | 338 => 113 | n => n, fun | 3 => 3 | 9 => 9 | 2 => 2 | 4 => 4 | 171 => 129 | 0 => 0 | 53 => 123 | 37 => 131 | 5 => 5 | 173 => 132 | 212 => 135 | 51 => 136 | 20 => 20 | 213 => 137 | 46 => 138 | 232 => 141 | 233 => 142 | n => n, fun | 17 => 0 | 18 => 1 | 19 => 2 | n => n⟩
theorem Tryd.lays171 : Go.Proofs.LaysM.n171 Tryd.prog Tryd.lays171_ren := {
  mixed := by kernel_rfl
  f129 := Tryd.func108.trans (congrArg some (by kernel_rfl))
  f171 := Tryd.func88.trans (congrArg some (by kernel_rfl))
  f243 := Tryd.func99.trans (congrArg some (by kernel_rfl))
  f246 := Tryd.func101.trans (congrArg some (by kernel_rfl))
  f283 := Tryd.func103.trans (congrArg some (by kernel_rfl))
  f284 := Tryd.func104.trans (congrArg some (by kernel_rfl))
  f285 := Tryd.func105.trans (congrArg some (by kernel_rfl))
  f286 := Tryd.func106.trans (congrArg some (by kernel_rfl))
  f317 := Tryd.func107.trans (congrArg some (by kernel_rfl))
  f318 := Tryd.func109.trans (congrArg some (by kernel_rfl))
  f319 := Tryd.func110.trans (congrArg some (by kernel_rfl))
  f320 := Tryd.func111.trans (congrArg some (by kernel_rfl))
  f337 := Tryd.func112.trans (congrArg some (by kernel_rfl))
  f338 := Tryd.func113.trans (congrArg some (by kernel_rfl))
  t0 := Tryd.underlying0
  a0 := Tryd.isAgg0
  z0 := Tryd.sizeOf0
  v0 := Tryd.zeroValue0
  t2 := Tryd.underlying2
  a2 := Tryd.isAgg2
  z2 := Tryd.sizeOf2
  v2 := Tryd.zeroValue2
  t3 := Tryd.underlying3
  a3 := Tryd.isAgg3
  z3 := Tryd.sizeOf3
  v3 := Tryd.zeroValue3
  t4 := Tryd.underlying4
  a4 := Tryd.isAgg4
  z4 := Tryd.sizeOf4
  v4 := Tryd.zeroValue4
  t5 := Tryd.underlying5
  a5 := Tryd.isAgg5
  z5 := Tryd.sizeOf5
  v5 := Tryd.zeroValue5
  t9 := Tryd.underlying9
  a9 := Tryd.isAgg9
  z9 := Tryd.sizeOf9
  v9 := Tryd.zeroValue9
  t20 := Tryd.underlying20
  a20 := Tryd.isAgg20
  z20 := Tryd.sizeOf20
  v20 := Tryd.zeroValue20
  t37 := Tryd.underlying131
  a37 := Tryd.isAgg131
  z37 := Tryd.sizeOf131
  v37 := Tryd.zeroValue131
  t46 := Tryd.underlying138
  a46 := Tryd.isAgg138
  z46 := Tryd.sizeOf138
  v46 := Tryd.zeroValue138
  t51 := Tryd.underlying136
  a51 := Tryd.isAgg136
  z51 := Tryd.sizeOf136
  v51 := Tryd.zeroValue136
  t53 := Tryd.underlying123
  a53 := Tryd.isAgg123
  z53 := Tryd.sizeOf123
  v53 := Tryd.zeroValue123
  t171 := Tryd.underlying129
  a171 := Tryd.isAgg129
  z171 := Tryd.sizeOf129
  v171 := Tryd.zeroValue129
  t173 := Tryd.underlying132
  a173 := Tryd.isAgg132
  z173 := Tryd.sizeOf132
  v173 := Tryd.zeroValue132
  t212 := Tryd.underlying135
  a212 := Tryd.isAgg135
  z212 := Tryd.sizeOf135
  v212 := Tryd.zeroValue135
  t213 := Tryd.underlying137
  a213 := Tryd.isAgg137
  z213 := Tryd.sizeOf137
  t232 := Tryd.underlying141
  a232 := Tryd.isAgg141
  z232 := Tryd.sizeOf141
  v232 := Tryd.zeroValue141
  t233 := Tryd.underlying142
  a233 := Tryd.isAgg142
  z233 := Tryd.sizeOf142
  v233 := Tryd.zeroValue142
  g17 := by kernel_rfl
  g18 := by kernel_rfl
  g19 := by kernel_rfl
  i0 := by kernel_rfl
  i2 := by kernel_rfl
  i3 := by kernel_rfl
  i4 := by kernel_rfl
  i5 := by kernel_rfl
  i9 := by kernel_rfl
  i20 := by kernel_rfl
  i37 := by kernel_rfl
  i46 := by kernel_rfl
  i51 := by kernel_rfl
  i53 := by kernel_rfl
  i171 := by kernel_rfl
  i173 := by kernel_rfl
  i212 := by kernel_rfl
  i232 := by kernel_rfl
  i233 := by kernel_rfl
  m17 := by kernel_rfl
  m18 := by kernel_rfl
  m19 := by kernel_rfl }
end Go.Proofs
namespace Go.Proofs
open Go.Sh
set_option linter.unusedSimpArgs false
/-- the table of tens lies as it was laid -/
def TabG (r : Gh) : Prop := Ob r fun w => Lib.TabIs Tryd.prog w "internal/strconv.uint64pow10" .u64 Lib.pow10Tab
theorem TabG.up {r s : Gh} (h : TabG r) [l : Le r s] : TabG s := Ob.up h
theorem digs_eq : ∀ (f n : Nat), n < 10 ^ f → 0 < f → digsF f n = Lib.decDigits n
  | 0, _, _, h => absurd h (Nat.lt_irrefl _)
  | f + 1, n, h, _ => by
    rw [digsF, Lib.decDigits]
    by_cases h1 : n < 10
    · rw [if_pos h1, dif_pos h1]
    · rw [if_neg h1, dif_neg h1]
      have h2 : n / 10 < 10 ^ f := by
        rw [Nat.pow_succ] at h
        omega
      have h3 : 0 < f := by
        rcases Nat.eq_zero_or_pos f with rfl | h3
        · simp at h; omega
        · exact h3
      rw [digs_eq f (n / 10) h2 h3]
theorem ext_grow {w : World} {k : Nat} {os : Array Obj} : Ext w (Sort.grow (w.drewN k) os) :=
  ⟨rfl, rfl, rfl, by simp [Sort.grow, World.drewN], fun j hj => by
    show (w.heap ++ os)[j]? = _
    exact Array.getElem?_append_left hj⟩
theorem c_Itoa {r : Gh} {x : Int} (hT : TabG r) (h0 : 0 ≤ x) (h1 : x ≤ 9223372036854775807) : ItoaOK r x := by
  intro w K hr h
  refine Calls.mono (Any.strconv_Itoa Tryd.lays171 x (by omega) h1 w (hT w hr)) ?_
  rintro e w' ⟨rfl, k, os, rfl⟩
  refine ⟨_, rfl, ?_⟩
  have := h _ (ext_grow (w := w) (k := k) (os := os))
  rw [itoa, digs_eq 20 x.toNat (by omega) (by decide)] at this
  rw [Lib.itoa, if_neg (by omega)]
  exact this
theorem nums_ok {r : Gh} (hT : TabG r) {t : TyD} (h : ∀ u ∈ t.chain, u.re ≤ 9223372036854775807 ∧ u.st ≤ 9223372036854775807) : NumsOK r t := fun u hu =>
  ⟨fun h0 => c_Itoa hT h0 (h u hu).1, fun h0 => c_Itoa hT h0 (h u hu).2⟩
end Go.Proofs
end

section
namespace Go.Sh
open Go.ChangeShapes Go.WideShapes Go.ChangeAt Go.RowKit
section
variable {H : Type} {enc : TypeId × Value → H} {P : Program}
theorem same_ext {W W' : World} (e : Ext W W') {p : MemPlace} (hp : p.block < W.heap.size) : W.sameAt W' p := Below.same e hp
theorem trodAll_ext {W W' : World} (e : Ext W W') (K : Kids P (· < P.types.size)) (hz : ∀ t e, t < P.types.size → P.underlying t = some (.slice e) → 0 < P.cellsOf e) {sp : Nat → Bool} :
    ∀ {ts : List TypeId} {vs : List Value} {ds : List (DataW H)} {ps : List MemPlace}, (∀ t ∈ ts, t < P.types.size) → DataW.TrodAll enc P W 0 (fun _ => true) true ts vs ds ps → (∀ p ∈ ps, p.block < W.heap.size) → (∀ p ∈ ps, sp p.block = true) →
      DataW.TrodAll enc P W' 0 sp true ts vs ds ps
  | [], [], [], _, _, h, _, _ => h
  | _ :: _, _ :: _, _ :: _, _, hT, ⟨p, q, ⟨n, h1⟩, h2, he⟩, hl, hs =>
    ⟨p, q, ⟨n, DataW.trod_stays K (fun {t e} => hz t e) (fun h => by cases h) (hT _ (List.mem_cons.2 (Or.inl rfl))) h1 (fun x hx => same_ext e (hl x (by rw [he]; exact List.mem_append_left _ hx))) (fun x hx => hs x (by rw [he]; exact List.mem_append_left _ hx))⟩,
      trodAll_ext e K hz (fun t ht => hT t (List.mem_cons.2 (Or.inr ht))) h2 (fun x hx => hl x (by rw [he]; exact List.mem_append_right _ hx)) (fun x hx => hs x (by rw [he]; exact List.mem_append_right _ hx)), he⟩
/-- WHAT THE LAWS' ROWS ASK: true; the input reads as it did. -/
theorem post_told {f : Func} {s : ChangeSpec} {W W' : World} {args : Array Value} {ds gs : List (DataW H)} {before : List MemPlace} {tb : TypeId} {fr ho : Bool}
    (hl : laidOutB P = true) (hm : mapsRowed P = true) (hz : ((List.range P.types.size).all fun t => match P.underlying t with | some (.slice e) => decide (0 < P.cellsOf e) | _ => true) = true)
    (hts : ∀ t ∈ f.params.toList, t < P.types.size) (hv : s.vars = []) (hrt : f.resultTypes = #[tb]) (htb : P.underlying tb = some .bool)
    (hW : DataW.Whole enc P f.params.toList s.vars false W args.toList ds gs before) (hs : s.fn H (ds ++ gs) = { results := [.lit (.bool true)], args := ds }) (e : Ext W W') :
    s.post enc P f false fr ho false W args (.bool true) W' := by
  have hW' := hW
  obtain ⟨p, q, hA, hV, rfl, hfz, hnd⟩ := hW
  rw [hv] at hV
  obtain ⟨rfl, rfl⟩ := trodVars_none hV
  have hlt := hW'.lt
  refine ⟨ds, [], p ++ [], [], p, [], hW', ?_, ?_, ?_, Below.frame e _, fun h => by cases h⟩
  · rw [hs, hrt]
    exact trodAll_mk1 (shut_bool htb _)
  · rw [hs]
    exact trodAll_ext e (kids_rows hl hm) (slices_full_of P hz) hts hA (fun x hx => hlt x (by simpa using hx)) (fun x hx => by simpa using hlt x (by simpa using hx))
  · rw [hv, hs]; rfl
end
end Go.Sh
end

section
namespace Go.Sh
open Go.RowKit

mutual
/-- is it a datum of the type? -/
def Dat.ok (P : Program) : Dat → TypeId → Prop
  | .int k n, t => P.underlying t = some (.int k) ∧ (Lit.int k n).wf = true
  | .bool _, t => P.underlying t = some .bool
  | .str s, t => P.underlying t = some .string ∧ s.size ≤ maxLen
  | .agg ds, t => ∃ fs, P.underlying t = some (.struct fs) ∧ Dat.okF P ds (fs.toList.map (·.type))
  | .sl sz es, t => ∃ e, P.underlying t = some (.slice e) ∧ sz = P.cellsOf e ∧ es.length ≤ maxLen ∧ Dat.okS P es e
def Dat.okF (P : Program) : List Dat → List TypeId → Prop
  | [], ts => ts = []
  | d :: ds, ts => ∃ t r, ts = t :: r ∧ Dat.ok P d t ∧ Dat.okF P ds r
def Dat.okS (P : Program) : List Dat → TypeId → Prop
  | [], _ => True
  | d :: ds, t => Dat.ok P d t ∧ Dat.okS P ds t
end
theorem okS_of {P : Program} {t : TypeId} : ∀ {es : List Dat}, (∀ (i : Nat) (d : Dat), es[i]? = some d → d.ok P t) → Dat.okS P es t
  | [], _ => trivial
  | d :: es, h => ⟨h 0 d rfl, okS_of fun i d hi => h (i + 1) d (by simpa using hi)⟩
theorem okS_mem {P : Program} {t : TypeId} : ∀ {es : List Dat}, Dat.okS P es t → ∀ d ∈ es, d.ok P t
  | [], _, d, hd => by cases hd
  | e :: es, h, d, hd => by
    rcases List.mem_cons.1 hd with rfl | hd
    · exact h.1
    · exact okS_mem h.2 d hd
def layT (P : Program) (total : Nat) : Nat → List Field → Bool
  | off, [] => off == total
  | off, f :: fs => f.offset == off && layT P total (off + P.cellsOf f.type) fs
/-- types of numbers, texts, structs and slices, each of whose parts is among them -/
def plainS (P : Program) (ts : List TypeId) : Bool :=
  ts.all fun t => match P.underlying t with
    | some (.int _) => true
    | some .bool => true
    | some .string => true
    | some (.struct fs) => layT P (P.cellsOf t) 0 fs.toList && fs.toList.all (fun f => ts.contains f.type)
    | some (.slice e) => decide (0 < P.cellsOf e) && ts.contains e
    | _ => false
theorem choose_list {Q : Nat → Dat → Prop} : ∀ n : Nat, (∀ i, i < n → ∃ d, Q i d) → ∃ es : List Dat, es.length = n ∧ ∀ i d, es[i]? = some d → Q i d
  | 0, _ => ⟨[], rfl, fun i d h => by cases h⟩
  | n + 1, h => by
    obtain ⟨es, h1, h2⟩ := choose_list n fun i hi => h i (by omega)
    obtain ⟨d, hd⟩ := h n (by omega)
    refine ⟨es ++ [d], by simp [h1], fun i x hx => ?_⟩
    rcases Nat.lt_or_ge i es.length with hi | hi
    · rw [List.getElem?_append_left hi] at hx; exact h2 i x hx
    · rw [List.getElem?_append_right hi] at hx
      have hl := (List.getElem?_eq_some_iff.1 hx).1
      have : i = n := by simp at hl; omega
      subst this
      rw [h1, Nat.sub_self] at hx
      cases hx; exact hd
section
variable {H : Type} {enc : TypeId × Value → H} {P : Program} {W : World}
theorem rep_fields {cs : List Value} {total : Nat} (hcs : cs.length = total) : ∀ (fl : List Field) (off : Nat), layT P total off fl = true →
    (∀ f ∈ fl, ∃ d, Rep (all W) d ((cs.drop f.offset).take (P.cellsOf f.type)) ∧ d.ok P f.type) → ∃ ds, RepA (all W) ds (cs.drop off) ∧ Dat.okF P ds (fl.map (·.type))
  | [], off, hl, _ => ⟨[], by
    have : off = total := by simpa [layT] using hl
    rw [RepA, List.drop_eq_nil_iff]; omega, rfl⟩
  | f :: fl, off, hl, h => by
    simp only [layT, Bool.and_eq_true, beq_iff_eq] at hl
    obtain ⟨d, h1, h2⟩ := h f List.mem_cons_self
    obtain ⟨ds, h3, h4⟩ := rep_fields hcs fl _ hl.2 fun g hg => h g (List.mem_cons_of_mem _ hg)
    refine ⟨d :: ds, ⟨_, _, ?_, h1, h3⟩, _, _, rfl, h2, h4⟩
    rw [hl.1, ← List.drop_drop, List.take_append_drop]
theorem rep_of_trod {ts : List TypeId} (hp : plainS P ts = true) {sp : Nat → Bool} : ∀ (fuel : Nat) (t : TypeId) (cs : List Value) (x : DataW H × List MemPlace), t ∈ ts →
    DataW.trod enc P W 0 sp true fuel t cs = some x → ∃ d, Rep (all W) d cs ∧ d.ok P t
  | 0, _, _, _, _, h => by simp [DataW.trod] at h
  | fuel + 1, t, cs, x, ht, h => by
    have hpt := List.all_eq_true.1 hp t ht
    cases hu : P.underlying t with
    | none => rw [hu] at hpt; cases hpt
    | some k =>
      rw [hu] at hpt
      cases k with
      | int k => obtain ⟨n, rfl, _, hw⟩ := DataW.trod_int hu h; exact ⟨.int k n, rfl, hu, hw⟩
      | bool => obtain ⟨b, rfl, _⟩ := DataW.trod_bool hu h; exact ⟨.bool b, rfl, hu⟩
      | string => obtain ⟨s, rfl, _, hs⟩ := DataW.trod_string hu h; exact ⟨.str s, rfl, hu, hs⟩
      | struct fs =>
        simp only [Bool.and_eq_true] at hpt
        obtain ⟨xs, n, hn, _, hl, hxl, hx⟩ := DataW.trod_struct hu h
        obtain rfl : fuel = n := by omega
        obtain ⟨ds, h1, h2⟩ := rep_fields (P := P) (W := W) hl fs.toList 0 hpt.1 (fun f hf => by
          obtain ⟨i, hi, rfl⟩ := List.getElem_of_mem hf
          have hi' : i < fs.size := by simpa using hi
          have h1 := hx i fs[i] (Array.getElem?_eq_getElem hi')
          rw [List.getElem?_eq_getElem (by omega)] at h1
          have hmem : fs[i].type ∈ ts := by
            have := List.all_eq_true.1 hpt.2 _ hf
            simpa using this
          exact rep_of_trod hp fuel _ _ _ hmem h1)
        rw [List.drop_zero] at h1
        exact ⟨.agg ds, h1, fs, hu, h2⟩
      | slice e =>
        simp only [Bool.and_eq_true, decide_eq_true_eq] at hpt
        have he : e ∈ ts := by simpa using hpt.2
        rcases DataW.trod_slice hu h with ⟨rfl, _⟩ | ⟨a, len, cap, elems, rest, n, hn, rfl, _, _, hlc, hcm, hel, hget, _, _⟩
        · exact ⟨.sl (P.cellsOf e) [], ⟨none, 0, rfl, fun _ => rfl, Nat.le_refl _, trivial⟩, e, hu, rfl, Nat.zero_le _, trivial⟩
        obtain rfl : fuel = n := by omega
        have hspot : 0 < len → a.spot = none := fun h0 => by
          have h1 := hget 0 h0
          rw [List.getElem?_eq_getElem (by omega)] at h1
          obtain ⟨c, hc, _⟩ := Option.bind_eq_some_iff.1 h1
          obtain ⟨_, hcl, hcc⟩ := World.cells?_some hc
          have hcell := (hcc 0 hpt.1).trans (List.getElem?_eq_getElem (by omega))
          have := World.cell?_spot hcell
          simpa [Addr.add] using this
        obtain ⟨es, h1, h2⟩ := choose_list (Q := fun i d => d.ok P e ∧ ∃ c, c.length = P.cellsOf e ∧ CellsAt (all W) (some a) (i * P.cellsOf e) c ∧ Rep (all W) d c) len (fun i hi => by
          have h1 := hget i hi
          rw [List.getElem?_eq_getElem (by omega)] at h1
          obtain ⟨c, hc, ht⟩ := Option.bind_eq_some_iff.1 h1
          obtain ⟨_, hcl, hcc⟩ := World.cells?_some hc
          obtain ⟨d, hd, hok⟩ := rep_of_trod hp fuel e c _ he ht
          refine ⟨d, hok, c, hcl, fun j v hj => ?_, hd⟩
          have hjl := (List.getElem?_eq_some_iff.1 hj).1
          have hcell : W.cell? ((a.add (i * P.cellsOf e)).add j) = some v := (hcc j (by omega)).trans hj
          obtain ⟨b, off, sp⟩ := a
          have hsp : sp = none := hspot (by omega)
          subst hsp
          rw [addr_add', addr_add'] at hcell
          exact ⟨b, off, rfl, cell_all hcell⟩)
        refine ⟨.sl (P.cellsOf e) es, ⟨some a, cap, by rw [h1], by simp, by omega, RepS.of fun i d hi => ?_⟩, e, hu, rfl, by omega, okS_of fun i d hi => (h2 i d hi).1⟩
        rw [Nat.zero_add]; exact (h2 i d hi).2
      | _ => cases hpt
end
end Go.Sh
end

section
namespace Go.Proofs
open Go.Sh
set_option maxRecDepth 100000
set_option linter.unusedSimpArgs false
set_option linter.unusedVariables false
def inI (n : Int) : Prop := -9223372036854775808 ≤ n ∧ n ≤ 9223372036854775807
mutual
/-- the numbers of a type are of their kinds -/
def TyD.good : TyD → Prop
  | .mk k _ re st of => (0 ≤ k ∧ k ≤ 255) ∧ inI re ∧ inI st ∧ of.length ≤ Go.maxLen ∧ TyD.goods of
def TyD.goods : List TyD → Prop
  | [] => True
  | t :: l => TyD.good t ∧ TyD.goods l
end
theorem TyD.goods_mem : ∀ {l : List TyD}, TyD.goods l → ∀ t ∈ l, t.good
  | [], _, t, h => by cases h
  | x :: l, h, t, ht => by
    rcases List.mem_cons.1 ht with rfl | ht
    · exact h.1
    · exact TyD.goods_mem h.2 t ht
theorem TyD.goods_of : ∀ {l : List TyD}, (∀ t ∈ l, t.good) → TyD.goods l
  | [], _ => trivial
  | x :: l, h => ⟨h x List.mem_cons_self, TyD.goods_of fun t ht => h t (List.mem_cons_of_mem _ ht)⟩
end Go.Proofs
namespace Go.Proofs.YtajllnahceaipaaDoor.open6
open Go.Sh Go.ChangeShapes Go.WideShapes Go.ChangeAt Go.RowKit
set_option maxRecDepth 100000
set_option linter.unusedSimpArgs false
set_option linter.unusedVariables false

theorem own : ownKnob Tryd.prog.godebug = none := by kernel_rfl
theorem u3 : Tryd.prog.underlying 3 = some (.int .i64) := by kernel_rfl
theorem u4 : Tryd.prog.underlying 4 = some .bool := by kernel_rfl
theorem u9 : Tryd.prog.underlying 9 = some .string := by kernel_rfl
theorem u22 : Tryd.prog.underlying 22 = some (.int .u8) := by kernel_rfl
theorem u23 : Tryd.prog.underlying 23 = some (.slice 25) := by kernel_rfl
theorem c25 : Tryd.prog.cellsOf 25 = 5 := by kernel_rfl
noncomputable def structB (t : TypeId) (ts : List TypeId) : Bool := match Tryd.prog.underlying t with | some (.struct fs) => decide (fs.toList.map (·.type) = ts) | _ => false
theorem struct_of {t : TypeId} {ts : List TypeId} (h : structB t ts = true) : ∃ fs, Tryd.prog.underlying t = some (.struct fs) ∧ fs.toList.map (·.type) = ts := by
  unfold structB at h
  split at h
  · rename_i fs hu; exact ⟨fs, hu, of_decide_eq_true h⟩
  · cases h
theorem u25 : ∃ fs, Tryd.prog.underlying 25 = some (.struct fs) ∧ fs.toList.map (·.type) = [22, 4, 3, 3, 23] := struct_of (by kernel_rfl)
theorem laidOut : laidOutB Tryd.prog = true := by kernel_rfl
theorem rowed : mapsRowed Tryd.prog = true := by kernel_rfl
theorem full : ((List.range Tryd.prog.types.size).all fun t => match Tryd.prog.underlying t with | some (.slice e) => decide (0 < Tryd.prog.cellsOf e) | _ => true) = true := by kernel_rfl
theorem plain25 : plainS Tryd.prog [25, 22, 4, 3, 23] = true := by kernel_rfl

theorem dat_int {d : Dat} {t : TypeId} {k : IntKind} (u : Tryd.prog.underlying t = some (.int k)) (h : d.ok Tryd.prog t) : ∃ n, d = .int k n ∧ (Lit.int k n).wf = true := by
  cases d <;> simp only [Dat.ok, u] at h <;> try simp at h
  obtain ⟨rfl, h⟩ := h
  exact ⟨_, rfl, h⟩
theorem dat_bool {d : Dat} (h : d.ok Tryd.prog 4) : ∃ b, d = .bool b := by
  cases d <;> simp only [Dat.ok, u4] at h <;> try simp at h
  exact ⟨_, rfl⟩
theorem dat_str {d : Dat} (h : d.ok Tryd.prog 9) : ∃ s, d = .str s ∧ s.size ≤ maxLen := by
  cases d <;> simp only [Dat.ok, u9] at h <;> try simp at h
  exact ⟨_, rfl, h⟩
theorem dat_sl {d : Dat} {t e : TypeId} (u : Tryd.prog.underlying t = some (.slice e)) (h : d.ok Tryd.prog t) : ∃ es, d = .sl (Tryd.prog.cellsOf e) es ∧ es.length ≤ maxLen ∧ ∀ x ∈ es, x.ok Tryd.prog e := by
  cases d <;> simp only [Dat.ok, u] at h <;> try simp at h
  obtain ⟨rfl, h1, h2⟩ := h
  exact ⟨_, rfl, h1, okS_mem h2⟩
theorem dat_agg {d : Dat} {t : TypeId} {ts : List TypeId} (u : ∃ fs, Tryd.prog.underlying t = some (.struct fs) ∧ fs.toList.map (·.type) = ts) (h : d.ok Tryd.prog t) : ∃ ds, d = .agg ds ∧ Dat.okF Tryd.prog ds ts := by
  obtain ⟨fs, u, rfl⟩ := u
  cases d <;> simp only [Dat.ok, u] at h <;> try simp at h
  exact ⟨_, rfl, by simpa using h⟩
theorem okF_cons {ds : List Dat} {t : TypeId} {ts : List TypeId} (h : Dat.okF Tryd.prog ds (t :: ts)) : ∃ d r, ds = d :: r ∧ d.ok Tryd.prog t ∧ Dat.okF Tryd.prog r ts := by
  cases ds with
  | nil => cases h
  | cons d r => obtain ⟨t', r', h1, h2, h3⟩ := h; cases h1; exact ⟨d, r, rfl, h2, h3⟩
theorem okF_nil {ds : List Dat} (h : Dat.okF Tryd.prog ds []) : ds = [] := by
  cases ds with
  | nil => rfl
  | cons d r => obtain ⟨t', r', h1, _⟩ := h; cases h1
theorem wf_int {n : Int} (h : (Lit.int .i64 n).wf = true) : inI n := by
  simp only [Lit.wf, Bool.and_eq_true, decide_eq_true_eq] at h
  exact ⟨h.1, h.2⟩
theorem wf_u8 {n : Int} (h : (Lit.int .u8 n).wf = true) : 0 ≤ n ∧ n ≤ 255 := by
  simp only [Lit.wf, Bool.and_eq_true, decide_eq_true_eq] at h
  exact ⟨h.1, h.2⟩
theorem list_of {α : Type} {Q : Dat → α → Prop} : ∀ es : List Dat, (∀ d ∈ es, ∃ t, Q d t) → ∃ l : List α, l.length = es.length ∧ ∀ (i : Nat) d t, es[i]? = some d → l[i]? = some t → Q d t
  | [], _ => ⟨[], rfl, fun i d t h => by cases h⟩
  | d :: es, h => by
    obtain ⟨t, ht⟩ := h d List.mem_cons_self
    obtain ⟨l, hl, hq⟩ := list_of es fun x hx => h x (List.mem_cons_of_mem _ hx)
    refine ⟨t :: l, by simp [hl], fun i x y hx hy => ?_⟩
    cases i with
    | zero => simp at hx hy; subst hx hy; exact ht
    | succ i => exact hq i x y (by simpa using hx) (by simpa using hy)
theorem list_map {α : Type} {f : α → Dat} {G : α → Prop} : ∀ es : List Dat, (∀ d ∈ es, ∃ t, d = f t ∧ G t) → ∃ l : List α, es = l.map f ∧ ∀ t ∈ l, G t
  | [], _ => ⟨[], rfl, fun t h => by cases h⟩
  | d :: es, h => by
    obtain ⟨t, rfl, ht⟩ := h d List.mem_cons_self
    obtain ⟨l, rfl, hq⟩ := list_map es fun x hx => h x (List.mem_cons_of_mem _ hx)
    refine ⟨t :: l, rfl, fun x hx => ?_⟩
    rcases List.mem_cons.1 hx with rfl | hx
    · exact ht
    · exact hq x hx
theorem ty_of_ok : ∀ (n : Nat) (d : Dat), SizeOf.sizeOf d ≤ n → d.ok Tryd.prog 25 → ∃ t : TyD, d = t.dat ∧ t.good := by
  intro n
  induction n with
  | zero => intro d h _; cases d <;> simp at h
  | succ n ih =>
    intro d hs h
    obtain ⟨ds, rfl, e0⟩ := dat_agg u25 h
    obtain ⟨d0, ds, rfl, h0, e1⟩ := okF_cons e0
    obtain ⟨d1, ds, rfl, h1, e2⟩ := okF_cons e1
    obtain ⟨d2, ds, rfl, h2, e3⟩ := okF_cons e2
    obtain ⟨d3, ds, rfl, h3, e4⟩ := okF_cons e3
    obtain ⟨d4, ds, rfl, h4, e5⟩ := okF_cons e4
    obtain rfl := okF_nil e5
    obtain ⟨k, rfl, g0⟩ := dat_int u22 h0
    obtain ⟨m, rfl⟩ := dat_bool h1
    obtain ⟨re, rfl, g2⟩ := dat_int u3 h2
    obtain ⟨st, rfl, g3⟩ := dat_int u3 h3
    obtain ⟨es, rfl, hl, k4⟩ := dat_sl u23 h4
    obtain ⟨l, rfl, hg⟩ := list_map (f := TyD.dat) (G := TyD.good) es fun x hx => ih x (by
      have := List.sizeOf_lt_of_mem hx
      simp only [Dat.agg.sizeOf_spec, List.cons.sizeOf_spec, Dat.sl.sizeOf_spec] at hs
      omega) (k4 x hx)
    refine ⟨.mk k m re st l, ?_, wf_u8 g0, wf_int g2, wf_int g3, by simpa using hl, TyD.goods_of hg⟩
    rw [TyD.dat, TyD.dats_map, c25]
theorem ty_open {H : Type} {enc : TypeId × Value → H} {W : World} {base : Nat} {v : Value} {d : DataW H} {p : List MemPlace} (hv : Value.okWide Tryd.prog W .any base 25 v) (h : DataW.Trod enc Tryd.prog W 0 (fun _ => true) true 25 v d p) :
    ∃ t : TyD, TyG (all W) v t ∧ t.good := by
  obtain ⟨fs, hu, _⟩ := u25
  obtain ⟨cs, rfl, hsz⟩ := okWide_struct hu hv
  obtain ⟨fuel, hf⟩ := h
  obtain ⟨d, hr, hd⟩ := rep_of_trod plain25 fuel 25 _ _ (by simp) hf
  obtain ⟨t, rfl, hg⟩ := ty_of_ok _ d (Nat.le_refl _) hd
  exact ⟨t, by simpa [Value.cells] using TyG.of_rep hr, hg⟩
def cellsD : DataW Unit → List Value
  | .agg l => l.map fun
    | .lit (.int k n) => .int k n
    | _ => undef
  | _ => []
def laying (d : DataW Unit) : Obj → Obj
  | .cells _ t frozen => .cells (cellsD d).toArray t frozen
  | o => o
/-- A WORLD FOR THE WITNESSES: the settled one, the tables holding what their initialisers lay. -/
noncomputable def laidWorld (os : Os) : World :=
  { World.holding Tryd.prog os ⟨#[], #[], []⟩ with heap := (((World.holding Tryd.prog os ⟨#[], #[], []⟩).heap.modify 0 (laying Rows.laid_internal_strconv_uint64pow10)).modify 1 (laying Rows.laid_math_bits_deBruijn32tab)).modify 2 (laying Rows.laid_math_bits_deBruijn64tab) }
end Go.Proofs.YtajllnahceaipaaDoor.open6
end

section
namespace Go.Proofs.YtajllnahceaipaaDoor.open6
open Go.Sh Go.ChangeShapes Go.WideShapes Go.ChangeAt Go.RowKit
set_option maxRecDepth 100000
theorem gTab : Tryd.prog.globalNamed "internal/strconv.uint64pow10" = some 0 := by kernel_rfl
theorem gTabType : (Tryd.prog.globals[0]?).map (·.type) = some 135 := by kernel_rfl
theorem u135 : Tryd.prog.underlying 135 = some (.array 20 123) := by kernel_rfl
theorem u123 : Tryd.prog.underlying 123 = some (.int .u64) := by kernel_rfl
theorem cells135 : Tryd.prog.cellsOf 135 = 20 := by kernel_rfl
theorem cells123 : Tryd.prog.cellsOf 123 = 1 := by kernel_rfl
theorem laidTab : (Rows.laid_internal_strconv_uint64pow10 : DataW Unit) = Lib.tabData .u64 Lib.pow10Tab := by kernel_rfl
theorem table {W : World} (h : laidMetH Tryd.prog Rows.typesTextsRow.laid W) : TabG (all W) := by
  have h0 : laidMet Tryd.prog Rows.typesTextsRow.laid W := h
  have h1 : laidMet Tryd.prog [("internal/strconv.uint64pow10", Rows.laid_internal_strconv_uint64pow10)] W := laidMet.tail (laidMet.tail h0)
  rw [laidTab] at h1
  have ht : Lib.TabIs Tryd.prog W "internal/strconv.uint64pow10" .u64 Lib.pow10Tab := Lib.tabIs_of_head (rest := []) gTab gTabType u135 u123 cells123 cells135 h1
  intro w' hw
  unfold Lib.TabIs World.var? at ht ⊢
  rw [gTab] at ht ⊢
  simp only [Option.bind] at ht ⊢
  cases ho : W.heap[0]? with
  | none => rw [ho] at ht; cases ht
  | some o => rw [hw 0 o ho]; rw [ho] at ht; exact ht
theorem str_list (s : ByteArray) : ∃ l, s = bs l := ⟨s.data.toList, by cases s; simp [bs]⟩
end Go.Proofs.YtajllnahceaipaaDoor.open6
end

section
namespace Go.Proofs.YtajllnahceaipaaDoor.typesOrder
open Go.Sh Go.ChangeShapes Go.WideShapes Go.ChangeAt Go.RowKit open6
set_option maxRecDepth 100000
set_option linter.unusedVariables false

theorem contract (H : Type) (enc : TypeId × Value → H) (W : World) (base : Nat) (args : Array Value) (ds gs : List (DataW H)) (before : List MemPlace)
    (hval : ∀ (j : Nat) t v, Tryd.f5.params[j]? = some t → args[j]? = some v → Value.okWide Tryd.prog W .any base t v)
    (hW : DataW.Whole enc Tryd.prog Tryd.f5.params.toList Rows.typesOrderSpec.vars false W args.toList ds gs before) (hL : laidMetH Tryd.prog Rows.typesOrderRow.laid W) :
    Calls Tryd.prog 5 args W fun e W' => ∃ v, e = .returned v ∧ Rows.typesOrderSpec.post enc Tryd.prog Tryd.f5 false true false false W args v W' := by
  have hW' := hW
  obtain ⟨p, q, hA, hV, rfl, hfz, hnd⟩ := hW
  rw [show Tryd.f5.params.toList = [25, 25, 25] by kernel_rfl] at hA
  obtain ⟨v0, vs0, d0, ds0, p0, q100, hargs, rfl, rfl, h0, r0⟩ := trodAll_cons hA
  obtain ⟨v1, vs1, d1, ds1, p1, q101, rfl, rfl, rfl, h1, r1⟩ := trodAll_cons r0
  obtain ⟨v2, vs2, d2, ds2, p2, q102, rfl, rfl, rfl, h2, r2⟩ := trodAll_cons r1
  obtain ⟨rfl, rfl, rfl⟩ := trodAll_nil r2
  obtain rfl : args = #[v0, v1, v2] := by cases args; simp_all
  obtain ⟨rfl, rfl⟩ := trodVars_none hV
  obtain ⟨t0, ht0, hg0⟩ := ty_open (hval 0 25 v0 (by kernel_rfl) rfl) h0
  obtain ⟨t1, ht1, hg1⟩ := ty_open (hval 1 25 v1 (by kernel_rfl) rfl) h1
  obtain ⟨t2, ht2, hg2⟩ := ty_open (hval 2 25 v2 (by kernel_rfl) rfl) h2
  refine Calls.mono (c_law06_TypesOrder (K := fun v W' => v = .bool true ∧ Ext W W') (all_holds W) ht0 ht1 ht2 fun w' e => ⟨rfl, e⟩) ?_
  rintro e W' ⟨v, he, rfl, hE⟩
  exact ⟨_, he, post_told laidOut rowed full (by rw [show Tryd.f5.params.toList = [25, 25, 25] by kernel_rfl]; decide) rfl (by kernel_rfl) u4 hW' rfl hE⟩

def wit : Array Value := #[.agg #[.int .u8 0, .bool false, .int .i64 0, .int .i64 0, .slice none 0 0], .agg #[.int .u8 0, .bool false, .int .i64 0, .int .i64 0, .slice none 0 0], .agg #[.int .u8 0, .bool false, .int .i64 0, .int .i64 0, .slice none 0 0]]
theorem laid_met (os : Os) : laidMet Tryd.prog Rows.typesOrderRow.laid ((laidWorld os).forCall (fun _ _ => 0) ⟨#[], wit, []⟩).memory :=
  laidMet_of_run' 8 (by kernel_rfl) (by kernel_rfl)
theorem reads (os : Os) {H : Type} (enc : TypeId × Value → H) : ∃ ds places, DataW.whole enc Tryd.prog ((laidWorld os).forCall (fun _ _ => 0) ⟨#[], wit, []⟩).memory Tryd.f5.params.toList Rows.typesOrderSpec.vars false wit.toList 8 = some (ds, [], places) :=
  ⟨[.agg [.lit (.int .u8 0), .lit (.bool false), .lit (.int .i64 0), .lit (.int .i64 0), .nil], .agg [.lit (.int .u8 0), .lit (.bool false), .lit (.int .i64 0), .lit (.int .i64 0), .nil], .agg [.lit (.int .u8 0), .lit (.bool false), .lit (.int .i64 0), .lit (.int .i64 0), .nil]], [], by kernel_rfl⟩
theorem lifted (os : Os) (started : os.Started) (H : Type) (enc : TypeId × Value → H) (F : Stop.Interp) :
    ReturnsInHanded {} Tryd.checked os 5 .any ((OpenSpec.ofChange Rows.typesOrderSpec).preRow enc Tryd.prog Tryd.f5 Rows.typesOrderRow.domain false Rows.typesOrderRow.laid) (((OpenSpec.ofChange Rows.typesOrderSpec).at F).post enc Tryd.prog Tryd.f5 false true false false) := by
  obtain ⟨ds, places, hx⟩ := reads os enc
  refine returnsInHanded_of_row (C := Tryd.checked) (s := OpenSpec.ofChange Rows.typesOrderSpec) own started (by kernel_rfl) Tryd.func5
    (witness_row_at (enc := enc) (C := Tryd.checked) false (laidWorld os) wit rfl (by kernel_rfl) (by kernel_rfl) (by kernel_rfl)
      (OpenSpec.preRow_of_cond 8 hx (by kernel_rfl) (fun k hk => by cases hk) (by kernel_rfl) (laid_met os))) ?_
  intro W base args ds gs before hval hW _ _ _ hL _ _
  exact contract H enc W base args ds gs before hval hW hL
theorem said : Rows.TypesOrderSaid :=
  OpenClaim.holds_of_cond 5 Tryd.f5 rfl rfl rfl rfl rfl rfl rfl ⟨rfl, rfl, rfl, rfl, rfl⟩ rfl rfl rfl rfl rfl (by kernel_rfl) Tryd.func5 (by kernel_rfl)
    (of_decide_eq_true (by kernel_rfl)) (by unfold Func.isWrapper; first | (rw [if_pos (by decide +kernel)]; kernel_rfl) | (rw [if_neg (by decide +kernel)]; exact ⟨rfl, rfl⟩))
    (fun os started H enc _ F => by rw [OpenClaim.pre_eq_preRow]; exact lifted os started H enc F)
theorem plain (f : FuncId) (fn : Func) (hf : Tryd.pinned.checked.prog.funcNamed "loanword/loanwordlaw06.TypesOrder" = some f) (hfn : Tryd.pinned.checked.prog.funcs[f]? = some fn) :
    true = Tryd.pinned.checked.prog.looks [] ∧ ∀ (j : Nat) t, fn.params[j]? = some t → Tryd.pinned.checked.prog.wantsStandIn t = false := by
  obtain rfl : f = 5 := Option.some.inj ((show Tryd.prog.funcNamed "loanword/loanwordlaw06.TypesOrder" = some 5 by kernel_rfl).symm.trans hf) |>.symm
  obtain rfl : fn = Tryd.f5 := (Option.some.inj (Tryd.func5.symm.trans hfn)).symm
  refine ⟨by kernel_rfl, fun j t ht => ?_⟩
  have hall : (Tryd.f5.params.all fun t => !(Tryd.prog.wantsStandIn t)) = true := by kernel_rfl
  have := Array.all_eq_true_iff_forall_mem.1 hall t (Array.mem_of_getElem? ht)
  show Tryd.prog.wantsStandIn t = false
  simpa using this
theorem card : Rows.TypesOrderCardSaid :=
  Claim7.holds_tied_plain_at .later [] _ _ _ _ said (fun _ h => by cases h) (by kernel_rfl) (fun _ h => by cases h) typesOrder_row_tie rfl ⟨rfl, rfl⟩ (by kernel_rfl) rfl plain (by kernel_rfl)
end Go.Proofs.YtajllnahceaipaaDoor.typesOrder
end
