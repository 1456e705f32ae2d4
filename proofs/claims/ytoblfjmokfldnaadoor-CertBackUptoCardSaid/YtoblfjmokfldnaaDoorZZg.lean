/-
  The law CertTells.
  loanwordlaw20.CertTells: the card: whatever the input, the law returns true and the input reads as it did.
  loanwordlaw20.CertBack: the card: whatever the input, the law returns true and the input reads as it did.
  Three further cards of the certificates' laws, together.
-/
import Derived.Test.YtoblfjmokfldnaaDoorZZf

section
namespace Go.Proofs

open Go.Sh Go.BM

set_option maxRecDepth 100000

set_option linter.unusedSimpArgs false

set_option linter.unusedVariables false

noncomputable def ownC (c : List FnD) : List FnD := if mayCB c then c else []
noncomputable def ownE (c : List FnD) : Int := if mayCB c then 0 else 2
theorem ownC_sm {c : List FnD} (h : CSm c) : CSm (ownC c) := by
  unfold ownC; split
  · exact h
  · exact ⟨Nat.zero_le _, by simp⟩
theorem same_eq {c d : List FnD} : sameC c d = ((mayCB c && mayCB d) && eqC c d) := by
  unfold sameC
  by_cases h1 : MayC c
  · by_cases h2 : MayC d
    · rw [mayCB_iff.2 h1, mayCB_iff.2 h2]
      by_cases h : c = d
      · subst h; rw [eqC_t rfl]; simp
      · rw [eqC_f h]
        have : certB c ≠ certB d := fun e => h (cert_inj h1 h2 e)
        simp [this]
    · have : mayCB d = false := by
        cases hb : mayCB d with
        | false => rfl
        | true => exact absurd (mayCB_iff.1 hb) h2
      rw [this]; simp
  · have : mayCB c = false := by
      cases hb : mayCB c with
      | false => rfl
      | true => exact absurd (mayCB_iff.1 hb) h1
    rw [this]; simp
section

variable {w0 w : World} {r : Gh} {L : List Asr} {K : Value → World → Prop} {v va vb : Value} {c d : List FnD}

theorem c_cert_OwnC (hr : Holds r w) (hv : CertG r v c) (hs : CSm c)
    (h : ∀ v' sh sw w', Ext w w' → New w sh w' → New w sw w' → WordsOnly sw → NoWords sh → CertO sh sw v' (ownC c) → K (.tuple #[v', .int .i64 (ownE c)]) w') : oCall Tryd.prog Tryd.n_cert_Own #[v] w K := by
  refine c_cert_Own hr hv hs.1 hs.2 (fun w' hn e => ?_) (fun v' sh sw w' hm e n1 n2 a b g => ?_)
  · have hf : mayCB c = false := by
      cases hb : mayCB c with
      | false => rfl
      | true => exact absurd (mayCB_iff.1 hb) hn
    have := h (.agg #[.slice none 0 0]) nothing nothing w' e New.nothing New.nothing .no .no (by rw [ownC, hf]; exact ⟨_, rfl, SlG.nil⟩)
    rw [ownE, hf] at this
    exact this
  · have ht := mayCB_iff.2 hm
    have := h v' sh sw w' e n1 n2 a b (by rw [ownC, if_pos ht]; exact g)
    rw [ownE, if_pos ht] at this
    exact this
theorem c_law20_CertTells (hr : Holds r w) (hT : Ob r Tab) (hv : CertG r va c) (hu : CertG r vb d) (hl1 : c.length ≤ Go.maxLen) (hl2 : d.length ≤ Go.maxLen) (h : ∀ w', Ext w w' → K (.bool true) w') :
    oCall Tryd.prog Tryd.n_law20_CertTells #[va, vb] w K := by
  refine Tryd.ok_law20_CertTells ?_
  unfold Tryd.F_law20_CertTells
  have gc := hv
  have gd := hu
  obtain ⟨x, rfl, hx⟩ := hv
  obtain ⟨y, rfl, hy⟩ := hu
  obtain ⟨p1, k1, rfl, _⟩ := hx.shape
  obtain ⟨p2, k2, rfl, _⟩ := hy.shape
  have S := St.start hr
  refine S.box fun b2 w1 S => ?_
  refine S.box fun b3 w2 S => ?_
  obtain ⟨LL, hLL⟩ : ∃ LL : List Asr, LL = (.cell b3 [.slice p2 d.length k2] 24 :: .cell b2 [.slice p1 c.length k1] 24 :: []) := ⟨_, rfl⟩
  have S : St w r w2 (.cell b3 [.slice p2 d.length k2] 24 :: .cell b2 [.slice p1 c.length k1] 24 :: []) := S
  (repeat (first | refine s_p ?_ | refine s_c (by omega) ?_ | refine S.ld ?_ | refine S.ldB ?_ | refine S.ce ?_ | refine S.ceB ?_ | refine s_q ?_ | refine s_qc (by omega) ?_ | refine n_some ?_ | rw [List.getD_cons_zero] | rw [List.getD_cons_succ]))
  refine c_law20_fits S.holds gc hl1 fun x1 w3 e3 f1 => ?_
  have S := S.go e3
  (first | refine s_p ?_ | refine s_c (by omega) ?_)
  refine j_orX (R := fun x w' => (x = false → CSm c ∧ CSm d) ∧ St w r w' LL) (fun _ => ⟨(fun hh => by cases hh), by rw [hLL]; exact S⟩) (fun hx1 K6 hK6 => ?_) (fun x w4 hS => ?_)
  · (repeat (first | refine s_p ?_ | refine s_c (by omega) ?_ | refine S.ld ?_ | refine S.ldB ?_ | refine S.ce ?_ | refine S.ceB ?_ | refine s_q ?_ | refine s_qc (by omega) ?_ | refine n_some ?_ | rw [List.getD_cons_zero] | rw [List.getD_cons_succ]))
    refine c_law20_fits S.holds gd hl2 fun x2 w5 e5 f2 => ?_
    have S := S.go e5
    (first | refine s_p ?_ | refine s_c (by omega) ?_)
    refine hK6 _ _ ⟨fun hx2 => ⟨f1 (by simpa using hx1), f2 (by simpa using hx2)⟩, by rw [hLL]; exact S⟩
  repeat clear S
  obtain ⟨hcsm, S⟩ := hS
  refine c_b (fun _ => k_awake S hT inferInstance h) (fun hb => ?_)
  obtain ⟨hc1, hd1⟩ := hcsm hb
  subst hLL
  (repeat (first | refine s_p ?_ | refine s_c (by omega) ?_ | refine S.ld ?_ | refine S.ldB ?_ | refine S.ce ?_ | refine S.ceB ?_ | refine s_q ?_ | refine s_qc (by omega) ?_ | refine n_some ?_ | rw [List.getD_cons_zero] | rw [List.getD_cons_succ]))
  refine c_ref20_Own S.holds gc hc1.1 hc1.2 fun v5 sn5 w5 e5 n5 g5 => ?_
  obtain ⟨S, dd5, ab5⟩ := S.tell e5 n5
  have gown := g5
  obtain ⟨u5, rfl, hu5⟩ := g5
  obtain ⟨q5, k5, rfl, _⟩ := hu5.shape
  refine S.al fun b5 w6 S => ?_
  refine S.stB fun w7 S => ?_
  (repeat (first | refine s_p ?_ | refine s_c (by omega) ?_ | refine S.ld ?_ | refine S.ldB ?_ | refine S.ce ?_ | refine S.ceB ?_ | refine s_q ?_ | refine s_qc (by omega) ?_ | refine n_some ?_ | rw [List.getD_cons_zero] | rw [List.getD_cons_succ]))
  refine c_ref20_May S.holds gc.up hc1.1 (fun f hf => (hc1.2 f hf).len) fun w8 e8 => ?_
  have S := S.go e8
  (repeat (first | refine s_p ?_ | refine s_c (by omega) ?_ | refine S.ld ?_ | refine S.ldB ?_ | refine S.ce ?_ | refine S.ceB ?_ | refine s_q ?_ | refine s_qc (by omega) ?_ | refine n_some ?_ | rw [List.getD_cons_zero] | rw [List.getD_cons_succ]))
  refine c_cert_BytesC S.holds hT.up gown.up hc1 fun w9 e9 => ?_
  have S := S.go e9
  (repeat (first | refine s_p ?_ | refine s_c (by omega) ?_ | refine S.ld ?_ | refine S.ldB ?_ | refine S.ce ?_ | refine S.ceB ?_ | refine s_q ?_ | refine s_qc (by omega) ?_ | refine n_some ?_ | rw [List.getD_cons_zero] | rw [List.getD_cons_succ]))
  refine c_cert_OwnC S.holds gown.up hc1 fun v6 sh1 sw1 w10 e10 n10 m10 a10 b10 g6 => ?_
  obtain ⟨S, dd1, ab1⟩ := S.tell e10 (n10.or m10)
  have hdis1 : Dis sh1 sw1 := dis_words (w := w10) n10.holds m10.holds b10 a10
  obtain ⟨u6, rfl, hu6⟩ := g6
  have hu6' := hu6
  obtain ⟨q6, k6, rfl, _⟩ := hu6.shape
  (repeat (first | refine s_p ?_ | refine s_c (by omega) ?_ | refine S.ld ?_ | refine S.ldB ?_ | refine S.ce ?_ | refine S.ceB ?_ | refine s_q ?_ | refine s_qc (by omega) ?_ | refine n_some ?_ | rw [List.getD_cons_zero] | rw [List.getD_cons_succ]))
  refine S.al fun b9 w11 S => ?_
  refine S.stB fun w12 S => ?_
  (repeat (first | refine s_p ?_ | refine s_c (by omega) ?_ | refine S.ld ?_ | refine S.ldB ?_ | refine S.ce ?_ | refine S.ceB ?_ | refine s_q ?_ | refine s_qc (by omega) ?_ | refine n_some ?_ | rw [List.getD_cons_zero] | rw [List.getD_cons_succ]))
  refine c_cert_OwnC S.holds gown.up hc1 fun v7 sh2 sw2 w13 e13 n13 m13 a13 b13 g7 => ?_
  obtain ⟨S, dd2, ab2⟩ := S.tell e13 (n13.or m13)
  have gb := g7.g
  obtain ⟨u7, rfl, hu7⟩ := g7
  obtain ⟨q7, k7, rfl, _⟩ := hu7.shape
  (repeat (first | refine s_p ?_ | refine s_c (by omega) ?_ | refine S.ld ?_ | refine S.ldB ?_ | refine S.ce ?_ | refine S.ceB ?_ | refine s_q ?_ | refine s_qc (by omega) ?_ | refine n_some ?_ | rw [List.getD_cons_zero] | rw [List.getD_cons_succ]))
  refine S.al fun b11 w14 S => ?_
  refine S.stB fun w15 S => ?_
  obtain ⟨QA, hQA⟩ : ∃ QA, QA = (((r.or sn5).or (sh1.or sw1)).or (sh2.or sw2)) := ⟨_, rfl⟩
  obtain ⟨LL, hLL⟩ : ∃ LL : List Asr, LL = (.cell b11 [.slice q7 (ownC c).length k7] 24 :: .cell b9 [.slice q6 (ownC c).length k6] 24 :: .cell b5 [.slice q5 c.length k5] 24 :: .cell b3 [.slice p2 d.length k2] 24 :: .cell b2 [.slice p1 c.length k1] 24 :: []) := ⟨_, rfl⟩
  have S : St w QA w15 LL := by rw [hQA, hLL]; exact S
  have lrA : Le r QA := by rw [hQA]; infer_instance
  have l5A : Le sn5 QA := by rw [hQA]; infer_instance
  have gcA : CertG QA (.agg #[.slice p1 c.length k1]) c := gc.up
  have gdA : CertG QA (.agg #[.slice p2 d.length k2]) d := gd.up
  have goA : CertG QA (.agg #[.slice q5 c.length k5]) c := gown.up
  have hTA : Ob QA Tab := hT.up
  subst hLL
  (repeat (first | refine s_p ?_ | refine s_c (by omega) ?_ | refine S.ld ?_ | refine S.ldB ?_ | refine S.ce ?_ | refine S.ceB ?_ | refine s_q ?_ | refine s_qc (by omega) ?_ | refine n_some ?_ | rw [List.getD_cons_zero] | rw [List.getD_cons_succ]))
  refine c_cert_May S.holds goA hc1.1 (fun f hf => (hc1.2 f hf).len) fun w16 e16 => ?_
  have S := S.go e16
  (first | refine s_p ?_ | refine s_c (by omega) ?_)
  rw [show (!(mayCB c == mayCB c)) = false by simp]
  cases hm : mayCB c with
  | false =>
    intro K22 hK22
    refine g_FF ?_
    (repeat (first | refine s_p ?_ | refine s_c (by omega) ?_ | refine S.ld ?_ | refine S.ldB ?_ | refine S.ce ?_ | refine S.ceB ?_ | refine s_q ?_ | refine s_qc (by omega) ?_ | refine n_some ?_ | rw [List.getD_cons_zero] | rw [List.getD_cons_succ]))
    refine c_cert_Same S.holds hTA goA gdA hc1 hd1 fun w17 e17 => ?_
    have S := S.go e17
    rw [same_eq, hm]
    refine hK22 _ _ fun _ => ?_
    clear hK22 K22
    intro K27 hK27
    simp only [List.getD_cons_zero, List.getD_cons_succ]
    refine g_FT ?_
    refine hK27 _ _ fun _ => ?_
    clear hK27 K27
    intro K32 hK32
    refine g_FF ?_
    refine k_pickF ?_
    refine hK32 _ _ fun _ => ?_
    clear hK32 K32
    intro K36 hK36
    rw [List.getD_cons_zero]
    refine g_FT ?_
    refine hK36 _ _ fun _ => ?_
    clear hK36 K36
    intro K41 hK41
    refine g_FF ?_
    refine k_pickF ?_
    (repeat (first | refine s_p ?_ | refine s_c (by omega) ?_ | refine S.ld ?_ | refine S.ldB ?_ | refine S.ce ?_ | refine S.ceB ?_ | refine s_q ?_ | refine s_qc (by omega) ?_ | refine n_some ?_ | rw [List.getD_cons_zero] | rw [List.getD_cons_succ]))
    refine hK41 _ _ fun _ => ?_
    clear hK41 K41
    refine k_pickF ?_
    rw [List.getD_cons_zero]
    refine c_f (by simp) ?_
    (first | refine s_p ?_ | refine s_c (by omega) ?_)
    refine c_t rfl ?_
    have hnm : ¬ MayC c := fun hh => by rw [mayCB_iff.2 hh] at hm; cases hm
    have hoC : ownC c = [] := by rw [ownC, hm]; rfl
    have hoE : ownE c = 2 := by rw [ownE, hm]; rfl
    rw [bytesC_not hnm, hoE]
    (first | refine s_p ?_ | refine s_c (by omega) ?_)
    refine j_bandH (c := true) (fun _ K6 hK6 => by (repeat (first | refine s_p ?_ | refine s_c (by omega) ?_ | refine S.ld ?_ | refine S.ldB ?_ | refine S.ce ?_ | refine S.ceB ?_ | refine s_q ?_ | refine s_qc (by omega) ?_ | refine n_some ?_ | rw [List.getD_cons_zero] | rw [List.getD_cons_succ])); exact hK6) ?_
    refine j_bandH (c := true) (fun _ K6 hK6 => by (repeat (first | refine s_p ?_ | refine s_c (by omega) ?_ | refine S.ld ?_ | refine S.ldB ?_ | refine S.ce ?_ | refine S.ceB ?_ | refine s_q ?_ | refine s_qc (by omega) ?_ | refine n_some ?_ | rw [List.getD_cons_zero] | rw [List.getD_cons_succ])); exact hK6) ?_
    refine j_bandH (c := true) (fun _ K6 hK6 => ?_) ?_
    · (repeat (first | refine s_p ?_ | refine s_c (by omega) ?_ | refine S.ld ?_ | refine S.ldB ?_ | refine S.ce ?_ | refine S.ceB ?_ | refine s_q ?_ | refine s_qc (by omega) ?_ | refine n_some ?_ | rw [List.getD_cons_zero] | rw [List.getD_cons_succ]))
      rw [hoC]
      exact hK6
    refine j_andX (R := fun x w' => x = true ∧ St w QA w' (.cell b11 [.slice q7 (ownC c).length k7] 24 :: .cell b9 [.slice q6 (ownC c).length k6] 24 :: .cell b5 [.slice q5 c.length k5] 24 :: .cell b3 [.slice p2 d.length k2] 24 :: .cell b2 [.slice p1 c.length k1] 24 :: [])) (fun hh => by cases hh) (fun _ K6 hK6 => ?_) (fun x w18 hS => ?_)
    · (repeat (first | refine s_p ?_ | refine s_c (by omega) ?_ | refine S.ld ?_ | refine S.ldB ?_ | refine S.ce ?_ | refine S.ceB ?_ | refine s_q ?_ | refine s_qc (by omega) ?_ | refine n_some ?_ | rw [List.getD_cons_zero] | rw [List.getD_cons_succ]))
      refine c_cert_Size S.holds goA hc1 fun w19 e19 => ?_
      have S := S.go e19
      rw [sizeC, hm]
      (first | refine s_p ?_ | refine s_c (by omega) ?_)
      exact hK6 _ _ ⟨rfl, S⟩
    repeat clear S
    obtain ⟨rfl, S⟩ := hS
    refine j_andX (R := fun x w' => x = true ∧ St w QA w' []) (fun hh => by cases hh) (fun _ K6 hK6 => ?_) (fun x w18 hS => ?_)
    · (repeat (first | refine s_p ?_ | refine s_c (by omega) ?_ | refine S.ld ?_ | refine S.ldB ?_ | refine S.ce ?_ | refine S.ceB ?_ | refine s_q ?_ | refine s_qc (by omega) ?_ | refine n_some ?_ | rw [List.getD_cons_zero] | rw [List.getD_cons_succ]))
      refine c_ref20_Equal S.holds goA gcA hc1 fun w19 e19 => ?_
      have S := S.go e19
      rw [eqC_t rfl]
      exact hK6 _ _ ⟨rfl, S.tl.tl.tl.tl.tl⟩
    repeat clear S
    obtain ⟨rfl, S⟩ := hS
    refine j_andX (R := fun x w' => x = true ∧ Ext w w') (fun hh => by cases hh) (fun _ K6 hK6 => k_awake S hT lrA fun w' e => hK6 _ _ ⟨rfl, e⟩) (fun x w24 hx => ?_)
    obtain ⟨rfl, e⟩ := hx
    exact h _ e
  | true =>
    intro K22 hK22
    refine g_FF ?_
    (repeat (first | refine s_p ?_ | refine s_c (by omega) ?_ | refine S.ld ?_ | refine S.ldB ?_ | refine S.ce ?_ | refine S.ceB ?_ | refine s_q ?_ | refine s_qc (by omega) ?_ | refine n_some ?_ | rw [List.getD_cons_zero] | rw [List.getD_cons_succ]))
    refine c_cert_Same S.holds hTA goA gdA hc1 hd1 fun w17 e17 => ?_
    have S := S.go e17
    rw [same_eq, hm]
    refine hK22 _ _ fun _ => ?_
    clear hK22 K22
    intro K27 hK27
    simp only [List.getD_cons_zero, List.getD_cons_succ]
    refine g_TT ?_
    (repeat (first | refine s_p ?_ | refine s_c (by omega) ?_ | refine S.ld ?_ | refine S.ldB ?_ | refine S.ce ?_ | refine S.ceB ?_ | refine s_q ?_ | refine s_qc (by omega) ?_ | refine n_some ?_ | rw [List.getD_cons_zero] | rw [List.getD_cons_succ]))
    refine c_ref20_May S.holds gdA hd1.1 (fun f hf => (hd1.2 f hf).len) fun w18 e18 => ?_
    have S := S.go e18
    refine hK27 _ _ fun _ => ?_
    clear hK27 K27
    intro K32 hK32
    refine g_FF ?_
    refine k_pickT ?_
    rw [List.getD_cons_zero]
    refine hK32 _ _ fun _ => ?_
    clear hK32 K32
    refine j_intro (fun t w' => (t.getD 0 undef = .bool (eqC c d) ∨ mayCB d = false) ∧ St w QA w' (.cell b11 [.slice q7 (ownC c).length k7] 24 :: .cell b9 [.slice q6 (ownC c).length k6] 24 :: .cell b5 [.slice q5 c.length k5] 24 :: .cell b3 [.slice p2 d.length k2] 24 :: .cell b2 [.slice p1 c.length k1] 24 :: [])) (fun K36 hK36 => ?_) ?_
    · rw [List.getD_cons_zero]
      cases hmd : mayCB d with
      | false =>
        refine g_FT ?_
        exact hK36 _ _ ⟨.inr hmd, S⟩
      | true =>
        refine g_TT ?_
        (repeat (first | refine s_p ?_ | refine s_c (by omega) ?_ | refine S.ld ?_ | refine S.ldB ?_ | refine S.ce ?_ | refine S.ceB ?_ | refine s_q ?_ | refine s_qc (by omega) ?_ | refine n_some ?_ | rw [List.getD_cons_zero] | rw [List.getD_cons_succ]))
        refine c_ref20_Equal S.holds gcA gdA hc1 fun w19 e19 => ?_
        have S := S.go e19
        exact hK36 _ _ ⟨.inl rfl, S⟩
    repeat clear S
    rintro t36 w20 ⟨h36, S⟩ d20
    intro K41 hK41
    refine g_FF ?_
    rw [List.getD_cons_zero]
    have hpick : ∀ {Kp : Value → Prop}, Kp (.bool (mayCB d && eqC c d)) → oPick (.bool (mayCB d)) (t36.getD 0 undef) (.bool false) Kp := by
      intro Kp hk
      cases hmd : mayCB d with
      | false => rw [hmd] at hk; exact k_pickF hk
      | true =>
        rw [hmd] at hk h36
        rcases h36 with h36 | h36
        · rw [h36]; exact k_pickT hk
        · cases h36
    refine hpick ?_
    (repeat (first | refine s_p ?_ | refine s_c (by omega) ?_ | refine S.ld ?_ | refine S.ldB ?_ | refine S.ce ?_ | refine S.ceB ?_ | refine s_q ?_ | refine s_qc (by omega) ?_ | refine n_some ?_ | rw [List.getD_cons_zero] | rw [List.getD_cons_succ]))
    refine hK41 _ _ fun _ => ?_
    clear hK41 K41
    refine k_pickF ?_
    rw [List.getD_cons_zero]
    refine c_f (by simp) ?_
    (first | refine s_p ?_ | refine s_c (by omega) ?_)
    refine c_f rfl ?_
    have hmm : MayC c := mayCB_iff.1 hm
    have hoC : ownC c = c := by rw [ownC, hm]; rfl
    have hoE : ownE c = 0 := by rw [ownE, hm]; rfl
    (repeat (first | refine s_p ?_ | refine s_c (by omega) ?_ | refine S.ld ?_ | refine S.ldB ?_ | refine S.ce ?_ | refine S.ceB ?_ | refine s_q ?_ | refine s_qc (by omega) ?_ | refine n_some ?_ | rw [List.getD_cons_zero] | rw [List.getD_cons_succ]))
    refine c_ref20_Bytes S.holds gcA hmm fun w21 e21 => ?_
    have S := S.go e21
    rw [bytesC_may hmm, hoE]
    (first | refine s_p ?_ | refine s_c (by omega) ?_)
    refine j_bandH (c := true) (fun _ K6 hK6 => by (repeat (first | refine s_p ?_ | refine s_c (by omega) ?_ | refine S.ld ?_ | refine S.ldB ?_ | refine S.ce ?_ | refine S.ceB ?_ | refine s_q ?_ | refine s_qc (by omega) ?_ | refine n_some ?_ | rw [List.getD_cons_zero] | rw [List.getD_cons_succ])); exact hK6) ?_
    refine j_bandH (c := true) (fun _ K6 hK6 => ?_) ?_
    · (first | refine s_p ?_ | refine s_c (by omega) ?_)
      rw [show (certB c == certB c) = true by simp]
      exact hK6
    refine j_andX (R := fun x w' => x = true ∧ St w QA w' (.cell b11 [.slice q7 (ownC c).length k7] 24 :: .cell b9 [.slice q6 (ownC c).length k6] 24 :: .cell b5 [.slice q5 c.length k5] 24 :: .cell b3 [.slice p2 d.length k2] 24 :: .cell b2 [.slice p1 c.length k1] 24 :: [])) (fun hh => by cases hh) (fun _ K6 hK6 => ?_) (fun x w22 hS => ?_)
    · (repeat (first | refine s_p ?_ | refine s_c (by omega) ?_ | refine S.ld ?_ | refine S.ldB ?_ | refine S.ce ?_ | refine S.ceB ?_ | refine s_q ?_ | refine s_qc (by omega) ?_ | refine n_some ?_ | rw [List.getD_cons_zero] | rw [List.getD_cons_succ]))
      refine c_cert_Size S.holds goA hc1 fun w19 e19 => ?_
      have S := S.go e19
      rw [sizeC, if_pos hm]
      (first | refine s_p ?_ | refine s_c (by omega) ?_); (first | refine s_p ?_ | refine s_c (by omega) ?_)
      rw [decide_eq_true rfl]
      exact hK6 _ _ ⟨rfl, S⟩
    repeat clear S
    obtain ⟨rfl, S⟩ := hS
    obtain ⟨Q, hQ⟩ : ∃ Q, Q = (((r.or sn5).or sh1).or (sh2.or sw2)) := ⟨_, rfl⟩
    have lrQ : Le r Q := by rw [hQ]; infer_instance
    have l5Q : Le sn5 Q := by rw [hQ]; infer_instance
    refine j_andX (R := fun x w' => x = true ∧ St w Q w' (.cell b11 [.slice q7 (ownC c).length k7] 24 :: .cell b9 [.slice q6 (ownC c).length k6] 24 :: .cell b5 [.slice q5 c.length k5] 24 :: .cell b3 [.slice p2 d.length k2] 24 :: .cell b2 [.slice p1 c.length k1] 24 :: [])) (fun hh => by cases hh) (fun _ K6 hK6 => ?_) (fun x w23 hS => ?_)
    · (repeat (first | refine s_p ?_ | refine s_c (by omega) ?_ | refine S.ld ?_ | refine S.ldB ?_ | refine S.ce ?_ | refine S.ceB ?_ | refine s_q ?_ | refine s_qc (by omega) ?_ | refine n_some ?_ | rw [List.getD_cons_zero] | rw [List.getD_cons_succ]))
      have hdq : Dis Q sw1 := by
        rw [hQ]
        intro b o o' hb hsw
        rcases hb with ((hb | hb) | hb) | hb
        · exact dd1 b o' o (.inr hsw) (.inl hb)
        · exact dd1 b o' o (.inr hsw) (.inr hb)
        · exact hdis1 b o o' hb hsw
        · exact dd2 b o o' hb (.inr (.inr hsw))
      have lqA : Le Q QA := by rw [hQ, hQA]; infer_instance
      have lsA : Le sw1 QA := by rw [hQA]; infer_instance
      refine k_heldC (q := Q) (sw := sw1) (c := c) S (lq := lqA) (ls := lsA) hdq (Above.snd ab1) ⟨_, rfl, ?_⟩ ?_ gc.up hc1 fun w24 S => ?_
      · have h6 := hu6'
        rw [hoC] at h6
        rw [hQ, hoC]
        exact FnsO.up h6
      · have h7 := gb
        rw [hoC] at h7
        rw [hQ, hoC]
        exact h7.up
      · exact hK6 _ _ ⟨rfl, S⟩
    repeat clear S
    obtain ⟨rfl, S⟩ := hS
    refine j_andX (R := fun x w' => x = true ∧ St w Q w' []) (fun hh => by cases hh) (fun _ K6 hK6 => ?_) (fun x w24 hS => ?_)
    · (repeat (first | refine s_p ?_ | refine s_c (by omega) ?_ | refine S.ld ?_ | refine S.ldB ?_ | refine S.ce ?_ | refine S.ceB ?_ | refine s_q ?_ | refine s_qc (by omega) ?_ | refine n_some ?_ | rw [List.getD_cons_zero] | rw [List.getD_cons_succ]))
      refine c_ref20_Equal S.holds gown.up gc.up hc1 fun w19 e19 => ?_
      have S := S.go e19
      rw [eqC_t rfl]
      exact hK6 _ _ ⟨rfl, S.tl.tl.tl.tl.tl⟩
    repeat clear S
    obtain ⟨rfl, S⟩ := hS
    refine j_andX (R := fun x w' => x = true ∧ Ext w w') (fun hh => by cases hh) (fun _ K6 hK6 => k_awake S hT lrQ fun w' e => hK6 _ _ ⟨rfl, e⟩) (fun x w25 hx => ?_)
    obtain ⟨rfl, e⟩ := hx
    exact h _ e
end

end Go.Proofs
end

section
namespace Go.Proofs.YtoblfjmokfldnaaDoor.certTells

open Go.Sh Go.BM Go.ChangeShapes Go.WideShapes Go.ChangeAt Go.RowKit open20

set_option maxRecDepth 100000

set_option linter.unusedVariables false

theorem contract (H : Type) (enc : TypeId × Value → H) (W : World) (base : Nat) (args : Array Value) (ds gs : List (DataW H)) (before : List MemPlace)
    (hval : ∀ (j : Nat) t v, Tryd.f3.params[j]? = some t → args[j]? = some v → Value.okWide Tryd.prog W .any base t v)
    (hW : DataW.Whole enc Tryd.prog Tryd.f3.params.toList Rows.certTellsSpec.vars false W args.toList ds gs before) (hL : laidMetH Tryd.prog Rows.certTellsRow.laid W)
    (hwt : (DataW.weightsEach Tryd.prog (Tryd.f3.params.toList ++ (Rows.OpenSpec.upto Rows.certTellsSpec).bare.plain.varTypes Tryd.prog) (ds ++ gs)).all (· ≤ reachBytes) = true) :
    Calls Tryd.prog 3 args W fun e W' => ∃ v, e = .returned v ∧ Rows.certTellsSpec.post enc Tryd.prog Tryd.f3 false true false false W args v W' := by
  have hW' := hW
  obtain ⟨p, q, hA, hV, rfl, hfz, hnd⟩ := hW
  rw [show Tryd.f3.params.toList = [24, 24] by kernel_rfl] at hA
  obtain ⟨v0, vs0, d0, ds0, p0, q100, hargs, rfl, rfl, h0, r0⟩ := trodAll_cons hA
  obtain ⟨v1, vs1, d1, ds1, p1, q101, rfl, rfl, rfl, h1, r1⟩ := trodAll_cons r0
  obtain ⟨rfl, rfl, rfl⟩ := trodAll_nil r1
  obtain rfl : args = #[v0, v1] := by cases args; simp_all
  obtain ⟨rfl, rfl⟩ := trodVars_none hV
  obtain ⟨c0, hc0, hl0⟩ := cert_open (hval 0 24 v0 (by kernel_rfl) rfl) h0
  obtain ⟨c1, hc1, hl1⟩ := cert_open (hval 1 24 v1 (by kernel_rfl) rfl) h1
  refine Calls.mono (c_law20_CertTells (K := fun v W' => v = .bool true ∧ Ext W W') (all_holds W) (table hL) hc0 hc1 hl0 hl1 fun w' e => ⟨rfl, e⟩) ?_
  rintro e W' ⟨v, he, rfl, hE⟩
  exact ⟨_, he, post_told laidOut rowed full (by rw [show Tryd.f3.params.toList = [24, 24] by kernel_rfl]; decide) rfl (by kernel_rfl) u4 hW' rfl hE⟩

def wit : Array Value := #[.agg #[.slice none 0 0], .agg #[.slice none 0 0]]
theorem laid_met (os : Os) : laidMet Tryd.prog Rows.certTellsRow.laid ((laidWorld os).forCall (fun _ _ => 0) ⟨#[], wit, []⟩).memory :=
  laidMet_of_run' 8 (by kernel_rfl) (by kernel_rfl)
theorem reads (os : Os) {H : Type} (enc : TypeId × Value → H) : ∃ places, DataW.whole enc Tryd.prog ((laidWorld os).forCall (fun _ _ => 0) ⟨#[], wit, []⟩).memory Tryd.f3.params.toList Rows.certTellsSpec.vars false wit.toList 8 = some ([.agg [.nil], .agg [.nil]], [], places) :=
  ⟨[], by kernel_rfl⟩
theorem lifted (os : Os) (started : os.Started) (H : Type) (enc : TypeId × Value → H) (F : Stop.Interp) :
    ReturnsInHanded {} Tryd.checked os 3 .any ((Rows.OpenSpec.upto Rows.certTellsSpec).preRow enc Tryd.prog Tryd.f3 Rows.certTellsUptoRow.domain false Rows.certTellsUptoRow.laid) (((Rows.OpenSpec.upto Rows.certTellsSpec).at F).post enc Tryd.prog Tryd.f3 false true false false) := by
  obtain ⟨places, hx⟩ := reads os enc
  refine returnsInHanded_of_row (C := Tryd.checked) (s := Rows.OpenSpec.upto Rows.certTellsSpec) own started (by kernel_rfl) Tryd.func3
    (witness_row_at (enc := enc) (C := Tryd.checked) false (laidWorld os) wit rfl (by kernel_rfl) (by kernel_rfl) (by kernel_rfl)
      (OpenSpec.preRow_of_cond 8 hx (by kernel_rfl) (fun k hk => by cases hk; kernel_rfl) (by kernel_rfl) (laid_met os))) ?_
  intro W base args ds gs before hval hW _ _ hwt hL _ _
  exact contract H enc W base args ds gs before hval hW hL hwt
theorem said : Rows.CertTellsUptoSaid :=
  OpenClaim.holds_of_cond 3 Tryd.f3 rfl rfl rfl rfl rfl rfl rfl ⟨rfl, rfl, rfl, rfl, rfl⟩ rfl rfl rfl rfl rfl (by kernel_rfl) Tryd.func3 (by kernel_rfl)
    (of_decide_eq_true (by kernel_rfl)) (by unfold Func.isWrapper; first | (rw [if_pos (by decide +kernel)]; kernel_rfl) | (rw [if_neg (by decide +kernel)]; exact ⟨rfl, rfl⟩))
    (fun os started H enc _ F => by rw [OpenClaim.pre_eq_preRow]; exact lifted os started H enc F)
theorem plain (f : FuncId) (fn : Func) (hf : Tryd.pinned.checked.prog.funcNamed "loanword/loanwordlaw20.CertTells" = some f) (hfn : Tryd.pinned.checked.prog.funcs[f]? = some fn) :
    true = Tryd.pinned.checked.prog.looks [] ∧ ∀ (j : Nat) t, fn.params[j]? = some t → Tryd.pinned.checked.prog.wantsStandIn t = false := by
  obtain rfl : f = 3 := Option.some.inj ((show Tryd.prog.funcNamed "loanword/loanwordlaw20.CertTells" = some 3 by kernel_rfl).symm.trans hf) |>.symm
  obtain rfl : fn = Tryd.f3 := (Option.some.inj (Tryd.func3.symm.trans hfn)).symm
  refine ⟨by kernel_rfl, fun j t ht => ?_⟩
  have hall : (Tryd.f3.params.all fun t => !(Tryd.prog.wantsStandIn t)) = true := by kernel_rfl
  have := Array.all_eq_true_iff_forall_mem.1 hall t (Array.mem_of_getElem? ht)
  show Tryd.prog.wantsStandIn t = false
  simpa using this
theorem card : Rows.CertTellsUptoCardSaid :=
  Claim7.holds_tied_plain_at .later [] _ _ _ _ said (fun _ h => by cases h) (by kernel_rfl) (fun _ h => by cases h) certTellsUpto_row_tie rfl ⟨rfl, rfl⟩ (by kernel_rfl) rfl plain (by kernel_rfl)
end Go.Proofs.YtoblfjmokfldnaaDoor.certTells
end

section
namespace Go.Proofs.YtoblfjmokfldnaaDoor.certBack

open Go.Sh Go.BM Go.ChangeShapes Go.WideShapes Go.ChangeAt Go.RowKit open20

set_option maxRecDepth 100000

set_option linter.unusedVariables false

theorem contract (H : Type) (enc : TypeId × Value → H) (W : World) (base : Nat) (args : Array Value) (ds gs : List (DataW H)) (before : List MemPlace)
    (hval : ∀ (j : Nat) t v, Tryd.f6.params[j]? = some t → args[j]? = some v → Value.okWide Tryd.prog W .any base t v)
    (hW : DataW.Whole enc Tryd.prog Tryd.f6.params.toList Rows.certBackSpec.vars false W args.toList ds gs before) (hL : laidMetH Tryd.prog Rows.certBackRow.laid W)
    (hwt : (DataW.weightsEach Tryd.prog (Tryd.f6.params.toList ++ (Rows.OpenSpec.upto Rows.certBackSpec).bare.plain.varTypes Tryd.prog) (ds ++ gs)).all (· ≤ reachBytes) = true) :
    Calls Tryd.prog 6 args W fun e W' => ∃ v, e = .returned v ∧ Rows.certBackSpec.post enc Tryd.prog Tryd.f6 false true false false W args v W' := by
  have hW' := hW
  obtain ⟨p, q, hA, hV, rfl, hfz, hnd⟩ := hW
  rw [show Tryd.f6.params.toList = [24, 24, 9] by kernel_rfl] at hA
  obtain ⟨v0, vs0, d0, ds0, p0, q100, hargs, rfl, rfl, h0, r0⟩ := trodAll_cons hA
  obtain ⟨v1, vs1, d1, ds1, p1, q101, rfl, rfl, rfl, h1, r1⟩ := trodAll_cons r0
  obtain ⟨v2, vs2, d2, ds2, p2, q102, rfl, rfl, rfl, h2, r2⟩ := trodAll_cons r1
  obtain ⟨rfl, rfl, rfl⟩ := trodAll_nil r2
  obtain rfl : args = #[v0, v1, v2] := by cases args; simp_all
  obtain ⟨rfl, rfl⟩ := trodVars_none hV
  obtain ⟨c0, hc0, hl0⟩ := cert_open (hval 0 24 v0 (by kernel_rfl) rfl) h0
  obtain ⟨c1, hc1, hl1⟩ := cert_open (hval 1 24 v1 (by kernel_rfl) rfl) h1
  obtain ⟨s2, rfl, hs2, hm2, ht2⟩ := Go.ChangeMaps.open_string u9 (hval 2 9 v2 (by kernel_rfl) rfl) h2
  have hw2 := sized_string (j := 2) (t := 9) hwt (by kernel_rfl) (by subst hs2; rfl)
  obtain ⟨l2, rfl⟩ := str_list s2
  have hb2 : l2.length ≤ 140737488351232 := by simpa [reachBytes] using hw2
  refine Calls.mono (c_law20_CertBack (K := fun v W' => v = .bool true ∧ Ext W W') (all_holds W) (table hL) hc0 hc1 hl0 hl1 fun w' e => ⟨rfl, e⟩) ?_
  rintro e W' ⟨v, he, rfl, hE⟩
  exact ⟨_, he, post_told laidOut rowed full (by rw [show Tryd.f6.params.toList = [24, 24, 9] by kernel_rfl]; decide) rfl (by kernel_rfl) u4 hW' rfl hE⟩

def wit : Array Value := #[.agg #[.slice none 0 0], .agg #[.slice none 0 0], .string ⟨#[]⟩]
theorem laid_met (os : Os) : laidMet Tryd.prog Rows.certBackRow.laid ((laidWorld os).forCall (fun _ _ => 0) ⟨#[], wit, []⟩).memory :=
  laidMet_of_run' 8 (by kernel_rfl) (by kernel_rfl)
theorem reads (os : Os) {H : Type} (enc : TypeId × Value → H) : ∃ places, DataW.whole enc Tryd.prog ((laidWorld os).forCall (fun _ _ => 0) ⟨#[], wit, []⟩).memory Tryd.f6.params.toList Rows.certBackSpec.vars false wit.toList 8 = some ([.agg [.nil], .agg [.nil], .lit (.string [])], [], places) :=
  ⟨[], by kernel_rfl⟩
theorem lifted (os : Os) (started : os.Started) (H : Type) (enc : TypeId × Value → H) (F : Stop.Interp) :
    ReturnsInHanded {} Tryd.checked os 6 .any ((Rows.OpenSpec.upto Rows.certBackSpec).preRow enc Tryd.prog Tryd.f6 Rows.certBackUptoRow.domain false Rows.certBackUptoRow.laid) (((Rows.OpenSpec.upto Rows.certBackSpec).at F).post enc Tryd.prog Tryd.f6 false true false false) := by
  obtain ⟨places, hx⟩ := reads os enc
  refine returnsInHanded_of_row (C := Tryd.checked) (s := Rows.OpenSpec.upto Rows.certBackSpec) own started (by kernel_rfl) Tryd.func6
    (witness_row_at (enc := enc) (C := Tryd.checked) false (laidWorld os) wit rfl (by kernel_rfl) (by kernel_rfl) (by kernel_rfl)
      (OpenSpec.preRow_of_cond 8 hx (by kernel_rfl) (fun k hk => by cases hk; kernel_rfl) (by kernel_rfl) (laid_met os))) ?_
  intro W base args ds gs before hval hW _ _ hwt hL _ _
  exact contract H enc W base args ds gs before hval hW hL hwt
theorem said : Rows.CertBackUptoSaid :=
  OpenClaim.holds_of_cond 6 Tryd.f6 rfl rfl rfl rfl rfl rfl rfl ⟨rfl, rfl, rfl, rfl, rfl⟩ rfl rfl rfl rfl rfl (by kernel_rfl) Tryd.func6 (by kernel_rfl)
    (of_decide_eq_true (by kernel_rfl)) (by unfold Func.isWrapper; first | (rw [if_pos (by decide +kernel)]; kernel_rfl) | (rw [if_neg (by decide +kernel)]; exact ⟨rfl, rfl⟩))
    (fun os started H enc _ F => by rw [OpenClaim.pre_eq_preRow]; exact lifted os started H enc F)
theorem plain (f : FuncId) (fn : Func) (hf : Tryd.pinned.checked.prog.funcNamed "loanword/loanwordlaw20.CertBack" = some f) (hfn : Tryd.pinned.checked.prog.funcs[f]? = some fn) :
    true = Tryd.pinned.checked.prog.looks [] ∧ ∀ (j : Nat) t, fn.params[j]? = some t → Tryd.pinned.checked.prog.wantsStandIn t = false := by
  obtain rfl : f = 6 := Option.some.inj ((show Tryd.prog.funcNamed "loanword/loanwordlaw20.CertBack" = some 6 by kernel_rfl).symm.trans hf) |>.symm
  obtain rfl : fn = Tryd.f6 := (Option.some.inj (Tryd.func6.symm.trans hfn)).symm
  refine ⟨by kernel_rfl, fun j t ht => ?_⟩
  have hall : (Tryd.f6.params.all fun t => !(Tryd.prog.wantsStandIn t)) = true := by kernel_rfl
  have := Array.all_eq_true_iff_forall_mem.1 hall t (Array.mem_of_getElem? ht)
  show Tryd.prog.wantsStandIn t = false
  simpa using this
theorem card : Rows.CertBackUptoCardSaid :=
  Claim7.holds_tied_plain_at .later [] _ _ _ _ said (fun _ h => by cases h) (by kernel_rfl) (fun _ h => by cases h) certBackUpto_row_tie rfl ⟨rfl, rfl⟩ (by kernel_rfl) rfl plain (by kernel_rfl)
end Go.Proofs.YtoblfjmokfldnaaDoor.certBack
end

section
namespace Go.Proofs

theorem three_cards_more : True := trivial
end Go.Proofs
end
