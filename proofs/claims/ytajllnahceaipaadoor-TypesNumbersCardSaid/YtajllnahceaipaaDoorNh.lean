/-
  loanwordlaw06.TypesNumbers: whatever the structs, the type, the number: the law returns true.
  The table of tens, told by the row.
  Openings: what an argument that is a slice tells; numbers, structs.
  loanwordlaw06.TypesNumbers: the card: whatever the input, the law returns true and the input reads as it did.
-/
import Derived.Test.YtajllnahceaipaaDoorNg
import Derived.Stop.LaidErr
import Derived.Lib.LaidTab
import Derived.Test.YtajllnahceaipaaDoorNf

section
namespace Go.Proofs
open Go.Sh
set_option maxRecDepth 100000
set_option linter.unusedSimpArgs false
set_option linter.unusedVariables false
set_option maxHeartbeats 1000000 in
theorem c_law06_TypesNumbers {ss : List StD} {t : TyD} {p : Option Addr} {cap : Nat} {f : Int} {w : World} {r : Gh} {v : Value} {K : Value → World → Prop} (hr : Holds r w) (hs : StG r p ss) (ht : TyG r v t)
    (h : ∀ w', Ext w w' → K (.bool true) w') : oCall Tryd.prog Tryd.n_law06_TypesNumbers #[.slice p ss.length cap, v, .int .i64 f] w K := by
  refine Tryd.ok_law06_TypesNumbers ?_
  unfold Tryd.F_law06_TypesNumbers
  have ht0 := ht
  obtain ⟨p1, cap1, rfl, _⟩ := ht
  have S := St.start hr
  refine S.box fun b3 w1 S => ?_
  have S : StX noX w r w1 [.cell b3 (tyCs t p1 cap1) 25] := S
  refine c_law06_fits S.holds hs fun x w2 hx e2 => ?_
  have S := S.go e2
  (first | refine s_p ?_ | refine s_c (by omega) ?_)
  refine j_intro (fun s w' => ∃ y, (x = true → s = [.bool y]) ∧ Ext w2 w') (fun K2 hK2 => ?_) ?_
  · cases x with
    | false => exact hK2 _ _ ⟨false, (fun h => by cases h), .refl _⟩
    | true =>
      refine g_FF ?_
      refine S.ldB ?_ rfl
      refine c_law06_typeFits 60 (by decide) (by decide) (by decide) S.holds ht0 fun z w3 e3 => ?_
      (first | refine s_p ?_ | refine s_c (by omega) ?_)
      exact hK2 _ _ ⟨!z, fun _ => rfl, e3⟩
  rintro s w4 ⟨y, hy, e4⟩ d
  have S := S.go e4
  refine ⟨!x, rfl, ?_⟩
  have hcase : (if (!x) = true then Value.bool true else s.getD 0 undef) = .bool (!x || y) := by
    cases x with
    | false => rfl
    | true => rw [hy rfl]; rfl
  rw [hcase]
  refine c_b (fun _ => ?_) (fun hc => ?_)
  · exact c_law06_awake fun w5 e5 => h _ (S.go e5).ext
  clear hc hcase hy
  refine S.ldB ?_ rfl
  refine c_types_Regions S.holds ht0 fun vl w5 e5 o5 => ?_
  obtain ⟨sl, ql, capl, nl, nbl, rfl, _, hcl, hsl⟩ := row_gh o5
  have S := S.new e5 nl
  have hrl : (regsT t).length ≤ 48 := by
    rw [regsT]; split
    · exact regs_le48 (by assumption)
    · simp
  refine S.ldB ?_ rfl
  refine c_types_Anew S.holds ht0.up hsl.up (by omega) fun vx sx w6 e6 n6 hx hcx => ?_
  have S := S.new e6 n6
  have hA1 : (anewT t (regsT t)).1 = if isB t = true then t else zeroD := by rw [anew_self]; cases isB t <;> rfl
  have hA2 : (anewT t (regsT t)).2 = if isB t = true then 0 else 2 := by rw [anew_self]; cases isB t <;> rfl
  rw [hA1] at hx
  rw [hA2]
  have hx0 := hx
  obtain ⟨px, capx, rfl, _⟩ := hx
  (first | refine s_p ?_ | refine s_c (by omega) ?_)
  (first | refine s_p ?_ | refine s_c (by omega) ?_)
  refine S.al fun b8 w7 S => ?_
  refine S.stB fun w8 S => ?_
  refine S.ldB (b := b3) ?_ rfl
  refine c_types_Own S.holds ht0.up fun vo so w9 e9 n9 ho hco => ?_
  have S := S.new e9 n9
  have ho0 := ho
  obtain ⟨po, capo, rfl, _⟩ := ho
  (first | refine s_p ?_ | refine s_c (by omega) ?_)
  (first | refine s_p ?_ | refine s_c (by omega) ?_)
  refine S.al fun b10 w10 S => ?_
  refine S.stB fun w11 S => ?_
  (first | refine s_p ?_ | refine s_c (by omega) ?_)
  generalize hT : (if isB t = true then t else zeroD) = T at hx0 ho0 S
  have he : decide ((if isB t = true then (0 : Int) else 2) ≠ (if isB t = true then 0 else 2)) = false := by simp
  rw [he]
  refine j_intro (fun s w' => s = [.bool (isB t)] ∧ w' = w11) (fun K2 hK2 => ?_) ?_
  · refine g_FF ?_
    (first | refine s_p ?_ | refine s_c (by omega) ?_)
    refine hK2 _ _ ⟨?_, rfl⟩
    cases isB t <;> rfl
  rintro _ w11 ⟨rfl, rfl⟩ d1
  refine j_intro (fun s w' => (isB t = true → s = [.bool false]) ∧ (isB t = false → s = [undef]) ∧ Ext w11 w') (fun K2 hK2 => ?_) ?_
  · cases hB : isB t
    · (repeat (first | (first | refine s_p ?_ | refine s_c (by omega) ?_ | refine S.ld ?_ | refine S.ldB ?_ | refine S.ce ?_ | refine S.ceB ?_ | refine s_q ?_ | refine s_qc (by omega) ?_ | refine n_some ?_ | rw [List.getD_cons_zero] | rw [List.getD_cons_succ]) | refine g_TT ?_ | refine g_FF ?_ | refine g_TF ?_ | refine g_FT ?_ | refine g_UU ?_ | refine k_pickT ?_ | refine k_pickF ?_))
      exact hK2 _ _ ⟨(fun h => by rw [hB] at h; cases h), fun _ => rfl, .refl _⟩
    · rw [if_pos hB] at hT
      subst hT
      refine g_TT ?_
      refine S.ldB (b := b8) ?_ rfl
      refine S.ldB (b := b3) ?_ rfl
      refine c_types_Same S.holds hx0.up ht0.up fun w12 e12 => ?_
      rw [same_refl hB]
      (first | refine s_p ?_ | refine s_c (by omega) ?_)
      exact hK2 _ _ ⟨fun _ => rfl, (fun h => by rw [hB] at h; cases h), e12⟩
  rintro s21 w12 ⟨hs1, hs2, e12⟩ d2
  have S := S.go e12
  refine j_intro (fun s w' => (isB t = true → s = [.bool false]) ∧ Ext w12 w') (fun K2 hK2 => ?_) ?_
  · cases hB : isB t
    · rw [hs2 hB]
      (repeat (first | (first | refine s_p ?_ | refine s_c (by omega) ?_ | refine S.ld ?_ | refine S.ldB ?_ | refine S.ce ?_ | refine S.ceB ?_ | refine s_q ?_ | refine s_qc (by omega) ?_ | refine n_some ?_ | rw [List.getD_cons_zero] | rw [List.getD_cons_succ]) | refine g_TT ?_ | refine g_FF ?_ | refine g_TF ?_ | refine g_FT ?_ | refine g_UU ?_ | refine k_pickT ?_ | refine k_pickF ?_))
      exact hK2 _ _ ⟨(fun h => by rw [hB] at h; cases h), .refl _⟩
    · rw [hs1 hB]
      rw [if_pos hB] at hT
      subst hT
      refine g_FF ?_
      refine S.ldB (b := b10) ?_ rfl
      refine S.ldB (b := b3) ?_ rfl
      refine c_types_Same S.holds ho0.up ht0.up fun w13 e13 => ?_
      rw [same_refl hB]
      (first | refine s_p ?_ | refine s_c (by omega) ?_)
      exact hK2 _ _ ⟨fun _ => rfl, e13⟩
  rintro s26 w13 ⟨hs3, e13⟩ d3
  have S := S.go e13
  refine j_intro (fun s w' => (isB t = true → s = [.bool false]) ∧ w' = w13) (fun K2 hK2 => ?_) ?_
  · cases hB : isB t
    · (repeat (first | (first | refine s_p ?_ | refine s_c (by omega) ?_ | refine S.ld ?_ | refine S.ldB ?_ | refine S.ce ?_ | refine S.ceB ?_ | refine s_q ?_ | refine s_qc (by omega) ?_ | refine n_some ?_ | rw [List.getD_cons_zero] | rw [List.getD_cons_succ]) | refine g_TT ?_ | refine g_FF ?_ | refine g_TF ?_ | refine g_FT ?_ | refine g_UU ?_ | refine k_pickT ?_ | refine k_pickF ?_))
      exact hK2 _ _ ⟨(fun h => by rw [hB] at h; cases h), rfl⟩
    · rw [hs1 hB, hs3 hB]
      (repeat (first | (first | refine s_p ?_ | refine s_c (by omega) ?_ | refine S.ld ?_ | refine S.ldB ?_ | refine S.ce ?_ | refine S.ceB ?_ | refine s_q ?_ | refine s_qc (by omega) ?_ | refine n_some ?_ | rw [List.getD_cons_zero] | rw [List.getD_cons_succ]) | refine g_TT ?_ | refine g_FF ?_ | refine g_TF ?_ | refine g_FT ?_ | refine g_UU ?_ | refine k_pickT ?_ | refine k_pickF ?_))
      exact hK2 _ _ ⟨fun _ => rfl, rfl⟩
  rintro s31 w13 ⟨hs4, rfl⟩ d4
  refine j_intro (fun s w' => s = [.bool false] ∧ w' = w13) (fun K2 hK2 => ?_) ?_
  · cases hB : isB t
    · (repeat (first | (first | refine s_p ?_ | refine s_c (by omega) ?_ | refine S.ld ?_ | refine S.ldB ?_ | refine S.ce ?_ | refine S.ceB ?_ | refine s_q ?_ | refine s_qc (by omega) ?_ | refine n_some ?_ | rw [List.getD_cons_zero] | rw [List.getD_cons_succ]) | refine g_TT ?_ | refine g_FF ?_ | refine g_TF ?_ | refine g_FT ?_ | refine g_UU ?_ | refine k_pickT ?_ | refine k_pickF ?_))
      exact hK2 _ _ ⟨rfl, rfl⟩
    · rw [hs4 hB]
      (repeat (first | (first | refine s_p ?_ | refine s_c (by omega) ?_ | refine S.ld ?_ | refine S.ldB ?_ | refine S.ce ?_ | refine S.ceB ?_ | refine s_q ?_ | refine s_qc (by omega) ?_ | refine n_some ?_ | rw [List.getD_cons_zero] | rw [List.getD_cons_succ]) | refine g_TT ?_ | refine g_FF ?_ | refine g_TF ?_ | refine g_FT ?_ | refine g_UU ?_ | refine k_pickT ?_ | refine k_pickF ?_))
      exact hK2 _ _ ⟨rfl, rfl⟩
  rintro _ w13 ⟨rfl, rfl⟩ d5
  refine k_pickF ?_
  refine c_f rfl ?_
  -- numbered twice
  refine S.ldB (b := b3) ?_ rfl
  refine c_types_Number S.holds ht0.up fun vy sy w14 e14 n14 hy hcy => ?_
  have S := S.new e14 n14
  have hy0 := hy
  obtain ⟨py, capy, rfl, _⟩ := hy
  (first | refine s_p ?_ | refine s_c (by omega) ?_)
  (first | refine s_p ?_ | refine s_c (by omega) ?_)
  (first | refine s_p ?_ | refine s_c (by omega) ?_)
  refine S.al fun b12 w15 S => ?_
  refine S.stB fun w16 S => ?_
  refine j_intro (fun _ w' => ∃ q, Le r q ∧ StX noX w q w' [.cell b3 (tyCs t p1 cap1) 25]) (fun K41 hK41 => ?_) ?_
  · (first | refine s_p ?_ | refine s_c (by omega) ?_)
    refine c_b (fun h0 => ?_) (fun _ => hK41 _ _ ⟨_, inferInstance, S.tl.tl.tl⟩)
    obtain ⟨hB, h2, h3, h4, h5, h6, hf0, hf1⟩ := num_twice (of_decide_eq_true h0)
    have hreg : regsT t = t.regs := by rw [regsT, if_pos hB]
    refine S.ldB (b := b12) ?_ rfl
    refine c_types_Number S.holds hy0.up fun vz sz w17 e17 n17 hz hcz => ?_
    have S := S.new e17 n17
    rw [h2] at hz ⊢
    have hz0 := hz
    obtain ⟨pz, capz, rfl, _⟩ := hz
    (first | refine s_p ?_ | refine s_c (by omega) ?_)
    (first | refine s_p ?_ | refine s_c (by omega) ?_)
    (first | refine s_p ?_ | refine s_c (by omega) ?_)
    refine S.al fun b14 w18 S => ?_
    refine S.stB fun w19 S => ?_
    (first | refine s_p ?_ | refine s_c (by omega) ?_)
    have h0' := of_decide_eq_true h0
    rw [show decide ((numT t f).2.2 ≠ 0) = false by simp [h0']]
    refine j_borHR (fun _ K2 hK2 => ?_) ?_
    · (first | refine s_p ?_ | refine s_c (by omega) ?_)
      simpa using hK2
    refine j_borHR (fun _ K2 hK2 => ?_) ?_
    · (first | refine s_p ?_ | refine s_c (by omega) ?_)
      (first | refine s_p ?_ | refine s_c (by omega) ?_)
      (first | refine s_p ?_ | refine s_c (by omega) ?_)
      rw [h3, hreg]
      simpa using hK2
    refine j_borE (c := false) (fun _ K2 hK2 => ?_) fun w20 e20 => ?_
    · refine S.ldB (b := b12) ?_ rfl
      refine S.ldB (b := b14) ?_ rfl
      refine c_types_Same S.holds hy0.up hz0.up fun w21 e21 => ?_
      rw [same_refl h4]
      (first | refine s_p ?_ | refine s_c (by omega) ?_)
      exact hK2 _ e21
    have S := S.go e20
    refine j_borE (c := false) (fun _ K2 hK2 => ?_) fun w20 e20 => ?_
    · refine S.ldB (b := b12) ?_ rfl
      refine S.ldB (b := b3) ?_ rfl
      refine c_types_Alike S.holds hy0.up ht0.up fun w21 e21 => ?_
      rw [h5]
      (first | refine s_p ?_ | refine s_c (by omega) ?_)
      exact hK2 _ e21
    have S := S.go e20
    refine j_borE (c := false) (fun _ K2 hK2 => ?_) fun w20 e20 => ?_
    · refine S.ldB (b := b12) ?_ rfl
      refine c_types_Regions S.holds hy0.up fun v22 w22 e22 o22 => ?_
      obtain ⟨p22, cap22, rfl, _⟩ := own_shape o22
      (first | refine s_p ?_ | refine s_c (by omega) ?_)
      (first | refine s_p ?_ | refine s_c (by omega) ?_)
      (first | refine s_p ?_ | refine s_c (by omega) ?_)
      rw [regsT, if_pos h4, h6, hreg]
      rw [show decide (((t.regs.length : Nat) : Int) ≠ ((t.regs.length : Nat) : Int)) = false by simp]
      exact hK2 _ e22
    have S := S.go e20
    refine c_f rfl ?_
    exact hK41 _ _ ⟨_, inferInstance, S.tl.tl.tl.tl⟩
  clear S
  rintro _ w17 ⟨q, hq, S⟩ d6
  refine S.ldB (b := b3) ?_ rfl
  refine c_types_May S.holds hs.up ht0.up fun w18 e18 => ?_
  have S := S.go e18
  (first | refine s_p ?_ | refine s_c (by omega) ?_)
  refine c_b (fun _ => ?_) (fun hm => ?_)
  · exact c_law06_awake fun w5 e5 => h _ (S.go e5).ext
  have hm : mayB ss t = true := by simpa using hm
  obtain ⟨hw1, hw17, hw0, hd0⟩ := words_pos hm
  refine S.ldB (b := b3) ?_ rfl
  refine c_types_Words S.holds hs.up ht0.up fun w19 e19 => ?_
  have S := S.go e19
  (first | refine s_p ?_ | refine s_c (by omega) ?_)
  (first | refine s_p ?_ | refine s_c (by omega) ?_)
  refine S.ldB (b := b3) ?_ rfl
  refine c_types_Drops S.holds hs.up ht0.up fun w20 e20 => ?_
  have S := S.go e20
  (first | refine s_p ?_ | refine s_c (by omega) ?_)
  (first | refine s_p ?_ | refine s_c (by omega) ?_)
  (first | refine s_p ?_ | refine s_c (by omega) ?_)
  rw [hw0, hd0]
  refine j_borHR (b := decide ((0 : Int) ≠ 0)) (fun _ K2 hK2 => ?_) ?_
  · (first | refine s_p ?_ | refine s_c (by omega) ?_)
    exact hK2
  refine j_borHR (b := decide ((0 : Int) ≠ 0)) (fun _ K2 hK2 => ?_) ?_
  · (first | refine s_p ?_ | refine s_c (by omega) ?_)
    rw [decide_eq_false (by omega)]; exact hK2
  rw [show decide ((0 : Int) ≠ 0) = false from rfl]
  refine j_intro (fun s w' => s = [.bool (copiesB t)] ∧ Ext w20 w') (fun K2 hK2 => ?_) ?_
  · refine g_FF ?_
    refine S.ldB (b := b3) ?_ rfl
    exact c_types_Copies S.holds ht0.up fun w21 e21 => hK2 _ _ ⟨rfl, e21⟩
  rintro _ w21 ⟨rfl, e21⟩ d7
  have S := S.go e21
  refine j_intro (fun s w' => (copiesB t = true → s = [.bool false]) ∧ (copiesB t = false → s = [undef]) ∧ w' = w21) (fun K2 hK2 => ?_) ?_
  · cases hC : copiesB t
    · (repeat (first | (first | refine s_p ?_ | refine s_c (by omega) ?_ | refine S.ld ?_ | refine S.ldB ?_ | refine S.ce ?_ | refine S.ceB ?_ | refine s_q ?_ | refine s_qc (by omega) ?_ | refine n_some ?_ | rw [List.getD_cons_zero] | rw [List.getD_cons_succ]) | refine g_TT ?_ | refine g_FF ?_ | refine g_TF ?_ | refine g_FT ?_ | refine g_UU ?_ | refine k_pickT ?_ | refine k_pickF ?_))
      exact hK2 _ _ ⟨(fun h => by rw [hC] at h; cases h), fun _ => rfl, rfl⟩
    · refine g_TT ?_
      exact hK2 _ _ ⟨fun _ => by rw [(copies_ok hm hC).2], (fun h => by rw [hC] at h; cases h), rfl⟩
  rintro s89 w21 ⟨hc1, hc2, rfl⟩ d8
  refine j_intro (fun s w' => (copiesB t = true → s = [.bool false]) ∧ w' = w21) (fun K2 hK2 => ?_) ?_
  · cases hC : copiesB t
    · rw [hc2 hC]
      (repeat (first | (first | refine s_p ?_ | refine s_c (by omega) ?_ | refine S.ld ?_ | refine S.ldB ?_ | refine S.ce ?_ | refine S.ceB ?_ | refine s_q ?_ | refine s_qc (by omega) ?_ | refine n_some ?_ | rw [List.getD_cons_zero] | rw [List.getD_cons_succ]) | refine g_TT ?_ | refine g_FF ?_ | refine g_TF ?_ | refine g_FT ?_ | refine g_UU ?_ | refine k_pickT ?_ | refine k_pickF ?_))
      exact hK2 _ _ ⟨(fun h => by rw [hC] at h; cases h), rfl⟩
    · rw [hc1 hC]
      refine g_FF ?_
      (first | refine s_p ?_ | refine s_c (by omega) ?_)
      rw [(copies_ok hm hC).1]
      exact hK2 _ _ ⟨fun _ => rfl, rfl⟩
  rintro s93 w21 ⟨hc3, rfl⟩ d9
  refine j_intro (fun s w' => (copiesB t = true → s = [.bool false]) ∧ w' = w21) (fun K2 hK2 => ?_) ?_
  · cases hC : copiesB t
    · (repeat (first | (first | refine s_p ?_ | refine s_c (by omega) ?_ | refine S.ld ?_ | refine S.ldB ?_ | refine S.ce ?_ | refine S.ceB ?_ | refine s_q ?_ | refine s_qc (by omega) ?_ | refine n_some ?_ | rw [List.getD_cons_zero] | rw [List.getD_cons_succ]) | refine g_TT ?_ | refine g_FF ?_ | refine g_TF ?_ | refine g_FT ?_ | refine g_UU ?_ | refine k_pickT ?_ | refine k_pickF ?_))
      exact hK2 _ _ ⟨(fun h => by rw [hC] at h; cases h), rfl⟩
    · rw [hc1 hC, hc3 hC]
      (repeat (first | (first | refine s_p ?_ | refine s_c (by omega) ?_ | refine S.ld ?_ | refine S.ldB ?_ | refine S.ce ?_ | refine S.ceB ?_ | refine s_q ?_ | refine s_qc (by omega) ?_ | refine n_some ?_ | rw [List.getD_cons_zero] | rw [List.getD_cons_succ]) | refine g_TT ?_ | refine g_FF ?_ | refine g_TF ?_ | refine g_FT ?_ | refine g_UU ?_ | refine k_pickT ?_ | refine k_pickF ?_))
      exact hK2 _ _ ⟨fun _ => rfl, rfl⟩
  rintro s97 w21 ⟨hc4, rfl⟩ d10
  refine j_intro (fun s w' => s = [.bool false] ∧ w' = w21) (fun K2 hK2 => ?_) ?_
  · cases hC : copiesB t
    · (repeat (first | (first | refine s_p ?_ | refine s_c (by omega) ?_ | refine S.ld ?_ | refine S.ldB ?_ | refine S.ce ?_ | refine S.ceB ?_ | refine s_q ?_ | refine s_qc (by omega) ?_ | refine n_some ?_ | rw [List.getD_cons_zero] | rw [List.getD_cons_succ]) | refine g_TT ?_ | refine g_FF ?_ | refine g_TF ?_ | refine g_FT ?_ | refine g_UU ?_ | refine k_pickT ?_ | refine k_pickF ?_))
      exact hK2 _ _ ⟨rfl, rfl⟩
    · rw [hc4 hC]
      (repeat (first | (first | refine s_p ?_ | refine s_c (by omega) ?_ | refine S.ld ?_ | refine S.ldB ?_ | refine S.ce ?_ | refine S.ceB ?_ | refine s_q ?_ | refine s_qc (by omega) ?_ | refine n_some ?_ | rw [List.getD_cons_zero] | rw [List.getD_cons_succ]) | refine g_TT ?_ | refine g_FF ?_ | refine g_TF ?_ | refine g_FT ?_ | refine g_UU ?_ | refine k_pickT ?_ | refine k_pickF ?_))
      exact hK2 _ _ ⟨rfl, rfl⟩
  rintro _ w21 ⟨rfl, rfl⟩ d11
  refine k_pickF ?_
  refine c_f rfl ?_
  -- the fields
  refine S.ldB (b := b3) ?_ rfl
  refine c_types_Fields S.holds hs.up ht0.up fun qa ca ta ga w22 e22 n22 hfa hca => ?_
  have S := S.new e22 n22
  (first | refine s_p ?_ | refine s_c (by omega) ?_)
  (first | refine s_p ?_ | refine s_c (by omega) ?_)
  (first | refine s_p ?_ | refine s_c (by omega) ?_)
  by_cases h5 : t.k = 5
  · obtain ⟨hmf, hws, hds, hlen, h16⟩ := fields_ok hm h5
    have hF : fieldsT ss t = (tysAt ss t.st, 0) := by rw [fieldsT, hm, decide_eq_true h5]; rfl
    rw [hF] at hfa hca S ⊢
    refine c_f rfl ?_
    generalize hT : tysAt ss t.st = ts at *
    have hfa : FdsG ta ga qa ts := hfa
    have hl17 : (ts.length : Int) ≤ 17 := by omega
    refine l_intro (ι := Nat) (fun i => [.int .i64 (wsum ((ts.take i).map fun u => (min (wF ss 40 u) 17)) : Nat), .bool ((ts.take i).any (dF ss 40)), .int .i64 i]) (fun i w' => i ≤ ts.length ∧ StX noX w _ w' _) (fun i => ts.length - i) 0 (by simp [wsum]) ⟨Nat.zero_le _, S⟩ ?_
    clear S
    rintro i d w23 ⟨hi, S⟩ K6 hK6
    simp only [List.getD_cons_zero, List.getD_cons_succ]
    (first | refine s_p ?_ | refine s_c (by omega) ?_)
    (first | refine s_p ?_ | refine s_c (by omega) ?_)
    have hle := wsum_le (fun u => (min (wF ss 40 u) 17)) ts i
    refine c_b (fun hlt => ?_) (fun hge => ?_)
    · have hlt : i < ts.length := by simpa using hlt
      obtain ⟨b1, o1, c1, rfl, hc1', hk1, ty1, ch1⟩ := hfa.at' i hlt
      have la : Le (ga i) (q.or (ta.or (un ga 0 ts.length))) := ⟨fun b o ho => .inr (.inr ⟨i, Nat.zero_le _, hlt, ho⟩)⟩
      have hmu := hmf _ (List.getElem_mem hlt)
      obtain ⟨hu1, hu17, hu0, hud⟩ := words_pos hmu
      (first | refine s_p ?_ | refine s_c (by omega) ?_)
      refine s_ldN (n := 5) hc1' (fun j v hj => by rw [Int.toNat_natCast]; exact S.at (hk1 j v hj)) ?_
      refine c_types_Words S.holds hs.up (ty1.up (l := la)) fun w24 e24 => ?_
      have S := S.go e24
      (first | refine s_p ?_ | refine s_c (by omega) ?_)
      (first | refine s_p ?_ | refine s_c (by omega) ?_)
      (first | refine s_p ?_ | refine s_c (by omega) ?_)
      refine s_ldN (n := 5) hc1' (fun j v hj => by rw [Int.toNat_natCast]; exact S.at (hk1 j v hj)) ?_
      refine c_types_Drops S.holds hs.up (ty1.up (l := la)) fun w25 e25 => ?_
      have S := S.go e25
      (first | refine s_p ?_ | refine s_c (by omega) ?_)
      (first | refine s_p ?_ | refine s_c (by omega) ?_)
      (first | refine s_p ?_ | refine s_c (by omega) ?_)
      rw [hu0, hud]
      refine j_borHR (b := decide ((0 : Int) ≠ 0)) (fun _ K2 hK2 => ?_) ?_
      · (first | refine s_p ?_ | refine s_c (by omega) ?_)
        exact hK2
      refine c_f rfl ?_
      (first | refine s_p ?_ | refine s_c (by omega) ?_)
      refine j_borH (c := (dropsT ss ts[i]).1) (fun _ K2 hK2 => hK2) ?_
      (first | refine s_p ?_ | refine s_c (by omega) ?_)
      have e1 : (wsum ((ts.take i).map fun u => (min (wF ss 40 u) 17)) : Int) + (wordsT ss ts[i]).1 = ((wsum ((ts.take (i + 1)).map fun u => (min (wF ss 40 u) 17)) : Nat) : Int) := by
        rw [wsum_take _ hlt, wordsT, if_pos hmu]; simp only; omega
      have e2 : ((ts.take i).any (dF ss 40) || (dropsT ss ts[i]).1) = (ts.take (i + 1)).any (dF ss 40) := by
        rw [List.take_succ_eq_append_getElem hlt, List.any_append, dropsT, if_pos hmu]; simp
      rw [e1, e2, show ((i : Int) + 1) = ((i + 1 : Nat) : Int) by omega]
      exact hK6 (i + 1) _ ⟨hlt, S⟩ (by omega)
    · have hge : i = ts.length := by
        have : ¬ i < ts.length := by simpa using hge
        omega
      subst hge
      rw [List.take_length]
      (first | refine s_p ?_ | refine s_c (by omega) ?_)
      rw [hws]
      refine j_bandH (c := true) (fun _ K2 hK2 => ?_) ?_
      · (first | refine s_p ?_ | refine s_c (by omega) ?_)
        rw [hds, beq_self_eq_true]; exact hK2
      refine j_bandH (c := true) (fun _ K2 hK2 => ?_) ?_
      · (first | refine s_p ?_ | refine s_c (by omega) ?_)
        (first | refine s_p ?_ | refine s_c (by omega) ?_)
        rw [decide_eq_true (by omega)]; exact hK2
      rw [show (decide (((wsum (ts.map fun u => (min (wF ss 40 u) 17)) : Nat) : Int) = ((wsum (ts.map fun u => (min (wF ss 40 u) 17)) : Nat) : Int)) && true && true) = true by simp]
      refine j_bandE (c := true) (fun _ K2 hK2 => ?_) fun w26 e26 => ?_
      · exact c_law06_awake fun w27 e27 => hK2 _ e27
      exact h _ (S.go e26).ext
  · have hF : fieldsT ss t = ([], 2) := by rw [fieldsT, hm, decide_eq_false h5]; rfl
    rw [hF]
    refine c_t rfl ?_
    (first | refine s_p ?_ | refine s_c (by omega) ?_)
    rw [words_one hm h5]
    refine j_bandE (c := true) (fun _ K2 hK2 => ?_) fun w26 e26 => ?_
    · exact c_law06_awake fun w27 e27 => hK2 _ e27
    exact h _ (S.go e26).ext
end Go.Proofs
end

section
namespace Go.Proofs.YtajllnahceaipaaDoor.open6
open Go.Sh Go.ChangeShapes Go.WideShapes Go.ChangeAt Go.RowKit
set_option maxRecDepth 100000
theorem gTab : Tryd.prog.globalNamed "internal/strconv.uint64pow10" = some 0 := by kernel_rfl
theorem gTabType : (Tryd.prog.globals[0]?).map (·.type) = some 135 := by kernel_rfl
theorem u135 : Tryd.prog.underlying 135 = some (.array 20 123) := by kernel_rfl
theorem u123 : Tryd.prog.underlying 123 = some (.int .u64) := by kernel_rfl
theorem cells135 : Tryd.prog.cellsOf 135 = 20 := by kernel_rfl
theorem cells123 : Tryd.prog.cellsOf 123 = 1 := by kernel_rfl
theorem laidTab : (Rows.laid_internal_strconv_uint64pow10 : DataW Unit) = Lib.tabData .u64 Lib.pow10Tab := by kernel_rfl
theorem table {W : World} (h : laidMetH Tryd.prog Rows.typesTextsRow.laid W) : TabG (all W) := by
  have h0 : laidMet Tryd.prog Rows.typesTextsRow.laid W := h
  have h1 : laidMet Tryd.prog [("internal/strconv.uint64pow10", Rows.laid_internal_strconv_uint64pow10)] W := laidMet.tail (laidMet.tail h0)
  rw [laidTab] at h1
  have ht : Lib.TabIs Tryd.prog W "internal/strconv.uint64pow10" .u64 Lib.pow10Tab := Lib.tabIs_of_head (rest := []) gTab gTabType u135 u123 cells123 cells135 h1
  intro w' hw
  unfold Lib.TabIs World.var? at ht ⊢
  rw [gTab] at ht ⊢
  simp only [Option.bind] at ht ⊢
  cases ho : W.heap[0]? with
  | none => rw [ho] at ht; cases ht
  | some o => rw [hw 0 o ho]; rw [ho] at ht; exact ht
theorem str_list (s : ByteArray) : ∃ l, s = bs l := ⟨s.data.toList, by cases s; simp [bs]⟩
end Go.Proofs.YtajllnahceaipaaDoor.open6
end

section
namespace Go.Proofs.YtajllnahceaipaaDoor.open6
open Go.Sh Go.ChangeShapes Go.WideShapes Go.ChangeAt Go.RowKit
set_option maxRecDepth 100000
set_option linter.unusedSimpArgs false
set_option linter.unusedVariables false
theorem sl_open {H : Type} {enc : TypeId × Value → H} {W : World} {base : Nat} {v : Value} {d : DataW H} {p : List MemPlace} {T e : TypeId} {ts : List TypeId} (u : Tryd.prog.underlying T = some (.slice e)) (hp : plainS Tryd.prog ts = true) (ht : T ∈ ts)
    (hv : Value.okWide Tryd.prog W .any base T v) (h : DataW.Trod enc Tryd.prog W 0 (fun _ => true) true T v d p) :
    ∃ q cap es, v = .slice q (List.length es) cap ∧ (q = none → cap = 0) ∧ es.length ≤ cap ∧ RepS (all W) (Tryd.prog.cellsOf e) q 0 es ∧ es.length ≤ maxLen ∧ ∀ x ∈ es, x.ok Tryd.prog e := by
  obtain ⟨a0, len, cap, rfl⟩ := Go.WideShapes.okWide_slice u hv
  obtain ⟨fuel, hf⟩ := h
  obtain ⟨d, hr, hd⟩ := rep_of_trod hp fuel T _ _ ht hf
  obtain ⟨es, rfl, hl, hk⟩ := dat_sl u hd
  obtain ⟨q, cap', hq, h1, h2, h3⟩ := hr
  have hq : [Value.slice a0 len cap] = [.slice q es.length cap'] := hq
  injection hq with hq
  exact ⟨q, cap', es, hq, h1, h2, h3, hl, hk⟩
theorem u68 : Tryd.prog.underlying 68 = some (.slice 3) := by kernel_rfl
theorem c3 : Tryd.prog.cellsOf 3 = 1 := by kernel_rfl
theorem plain68 : plainS Tryd.prog [68, 3] = true := by kernel_rfl
theorem ints_open {H : Type} {enc : TypeId × Value → H} {W : World} {base : Nat} {v : Value} {d : DataW H} {p : List MemPlace} (hv : Value.okWide Tryd.prog W .any base 68 v) (h : DataW.Trod enc Tryd.prog W 0 (fun _ => true) true 68 v d p) :
    ∃ q cap l, v = .slice q (List.length l) cap ∧ (q = none → cap = 0) ∧ l.length ≤ cap ∧ (Ob (all W) fun w => Sl w q (ints l)) ∧ ∀ n ∈ l, inI n := by
  obtain ⟨q, cap, es, rfl, h1, h2, h3, h4, h5⟩ := sl_open u68 plain68 (by simp) hv h
  obtain ⟨l, rfl, hg⟩ := list_map (f := Dat.int .i64) (G := inI) es fun x hx => by
    obtain ⟨n, rfl, hw⟩ := dat_int u3 (h5 x hx)
    exact ⟨n, rfl, wf_int hw⟩
  rw [List.length_map] at h2
  refine ⟨q, cap, l, by rw [List.length_map], h1, h2, fun w hw i v hi => ?_, hg⟩
  obtain ⟨n, hn, rfl⟩ : ∃ n, l[i]? = some n ∧ v = .int .i64 n := by
    rw [ints, List.getElem?_map] at hi
    cases hl : l[i]? with
    | none => rw [hl] at hi; cases hi
    | some n => rw [hl] at hi; exact ⟨n, rfl, (Option.some.inj hi).symm⟩
  obtain ⟨c, hc, hcc, hr⟩ := h3.get (i := i) (d := .int .i64 n) (by rw [List.getElem?_map, hn]; rfl)
  obtain rfl : c = _ := hr
  obtain ⟨b, off, rfl, ho⟩ := hcc 0 _ rfl
  refine ⟨b, off, rfl, ?_⟩
  have := ho w hw
  rw [c3] at this
  simpa using this
theorem u50 : Tryd.prog.underlying 50 = some (.slice 99) := by kernel_rfl
theorem c99 : Tryd.prog.cellsOf 99 = 2 := by kernel_rfl
theorem u99 : ∃ fs, Tryd.prog.underlying 99 = some (.struct fs) ∧ fs.toList.map (·.type) = [9, 97] := struct_of (by kernel_rfl)
theorem u97 : Tryd.prog.underlying 97 = some (.slice 101) := by kernel_rfl
theorem c101 : Tryd.prog.cellsOf 101 = 6 := by kernel_rfl
theorem u101 : ∃ fs, Tryd.prog.underlying 101 = some (.struct fs) ∧ fs.toList.map (·.type) = [9, 25] := struct_of (by kernel_rfl)
theorem plain50 : plainS Tryd.prog [50, 99, 9, 97, 101, 25, 22, 4, 3, 23] = true := by kernel_rfl
theorem fld_of_ok {d : Dat} (h : d.ok Tryd.prog 101) : ∃ f : ByteArray × TyD, d = fdat f ∧ f.2.good := by
  obtain ⟨ds, rfl, e0⟩ := dat_agg u101 h
  obtain ⟨d0, ds, rfl, h0, e1⟩ := okF_cons e0
  obtain ⟨d1, ds, rfl, h1, e2⟩ := okF_cons e1
  obtain rfl := okF_nil e2
  obtain ⟨s, rfl, _⟩ := dat_str h0
  obtain ⟨t, rfl, hg⟩ := ty_of_ok _ d1 (Nat.le_refl _) h1
  exact ⟨(s, t), rfl, hg⟩
theorem st_of_ok {d : Dat} (h : d.ok Tryd.prog 99) : ∃ s : StD, d = s.dat ∧ ∀ f ∈ s.fs, f.2.good := by
  obtain ⟨ds, rfl, e0⟩ := dat_agg u99 h
  obtain ⟨d0, ds, rfl, h0, e1⟩ := okF_cons e0
  obtain ⟨d1, ds, rfl, h1, e2⟩ := okF_cons e1
  obtain rfl := okF_nil e2
  obtain ⟨s, rfl, _⟩ := dat_str h0
  obtain ⟨es, rfl, hl, k4⟩ := dat_sl u97 h1
  obtain ⟨l, rfl, hg⟩ := list_map (f := fdat) (G := fun f => f.2.good) es fun x hx => fld_of_ok (k4 x hx)
  refine ⟨⟨s, l⟩, ?_, hg⟩
  rw [StD.dat, c101]
theorem structs_open {H : Type} {enc : TypeId × Value → H} {W : World} {base : Nat} {v : Value} {d : DataW H} {p : List MemPlace} (hv : Value.okWide Tryd.prog W .any base 50 v) (h : DataW.Trod enc Tryd.prog W 0 (fun _ => true) true 50 v d p) :
    ∃ q cap ss, v = .slice q (List.length ss) cap ∧ (q = none → cap = 0) ∧ ss.length ≤ cap ∧ StG (all W) q ss ∧ ∀ s ∈ ss, ∀ f ∈ s.fs, f.2.good := by
  obtain ⟨q, cap, es, rfl, h1, h2, h3, h4, h5⟩ := sl_open u50 plain50 (by simp) hv h
  obtain ⟨l, rfl, hg⟩ := list_map (f := StD.dat) (G := fun s => ∀ f ∈ s.fs, f.2.good) es fun x hx => st_of_ok (h5 x hx)
  rw [List.length_map] at h2
  rw [c99] at h3
  exact ⟨q, cap, l, by rw [List.length_map], h1, h2, h3, hg⟩
end Go.Proofs.YtajllnahceaipaaDoor.open6
end

section
namespace Go.Proofs.YtajllnahceaipaaDoor.typesNumbers
open Go.Sh Go.ChangeShapes Go.WideShapes Go.ChangeAt Go.RowKit open6
set_option maxRecDepth 100000
set_option linter.unusedVariables false

theorem contract (H : Type) (enc : TypeId × Value → H) (W : World) (base : Nat) (args : Array Value) (ds gs : List (DataW H)) (before : List MemPlace)
    (hval : ∀ (j : Nat) t v, Tryd.f9.params[j]? = some t → args[j]? = some v → Value.okWide Tryd.prog W .any base t v)
    (hW : DataW.Whole enc Tryd.prog Tryd.f9.params.toList Rows.typesNumbersSpec.vars false W args.toList ds gs before) (hL : laidMetH Tryd.prog Rows.typesNumbersRow.laid W) :
    Calls Tryd.prog 9 args W fun e W' => ∃ v, e = .returned v ∧ Rows.typesNumbersSpec.post enc Tryd.prog Tryd.f9 false true false false W args v W' := by
  have hW' := hW
  obtain ⟨p, q, hA, hV, rfl, hfz, hnd⟩ := hW
  rw [show Tryd.f9.params.toList = [50, 25, 3] by kernel_rfl] at hA
  obtain ⟨v0, vs0, d0, ds0, p0, q100, hargs, rfl, rfl, h0, r0⟩ := trodAll_cons hA
  obtain ⟨v1, vs1, d1, ds1, p1, q101, rfl, rfl, rfl, h1, r1⟩ := trodAll_cons r0
  obtain ⟨v2, vs2, d2, ds2, p2, q102, rfl, rfl, rfl, h2, r2⟩ := trodAll_cons r1
  obtain ⟨rfl, rfl, rfl⟩ := trodAll_nil r2
  obtain rfl : args = #[v0, v1, v2] := by cases args; simp_all
  obtain ⟨rfl, rfl⟩ := trodVars_none hV
  obtain ⟨q0, cap0, ss0, rfl, _, _, hs0, _⟩ := structs_open (hval 0 50 v0 (by kernel_rfl) rfl) h0
  obtain ⟨t1, ht1, hg1⟩ := ty_open (hval 1 25 v1 (by kernel_rfl) rfl) h1
  obtain ⟨n2, rfl, lo2, hi2, _⟩ := open_int u3 (hval 2 3 v2 (by kernel_rfl) rfl) h2
  refine Calls.mono (c_law06_TypesNumbers (K := fun v W' => v = .bool true ∧ Ext W W') (all_holds W) hs0 ht1 fun w' e => ⟨rfl, e⟩) ?_
  rintro e W' ⟨v, he, rfl, hE⟩
  exact ⟨_, he, post_told laidOut rowed full (by rw [show Tryd.f9.params.toList = [50, 25, 3] by kernel_rfl]; decide) rfl (by kernel_rfl) u4 hW' rfl hE⟩

def wit : Array Value := #[.slice none 0 0, .agg #[.int .u8 0, .bool false, .int .i64 0, .int .i64 0, .slice none 0 0], .int .i64 0]
theorem laid_met (os : Os) : laidMet Tryd.prog Rows.typesNumbersRow.laid ((laidWorld os).forCall (fun _ _ => 0) ⟨#[], wit, []⟩).memory :=
  laidMet_of_run' 8 (by kernel_rfl) (by kernel_rfl)
theorem reads (os : Os) {H : Type} (enc : TypeId × Value → H) : ∃ ds places, DataW.whole enc Tryd.prog ((laidWorld os).forCall (fun _ _ => 0) ⟨#[], wit, []⟩).memory Tryd.f9.params.toList Rows.typesNumbersSpec.vars false wit.toList 8 = some (ds, [], places) :=
  ⟨[.nil, .agg [.lit (.int .u8 0), .lit (.bool false), .lit (.int .i64 0), .lit (.int .i64 0), .nil], .lit (.int .i64 0)], [], by kernel_rfl⟩
theorem lifted (os : Os) (started : os.Started) (H : Type) (enc : TypeId × Value → H) (F : Stop.Interp) :
    ReturnsInHanded {} Tryd.checked os 9 .any ((OpenSpec.ofChange Rows.typesNumbersSpec).preRow enc Tryd.prog Tryd.f9 Rows.typesNumbersRow.domain false Rows.typesNumbersRow.laid) (((OpenSpec.ofChange Rows.typesNumbersSpec).at F).post enc Tryd.prog Tryd.f9 false true false false) := by
  obtain ⟨ds, places, hx⟩ := reads os enc
  refine returnsInHanded_of_row (C := Tryd.checked) (s := OpenSpec.ofChange Rows.typesNumbersSpec) own started (by kernel_rfl) Tryd.func9
    (witness_row_at (enc := enc) (C := Tryd.checked) false (laidWorld os) wit rfl (by kernel_rfl) (by kernel_rfl) (by kernel_rfl)
      (OpenSpec.preRow_of_cond 8 hx (by kernel_rfl) (fun k hk => by cases hk) (by kernel_rfl) (laid_met os))) ?_
  intro W base args ds gs before hval hW _ _ _ hL _ _
  exact contract H enc W base args ds gs before hval hW hL
theorem said : Rows.TypesNumbersSaid :=
  OpenClaim.holds_of_cond 9 Tryd.f9 rfl rfl rfl rfl rfl rfl rfl ⟨rfl, rfl, rfl, rfl, rfl⟩ rfl rfl rfl rfl rfl (by kernel_rfl) Tryd.func9 (by kernel_rfl)
    (of_decide_eq_true (by kernel_rfl)) (by unfold Func.isWrapper; first | (rw [if_pos (by decide +kernel)]; kernel_rfl) | (rw [if_neg (by decide +kernel)]; exact ⟨rfl, rfl⟩))
    (fun os started H enc _ F => by rw [OpenClaim.pre_eq_preRow]; exact lifted os started H enc F)
theorem plain (f : FuncId) (fn : Func) (hf : Tryd.pinned.checked.prog.funcNamed "loanword/loanwordlaw06.TypesNumbers" = some f) (hfn : Tryd.pinned.checked.prog.funcs[f]? = some fn) :
    true = Tryd.pinned.checked.prog.looks [] ∧ ∀ (j : Nat) t, fn.params[j]? = some t → Tryd.pinned.checked.prog.wantsStandIn t = false := by
  obtain rfl : f = 9 := Option.some.inj ((show Tryd.prog.funcNamed "loanword/loanwordlaw06.TypesNumbers" = some 9 by kernel_rfl).symm.trans hf) |>.symm
  obtain rfl : fn = Tryd.f9 := (Option.some.inj (Tryd.func9.symm.trans hfn)).symm
  refine ⟨by kernel_rfl, fun j t ht => ?_⟩
  have hall : (Tryd.f9.params.all fun t => !(Tryd.prog.wantsStandIn t)) = true := by kernel_rfl
  have := Array.all_eq_true_iff_forall_mem.1 hall t (Array.mem_of_getElem? ht)
  show Tryd.prog.wantsStandIn t = false
  simpa using this
theorem card : Rows.TypesNumbersCardSaid :=
  Claim7.holds_tied_plain_at .later [] _ _ _ _ said (fun _ h => by cases h) (by kernel_rfl) (fun _ h => by cases h) typesNumbers_row_tie rfl ⟨rfl, rfl⟩ (by kernel_rfl) rfl plain (by kernel_rfl)
end Go.Proofs.YtajllnahceaipaaDoor.typesNumbers
end
