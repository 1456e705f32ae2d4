/-
  Contracts: awake.
-/
import Derived.Test.YtajllnahceaipaaDoorTr
namespace Go.Proofs
open Go.Sh
set_option maxRecDepth 100000
set_option linter.unusedSimpArgs false

def awA : TyD := refD true 0 (refD false 1 i64D)
def awB : TyD := refD true 2 (refD false 3 i64D)
def awS : List UInt8 := [38, 39, 48, 32, 109, 117, 116, 32, 38, 39, 49, 32, 105, 54, 52]
theorem aw_asks : asksT awA awB = ([(0, 2), (1, 3), (3, 1)], 0) := by decide +kernel
theorem aw_text : textT awA = (awS, 0) := by decide +kernel
theorem aw_read : readT awS = (awA, 0, 0) := by rfl
theorem aw_look : lookB 0 48 awA = true := by decide +kernel
theorem aw_same : alikeT fEq awA awA = true := by decide +kernel
theorem aw_copies : copiesB awA = false := by decide +kernel
theorem c_law06_awake {w : World} {K : Value → World → Prop} (h : ∀ w', Ext w w' → K (.bool true) w') : oCall Tryd.prog Tryd.n_law06_awake #[] w K := by
  refine Tryd.ok_law06_awake ?_
  unfold Tryd.F_law06_awake
  have S := St.start (r := nothing) (w := w) (fun _ _ h => h.elim)
  refine c_law06_i64 fun v1 w1 e1 h1 => ?_
  have S := S.go e1
  refine c_law06_ref S.holds h1 fun v2 s2 w2 e2 n2 h2 => ?_
  have S := S.new e2 n2
  refine c_law06_ref S.holds h2 fun v3 s3 w3 e3 n3 h3 => ?_
  have S := S.new e3 n3
  have h3' := h3
  obtain ⟨p3, cap3, rfl, _⟩ := h3
  refine S.al fun b1 w4 S => ?_
  refine S.stB fun w5 S => ?_
  have S := S.go (Ext.drew _)
  (repeat (first | refine s_p ?_ | refine s_c (by omega) ?_ | refine S.ld ?_ | refine S.ldB ?_ | refine S.ce ?_ | refine S.ceB ?_ | refine s_q ?_ | refine s_qc (by omega) ?_ | refine n_some ?_ | rw [List.getD_cons_zero] | rw [List.getD_cons_succ]))
  refine c_law06_i64 fun v6 w6 e6 h6 => ⟨e6, ?_⟩
  have S := S.go e6
  refine c_law06_ref S.holds (h6.up (l := inferInstance)) fun v7 s7 w7 e7 n7 h7 => ⟨e7, ?_⟩
  have S := S.new e7 n7
  refine c_law06_ref S.holds h7 fun v8 s8 w8 e8 n8 h8 => ⟨e8, ?_⟩
  have S := S.new e8 n8
  have hA := h3'.up (s := ((((nothing.or s2).or s3).or s7).or s8))
  refine c_types_Asks S.holds hA h8 fun v9 w9 e9 o9 => ?_
  rw [show asksT (refD true 0 (refD false 1 i64D)) (refD true 2 (refD false 3 i64D)) = ([(0, 2), (1, 3), (3, 1)], 0) from aw_asks] at o9 ⊢
  have S := S.take e9 o9
  obtain ⟨p9, cap9, rfl, hp9, _, _, _⟩ := S.rowS v9
  (repeat (first | refine s_p ?_ | refine s_c (by omega) ?_ | refine S.ld ?_ | refine S.ldB ?_ | refine S.ce ?_ | refine S.ceB ?_ | refine s_q ?_ | refine s_qc (by omega) ?_ | refine n_some ?_ | rw [List.getD_cons_zero] | rw [List.getD_cons_succ]))
  have hI : NumsOK ((((nothing.or s2).or s3).or s7).or s8) awA := by
    intro u hu
    have hu : u = awA ∨ u = refD false 1 i64D ∨ u = i64D := by
      have e : awA.chain = [awA, refD false 1 i64D, i64D] := rfl
      rw [e] at hu; simpa using hu
    rcases hu with rfl | rfl | rfl
    · exact ⟨fun _ => itoa_ok_small (by decide) (by decide), fun _ => itoa_ok_small (by decide) (by decide)⟩
    · exact ⟨fun _ => itoa_ok_small (by decide) (by decide), fun _ => itoa_ok_small (by decide) (by decide)⟩
    · exact ⟨fun _ => itoa_ok_small (by decide) (by decide), fun _ => itoa_ok_small (by decide) (by decide)⟩
  refine c_types_Text S.holds hA hI fun w10 e10 => ?_
  rw [show textT (refD true 0 (refD false 1 i64D)) = (awS, 0) from aw_text]
  have S := S.go e10
  (repeat (first | refine s_p ?_ | refine s_c (by omega) ?_ | refine S.ld ?_ | refine S.ldB ?_ | refine S.ce ?_ | refine S.ceB ?_ | refine s_q ?_ | refine s_qc (by omega) ?_ | refine n_some ?_ | rw [List.getD_cons_zero] | rw [List.getD_cons_succ]))
  refine c_types_Read (s := awS) S.holds (by decide) fun v11 s11 w11 e11 n11 h11 => ?_
  rw [aw_read] at h11 ⊢
  have S := S.new e11 n11
  have h11' := h11
  obtain ⟨p11, cap11, rfl, _⟩ := h11
  (repeat (first | refine s_p ?_ | refine s_c (by omega) ?_ | refine S.ld ?_ | refine S.ldB ?_ | refine S.ce ?_ | refine S.ceB ?_ | refine s_q ?_ | refine s_qc (by omega) ?_ | refine n_some ?_ | rw [List.getD_cons_zero] | rw [List.getD_cons_succ]))
  refine S.al fun b12 w12 S => ?_
  refine S.stB fun w13 S => ?_
  (repeat (first | refine s_p ?_ | refine s_c (by omega) ?_ | refine S.ld ?_ | refine S.ldB ?_ | refine S.ce ?_ | refine S.ceB ?_ | refine s_q ?_ | refine s_qc (by omega) ?_ | refine n_some ?_ | rw [List.getD_cons_zero] | rw [List.getD_cons_succ]))
  refine c_types_Words_none S.holds hA.up fun w14 e14 => ?_
  rw [show lookB 0 48 (refD true 0 (refD false 1 i64D)) = true from aw_look, if_pos rfl]
  have S := S.go e14
  (repeat (first | refine s_p ?_ | refine s_c (by omega) ?_ | refine S.ld ?_ | refine S.ldB ?_ | refine S.ce ?_ | refine S.ceB ?_ | refine s_q ?_ | refine s_qc (by omega) ?_ | refine n_some ?_ | rw [List.getD_cons_zero] | rw [List.getD_cons_succ]))
  refine j_bandH (c := true) (fun _ K2 hK2 => ?_) ?_
  · (repeat (first | refine s_p ?_ | refine s_c (by omega) ?_ | refine S.ld ?_ | refine S.ldB ?_ | refine S.ce ?_ | refine S.ceB ?_ | refine s_q ?_ | refine s_qc (by omega) ?_ | refine n_some ?_ | rw [List.getD_cons_zero] | rw [List.getD_cons_succ]))
    exact hK2
  refine j_bandH (c := true) (fun _ K2 hK2 => ?_) ?_
  · obtain ⟨_, _, hv, _, _, _, hs⟩ := S.rowS (.slice p9 3 cap9)
    cases hv
    obtain ⟨b9, off9, rfl, _⟩ := hs.at (i := 0) (by decide)
    refine s_c ⟨by decide, by decide⟩ ?_
    refine s_ldN (n := 2) (c := [.int .i64 3, .int .i64 1]) rfl (fun j v hj => ?_) ?_
    · have hx : (cons2 [(0, 2), (1, 3), (3, 1)])[4 + j]? = some v := by
        rw [← hj]
        show ([.int .i64 0, .int .i64 2, .int .i64 1, .int .i64 3, .int .i64 3, .int .i64 1] : List Value)[4 + j]? = _
        rw [Nat.add_comm]; rfl
      obtain ⟨b, off, hp, hc⟩ := hs _ _ hx
      cases hp
      rw [← hc]; congr 2; simp; omega
    (repeat (first | refine s_p ?_ | refine s_c (by omega) ?_ | refine S.ld ?_ | refine S.ldB ?_ | refine S.ce ?_ | refine S.ceB ?_ | refine s_q ?_ | refine s_qc (by omega) ?_ | refine n_some ?_ | rw [List.getD_cons_zero] | rw [List.getD_cons_succ]))
    exact hK2
  refine j_bandH (c := true) (fun _ K2 hK2 => ?_) ?_
  · (repeat (first | refine s_p ?_ | refine s_c (by omega) ?_ | refine S.ld ?_ | refine S.ldB ?_ | refine S.ce ?_ | refine S.ceB ?_ | refine s_q ?_ | refine s_qc (by omega) ?_ | refine n_some ?_ | rw [List.getD_cons_zero] | rw [List.getD_cons_succ]))
    exact hK2
  refine j_bandH (c := true) (fun _ K2 hK2 => ?_) ?_
  · (repeat (first | refine s_p ?_ | refine s_c (by omega) ?_ | refine S.ld ?_ | refine S.ldB ?_ | refine S.ce ?_ | refine S.ceB ?_ | refine s_q ?_ | refine s_qc (by omega) ?_ | refine n_some ?_ | rw [List.getD_cons_zero] | rw [List.getD_cons_succ]))
    exact hK2
  refine j_bandH (c := true) (fun _ K2 hK2 => ?_) ?_
  · (repeat (first | refine s_p ?_ | refine s_c (by omega) ?_ | refine S.ld ?_ | refine S.ldB ?_ | refine S.ce ?_ | refine S.ceB ?_ | refine s_q ?_ | refine s_qc (by omega) ?_ | refine n_some ?_ | rw [List.getD_cons_zero] | rw [List.getD_cons_succ]))
    exact hK2
  refine j_bandH (c := true) (fun _ K2 hK2 => ?_) ?_
  · (repeat (first | refine s_p ?_ | refine s_c (by omega) ?_ | refine S.ld ?_ | refine S.ldB ?_ | refine S.ce ?_ | refine S.ceB ?_ | refine s_q ?_ | refine s_qc (by omega) ?_ | refine n_some ?_ | rw [List.getD_cons_zero] | rw [List.getD_cons_succ]))
    exact hK2
  refine j_bandE (c := true) (fun _ K2 hK2 => ?_) fun w15 e15 => ?_
  · (repeat (first | refine s_p ?_ | refine s_c (by omega) ?_ | refine S.ld ?_ | refine S.ldB ?_ | refine S.ce ?_ | refine S.ceB ?_ | refine s_q ?_ | refine s_qc (by omega) ?_ | refine n_some ?_ | rw [List.getD_cons_zero] | rw [List.getD_cons_succ]))
    refine c_types_Same S.holds (a := awA) (b := awA) h11'.up hA.up fun w16 e16 => ?_
    rw [aw_same]
    exact hK2 _ e16
  have S := S.go e15
  refine j_bandH (c := true) (fun _ K2 hK2 => ?_) ?_
  · (repeat (first | refine s_p ?_ | refine s_c (by omega) ?_ | refine S.ld ?_ | refine S.ldB ?_ | refine S.ce ?_ | refine S.ceB ?_ | refine s_q ?_ | refine s_qc (by omega) ?_ | refine n_some ?_ | rw [List.getD_cons_zero] | rw [List.getD_cons_succ]))
    exact hK2
  refine j_bandH (c := true) (fun _ K2 hK2 => ?_) ?_
  · (repeat (first | refine s_p ?_ | refine s_c (by omega) ?_ | refine S.ld ?_ | refine S.ldB ?_ | refine S.ce ?_ | refine S.ceB ?_ | refine s_q ?_ | refine s_qc (by omega) ?_ | refine n_some ?_ | rw [List.getD_cons_zero] | rw [List.getD_cons_succ]))
    exact hK2
  refine j_bandE (c := true) (fun _ K2 hK2 => ?_) fun w17 e17 => ?_
  · (repeat (first | refine s_p ?_ | refine s_c (by omega) ?_ | refine S.ld ?_ | refine S.ldB ?_ | refine S.ce ?_ | refine S.ceB ?_ | refine s_q ?_ | refine s_qc (by omega) ?_ | refine n_some ?_ | rw [List.getD_cons_zero] | rw [List.getD_cons_succ]))
    refine c_types_May_none S.holds hA.up fun w16 e16 => ?_
    rw [show lookB 0 48 (refD true 0 (refD false 1 i64D)) = true from aw_look]
    exact hK2 _ e16
  have S := S.go e17
  refine j_bandE (c := true) (fun _ K2 hK2 => ?_) fun w18 e18 => ?_
  · (repeat (first | refine s_p ?_ | refine s_c (by omega) ?_ | refine S.ld ?_ | refine S.ldB ?_ | refine S.ce ?_ | refine S.ceB ?_ | refine s_q ?_ | refine s_qc (by omega) ?_ | refine n_some ?_ | rw [List.getD_cons_zero] | rw [List.getD_cons_succ]))
    refine c_types_Copies S.holds hA.up fun w16 e16 => ?_
    rw [show copiesB (refD true 0 (refD false 1 i64D)) = false from aw_copies]
    (first | refine s_p ?_ | refine s_c (by omega) ?_)
    exact hK2 _ e16
  exact h _ (S.go e18).ext
end Go.Proofs
