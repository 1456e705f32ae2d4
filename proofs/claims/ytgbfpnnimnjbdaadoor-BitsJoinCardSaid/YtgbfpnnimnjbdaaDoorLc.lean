/-
  Layer 1, law: BitsJoin.
-/
import Derived.Test.YtgbfpnnimnjbdaaDoorGa
namespace Go.Proofs
open Go.Sh Go.BM
set_option maxRecDepth 100000

theorem c_law01_BitsJoin {w : World} {v1 v2 : Value} {W W2 : Int} {ws vs : List (BitVec 64)} {K : Value → World → Prop} (hT : Tab w) (hr : RowV w v1 W ws) (hq : RowV w v2 W2 vs)
    (h : ∀ w', Ext w w' → K (.bool true) w') : oCall Tryd.prog Tryd.n_law01_BitsJoin #[v1, v2] w K := by
  refine Tryd.ok_law01_BitsJoin ?_
  unfold Tryd.F_law01_BitsJoin
  have hr' := hr.all; have hq' := hq.all; have hT := hT.all
  obtain ⟨p, cap, rfl, _⟩ := hr
  obtain ⟨p', cap', rfl, _⟩ := hq
  have S := St.start (all_holds w)
  refine S.box fun b2 w1 S => ?_
  refine S.box fun b3 w2 S => ?_
  (repeat (first | refine s_p ?_ | refine s_c (by omega) ?_ | refine S.ld ?_ | refine S.ldB ?_ | refine S.ce ?_ | refine S.ceB ?_ | refine s_q ?_ | refine s_qc (by omega) ?_ | rw [List.getD_cons_zero] | rw [List.getD_cons_succ]))
  refine j_or (fun hbig => ?_) (fun hsm => ?_)
  · refine c_T ?_
    exact c_law01_awake (S.at hT) fun w2 e2 => h _ (S.go e2).ext
  intro K2 hK2
  (repeat (first | refine s_p ?_ | refine s_c (by omega) ?_ | refine S.ld ?_ | refine S.ldB ?_ | refine S.ce ?_ | refine S.ceB ?_ | refine s_q ?_ | refine s_qc (by omega) ?_ | rw [List.getD_cons_zero] | rw [List.getD_cons_succ]))
  refine hK2 _ _ ?_; clear hK2 K2
  refine c_if (fun hbig => ?_) (fun hsm2 => ?_)
  · exact c_law01_awake (S.at hT) fun w2 e2 => h _ (S.go e2).ext
  have hlen : ws.length ≤ 4096 := by omega
  have hlen2 : vs.length ≤ 4096 := by omega
  have S := S.go (Ext.drew _)
  refine j_intro (fun s w' => ∃ b5 b6 p5 cap5 p6 cap6 s5 s6, s = [.pointer (some ⟨b5, 0, none⟩), .pointer (some ⟨b6, 0, none⟩)] ∧
    St w (((all w).or s5).or s6) w' [.cell b6 [.int .i64 W2, .slice p6 vs.length cap6] 24, .cell b5 [.int .i64 W, .slice p5 ws.length cap5] 24, .cell b3 [.int .i64 W2, .slice p' vs.length cap'] 24, .cell b2 [.int .i64 W, .slice p ws.length cap] 24] ∧
    LentG s5 (.agg #[.int .i64 W, .slice p5 ws.length cap5]) W ws ∧ LentG s6 (.agg #[.int .i64 W2, .slice p6 vs.length cap6]) W2 vs) ?_ ?_
  · intro K8 hK8
    (repeat (first | refine s_p ?_ | refine s_c (by omega) ?_ | refine S.ld ?_ | refine S.ldB ?_ | refine S.ce ?_ | refine S.ceB ?_ | refine s_q ?_ | refine s_qc (by omega) ?_ | rw [List.getD_cons_zero] | rw [List.getD_cons_succ]))
    repeat' (first
      | refine ⟨e, ?_⟩
      | refine And.intro ?_ ?_
      | refine S.alU fun b w S => ?_
      | refine S.al fun b w S => ?_
      | refine S.stB fun w S => ?_
      | (refine c_law01_lent (S.at hr') hlen fun v7 w7 e hl7 => ?_
         obtain ⟨s5, n7, g5⟩ := hl7.gh
         obtain ⟨p5, cap5, rfl⟩ := hl7.shape
         obtain ⟨S, d5, u5⟩ := S.tell e n7)
      | (refine c_law01_lent (S.at hq') hlen2 fun v7 w7 e hl7 => ?_
         obtain ⟨s6, n7, g6⟩ := hl7.gh
         obtain ⟨p6, cap6, rfl⟩ := hl7.shape
         obtain ⟨S, d6, u6⟩ := S.tell e n7))
    all_goals first | exact hK8 _ _ ⟨_, _, _, _, _, _, _, _, rfl, S, g5, g6⟩ | exact hK8 _ _ ⟨_, _, _, _, _, _, _, _, rfl, S.swap, g5, g6⟩
  rintro s w3 ⟨b5, b6, p5, cap5, p6, cap6, s5, s6, rfl, S, g5, g6⟩ _
  refine l_intro (ι := Nat) (fun i => [.int .i64 i])
    (fun i w' => i ≤ 3 ∧ St w (((all w).or s5).or s6) w' [.cell b6 [.int .i64 W2, .slice p6 vs.length cap6] 24, .cell b5 [.int .i64 W, .slice p5 ws.length cap5] 24, .cell b3 [.int .i64 W2, .slice p' vs.length cap'] 24, .cell b2 [.int .i64 W, .slice p ws.length cap] 24])
    (fun i => 3 - i) 0 rfl ⟨Nat.zero_le _, S⟩ ?_
  clear S
  rintro i d w4 ⟨hi, S⟩ K3 hK3
  simp only [List.getD_cons_zero]
  (repeat (first | refine s_p ?_ | refine s_c (by omega) ?_ | refine S.ld ?_ | refine S.ldB ?_ | refine S.ce ?_ | refine S.ceB ?_ | refine s_q ?_ | refine s_qc (by omega) ?_ | rw [List.getD_cons_zero] | rw [List.getD_cons_succ]))
  refine c_if (fun hlt => ?_) (fun hge => ?_)
  · have hlt : i < 3 := by omega
    have hOl : (joinO (gW i) W ws W2 vs).ws.length ≤ 17 := joinO_length _ _ _ _ _
    generalize hO : joinO (gW i) W ws W2 vs = O at hOl
    refine S.al fun b8 w5 S => ?_
    refine S.al fun b9 w6 S => ?_
    refine j_intro (fun s w' => ∃ pa capa sa pb capb sb, s = [err O.e, err O.e] ∧
      St w (((((all w).or s5).or s6).or sa).or sb) w' [.cell b9 [.int .i64 O.W, .slice pb O.ws.length capb] 24, .cell b8 [.int .i64 O.W, .slice pa O.ws.length capa] 24,
        .cell b6 [.int .i64 W2, .slice p6 vs.length cap6] 24, .cell b5 [.int .i64 W, .slice p5 ws.length cap5] 24, .cell b3 [.int .i64 W2, .slice p' vs.length cap'] 24, .cell b2 [.int .i64 W, .slice p ws.length cap] 24] ∧
      Mut sa (.agg #[.int .i64 O.W, .slice pa O.ws.length capa]) O.W O.ws ∧ Mut sb (.agg #[.int .i64 O.W, .slice pb O.ws.length capb]) O.W O.ws ∧
      Dis sa (((all w).or s5).or s6) ∧ Dis sb ((((all w).or s5).or s6).or sa) ∧ Above w sa) ?_ ?_
    · intro K106 hK106
      (repeat (first | refine s_p ?_ | refine s_c (by omega) ?_ | refine S.ld ?_ | refine S.ldB ?_ | refine S.ce ?_ | refine S.ceB ?_ | refine s_q ?_ | refine s_qc (by omega) ?_ | rw [List.getD_cons_zero] | rw [List.getD_cons_succ]))
      refine c_if (fun h0 => ?_) (fun h0 => ?_)
      · obtain rfl : i = 0 := by omega
        (repeat (first | refine s_p ?_ | refine s_c (by omega) ?_ | refine S.ld ?_ | refine S.ldB ?_ | refine S.ce ?_ | refine S.ceB ?_ | refine s_q ?_ | refine s_qc (by omega) ?_ | rw [List.getD_cons_zero] | rw [List.getD_cons_succ]))
        refine c_bits_OrO (S.at g5.row) (S.at g6.row) fun va w10 e10 hfa => ?_
        rw [hO] at hfa ⊢
        obtain ⟨sa, na, ma⟩ := hfa.gh
        obtain ⟨pa, capa, rfl⟩ := ma.shape
        obtain ⟨S, da, ua⟩ := S.tell e10 na
        (repeat (first | refine s_p ?_ | refine s_c (by omega) ?_ | refine S.ld ?_ | refine S.ldB ?_ | refine S.ce ?_ | refine S.ceB ?_ | refine s_q ?_ | refine s_qc (by omega) ?_ | rw [List.getD_cons_zero] | rw [List.getD_cons_succ]))
        refine S.stB fun w11 S => ?_
        (repeat (first | refine s_p ?_ | refine s_c (by omega) ?_ | refine S.ld ?_ | refine S.ldB ?_ | refine S.ce ?_ | refine S.ceB ?_ | refine s_q ?_ | refine s_qc (by omega) ?_ | rw [List.getD_cons_zero] | rw [List.getD_cons_succ]))
        refine c_bits_OrO (S.at g5.row) (S.at g6.row) fun vb w12 e12 hfb => ?_
        rw [hO] at hfb ⊢
        obtain ⟨sb, nb, mb⟩ := hfb.gh
        obtain ⟨pb, capb, rfl⟩ := mb.shape
        obtain ⟨S, db, ub⟩ := S.tell e12 nb
        (repeat (first | refine s_p ?_ | refine s_c (by omega) ?_ | refine S.ld ?_ | refine S.ldB ?_ | refine S.ce ?_ | refine S.ceB ?_ | refine s_q ?_ | refine s_qc (by omega) ?_ | rw [List.getD_cons_zero] | rw [List.getD_cons_succ]))
        refine S.stB fun w13 S => ?_
        exact hK106 _ _ ⟨_, _, _, _, _, _, rfl, S, ma, mb, da, db, ua⟩
      (repeat (first | refine s_p ?_ | refine s_c (by omega) ?_ | refine S.ld ?_ | refine S.ldB ?_ | refine S.ce ?_ | refine S.ceB ?_ | refine s_q ?_ | refine s_qc (by omega) ?_ | rw [List.getD_cons_zero] | rw [List.getD_cons_succ]))
      refine c_if (fun h1 => ?_) (fun h1 => ?_)
      · obtain rfl : i = 1 := by omega
        (repeat (first | refine s_p ?_ | refine s_c (by omega) ?_ | refine S.ld ?_ | refine S.ldB ?_ | refine S.ce ?_ | refine S.ceB ?_ | refine s_q ?_ | refine s_qc (by omega) ?_ | rw [List.getD_cons_zero] | rw [List.getD_cons_succ]))
        refine c_bits_AndO (S.at g5.row) (S.at g6.row) fun va w10 e10 hfa => ?_
        rw [hO] at hfa ⊢
        obtain ⟨sa, na, ma⟩ := hfa.gh
        obtain ⟨pa, capa, rfl⟩ := ma.shape
        obtain ⟨S, da, ua⟩ := S.tell e10 na
        (repeat (first | refine s_p ?_ | refine s_c (by omega) ?_ | refine S.ld ?_ | refine S.ldB ?_ | refine S.ce ?_ | refine S.ceB ?_ | refine s_q ?_ | refine s_qc (by omega) ?_ | rw [List.getD_cons_zero] | rw [List.getD_cons_succ]))
        refine S.stB fun w11 S => ?_
        (repeat (first | refine s_p ?_ | refine s_c (by omega) ?_ | refine S.ld ?_ | refine S.ldB ?_ | refine S.ce ?_ | refine S.ceB ?_ | refine s_q ?_ | refine s_qc (by omega) ?_ | rw [List.getD_cons_zero] | rw [List.getD_cons_succ]))
        refine c_bits_AndO (S.at g5.row) (S.at g6.row) fun vb w12 e12 hfb => ?_
        rw [hO] at hfb ⊢
        obtain ⟨sb, nb, mb⟩ := hfb.gh
        obtain ⟨pb, capb, rfl⟩ := mb.shape
        obtain ⟨S, db, ub⟩ := S.tell e12 nb
        (repeat (first | refine s_p ?_ | refine s_c (by omega) ?_ | refine S.ld ?_ | refine S.ldB ?_ | refine S.ce ?_ | refine S.ceB ?_ | refine s_q ?_ | refine s_qc (by omega) ?_ | rw [List.getD_cons_zero] | rw [List.getD_cons_succ]))
        refine S.stB fun w13 S => ?_
        exact hK106 _ _ ⟨_, _, _, _, _, _, rfl, S, ma, mb, da, db, ua⟩
      obtain rfl : i = 2 := by omega
      (repeat (first | refine s_p ?_ | refine s_c (by omega) ?_ | refine S.ld ?_ | refine S.ldB ?_ | refine S.ce ?_ | refine S.ceB ?_ | refine s_q ?_ | refine s_qc (by omega) ?_ | rw [List.getD_cons_zero] | rw [List.getD_cons_succ]))
      refine c_bits_LessO (S.at g5.row) (S.at g6.row) fun va w10 e10 hfa => ?_
      rw [hO] at hfa ⊢
      obtain ⟨sa, na, ma⟩ := hfa.gh
      obtain ⟨pa, capa, rfl⟩ := ma.shape
      obtain ⟨S, da, ua⟩ := S.tell e10 na
      (repeat (first | refine s_p ?_ | refine s_c (by omega) ?_ | refine S.ld ?_ | refine S.ldB ?_ | refine S.ce ?_ | refine S.ceB ?_ | refine s_q ?_ | refine s_qc (by omega) ?_ | rw [List.getD_cons_zero] | rw [List.getD_cons_succ]))
      refine S.stB fun w11 S => ?_
      (repeat (first | refine s_p ?_ | refine s_c (by omega) ?_ | refine S.ld ?_ | refine S.ldB ?_ | refine S.ce ?_ | refine S.ceB ?_ | refine s_q ?_ | refine s_qc (by omega) ?_ | rw [List.getD_cons_zero] | rw [List.getD_cons_succ]))
      refine c_bits_LessO (S.at g5.row) (S.at g6.row) fun vb w12 e12 hfb => ?_
      rw [hO] at hfb ⊢
      obtain ⟨sb, nb, mb⟩ := hfb.gh
      obtain ⟨pb, capb, rfl⟩ := mb.shape
      obtain ⟨S, db, ub⟩ := S.tell e12 nb
      (repeat (first | refine s_p ?_ | refine s_c (by omega) ?_ | refine S.ld ?_ | refine S.ldB ?_ | refine S.ce ?_ | refine S.ceB ?_ | refine s_q ?_ | refine s_qc (by omega) ?_ | rw [List.getD_cons_zero] | rw [List.getD_cons_succ]))
      refine S.stB fun w13 S => ?_
      exact hK106 _ _ ⟨_, _, _, _, _, _, rfl, S, ma, mb, da, db, ua⟩
    rintro s w7 ⟨pa, capa, sa, pb, capb, sb, rfl, S, ma, mb, da, db, ua⟩ _
    (repeat (first | refine s_p ?_ | refine s_c (by omega) ?_ | refine S.ld ?_ | refine S.ldB ?_ | refine S.ce ?_ | refine S.ceB ?_ | refine s_q ?_ | refine s_qc (by omega) ?_ | rw [List.getD_cons_zero] | rw [List.getD_cons_succ]))
    refine c_ref01_JoinO (S.at hr') (S.at hq') hlt fun vc w14 e14 hfc => ?_
    rw [hO] at hfc ⊢
    obtain ⟨sc, nc, mc⟩ := hfc.gh
    obtain ⟨pc, capc, rfl⟩ := mc.shape
    obtain ⟨S, dc, uc⟩ := S.tell e14 nc
    (repeat (first | refine s_p ?_ | refine s_c (by omega) ?_ | refine S.ld ?_ | refine S.ldB ?_ | refine S.ce ?_ | refine S.ceB ?_ | refine s_q ?_ | refine s_qc (by omega) ?_ | rw [List.getD_cons_zero] | rw [List.getD_cons_succ]))
    refine S.al fun b12 w15 S => ?_
    refine S.stB fun w16 S => ?_
    (repeat (first | refine s_p ?_ | refine s_c (by omega) ?_ | refine S.ld ?_ | refine S.ldB ?_ | refine S.ce ?_ | refine S.ceB ?_ | refine s_q ?_ | refine s_qc (by omega) ?_ | rw [List.getD_cons_zero] | rw [List.getD_cons_succ]))
    refine j_or (fun hn => absurd rfl hn) (fun _ => ?_)
    intro K2 hK2; (repeat (first | refine s_p ?_ | refine s_c (by omega) ?_ | refine S.ld ?_ | refine S.ldB ?_ | refine S.ce ?_ | refine S.ceB ?_ | refine s_q ?_ | refine s_qc (by omega) ?_ | rw [List.getD_cons_zero] | rw [List.getD_cons_succ])); refine hK2 _ _ ?_; clear hK2 K2
    refine j_or (fun hn => absurd rfl hn) (fun _ => ?_)
    intro K2 hK2
    (repeat (first | refine s_p ?_ | refine s_c (by omega) ?_ | refine S.ld ?_ | refine S.ldB ?_ | refine S.ce ?_ | refine S.ceB ?_ | refine s_q ?_ | refine s_qc (by omega) ?_ | rw [List.getD_cons_zero] | rw [List.getD_cons_succ]))
    refine k_heldG S (q := ((((all w).or s5).or s6).or sb).or sc) ma mb.row.up mc.row.up ((da.or db.of).or dc.of) ua (by omega) fun w17 S => ?_
    (repeat (first | refine s_p ?_ | refine s_c (by omega) ?_ | refine S.ld ?_ | refine S.ldB ?_ | refine S.ce ?_ | refine S.ceB ?_ | refine s_q ?_ | refine s_qc (by omega) ?_ | rw [List.getD_cons_zero] | rw [List.getD_cons_succ]))
    refine hK2 _ _ ?_; clear hK2 K2
    refine c_F ?_
    (repeat (first | refine s_p ?_ | refine s_c (by omega) ?_ | refine S.ld ?_ | refine S.ldB ?_ | refine S.ce ?_ | refine S.ceB ?_ | refine s_q ?_ | refine s_qc (by omega) ?_ | rw [List.getD_cons_zero] | rw [List.getD_cons_succ]))
    exact hK3 (i + 1) _ ⟨hlt, (S.to (((all w).or s5).or s6)).tl.tl.tl⟩ (by omega)
  · clear hK3
    (repeat (first | refine s_p ?_ | refine s_c (by omega) ?_ | refine S.ld ?_ | refine S.ldB ?_ | refine S.ce ?_ | refine S.ceB ?_ | refine s_q ?_ | refine s_qc (by omega) ?_ | rw [List.getD_cons_zero] | rw [List.getD_cons_succ]))
    rcases (Classical.em (May W ws ∧ May W2 vs ∧ W = W2)).symm with hb | ⟨hm, hm2, rfl⟩
    · refine c_bits_Has (S.at hT) (S.at g5.row) (S.at g6.row) (fun _ w4 e4 => ?_) (fun h1 h2 h3 => absurd ⟨h1, h2, h3⟩ hb)
      have S := S.go e4
      (repeat (first | refine s_p ?_ | refine s_c (by omega) ?_ | refine S.ld ?_ | refine S.ldB ?_ | refine S.ce ?_ | refine S.ceB ?_ | refine s_q ?_ | refine s_qc (by omega) ?_ | rw [List.getD_cons_zero] | rw [List.getD_cons_succ]))
      refine c_bits_First (S.at hT) (S.at g5.row) (S.at g6.row) (fun _ w5 e5 => ?_) (fun h1 h2 h3 => absurd ⟨h1, h2, h3⟩ hb)
      have S := S.go e5
      (repeat (first | refine s_p ?_ | refine s_c (by omega) ?_ | refine S.ld ?_ | refine S.ldB ?_ | refine S.ce ?_ | refine S.ceB ?_ | refine s_q ?_ | refine s_qc (by omega) ?_ | rw [List.getD_cons_zero] | rw [List.getD_cons_succ]))
      refine c_ref01_Both (S.at hr') (S.at hq') fun w6 e6 => ?_
      have S := S.go e6
      have hbo : (mayB W ws && (mayB W2 vs && decide (W = W2))) = false := by
        cases hx : (mayB W ws && (mayB W2 vs && decide (W = W2))) with
        | false => rfl
        | true =>
          simp only [Bool.and_eq_true, decide_eq_true_eq] at hx
          exact absurd ⟨mayB_iff.1 hx.1, mayB_iff.1 hx.2.1, hx.2.2⟩ hb
      rw [hbo]
      (repeat (first | refine s_p ?_ | refine s_c (by omega) ?_ | refine S.ld ?_ | refine S.ldB ?_ | refine S.ce ?_ | refine S.ceB ?_ | refine s_q ?_ | refine s_qc (by omega) ?_ | rw [List.getD_cons_zero] | rw [List.getD_cons_succ]))
      (repeat (first | refine s_p ?_ | refine s_c (by omega) ?_ | refine S.ld ?_ | refine S.ldB ?_ | refine S.ce ?_ | refine S.ceB ?_ | refine s_q ?_ | refine s_qc (by omega) ?_ | rw [List.getD_cons_zero] | rw [List.getD_cons_succ]))
      refine j_andB (fun hn => by cases hn) (fun _ => ?_)
      intro K2 hK2; (repeat (first | refine s_p ?_ | refine s_c (by omega) ?_ | refine S.ld ?_ | refine S.ldB ?_ | refine S.ce ?_ | refine S.ceB ?_ | refine s_q ?_ | refine s_qc (by omega) ?_ | rw [List.getD_cons_zero] | rw [List.getD_cons_succ])); refine hK2 _ _ ?_; clear hK2 K2
      refine j_and (fun hn => absurd rfl hn) (fun _ => ?_)
      intro K2 hK2; (repeat (first | refine s_p ?_ | refine s_c (by omega) ?_ | refine S.ld ?_ | refine S.ldB ?_ | refine S.ce ?_ | refine S.ceB ?_ | refine s_q ?_ | refine s_qc (by omega) ?_ | rw [List.getD_cons_zero] | rw [List.getD_cons_succ])); refine hK2 _ _ ?_; clear hK2 K2
      refine j_andB (fun hn => by cases hn) (fun _ => ?_)
      intro K2 hK2; (repeat (first | refine s_p ?_ | refine s_c (by omega) ?_ | refine S.ld ?_ | refine S.ldB ?_ | refine S.ce ?_ | refine S.ceB ?_ | refine s_q ?_ | refine s_qc (by omega) ?_ | rw [List.getD_cons_zero] | rw [List.getD_cons_succ])); refine hK2 _ _ ?_; clear hK2 K2
      refine j_and (fun hn => absurd rfl hn) (fun _ => ?_)
      intro K2 hK2; (repeat (first | refine s_p ?_ | refine s_c (by omega) ?_ | refine S.ld ?_ | refine S.ldB ?_ | refine S.ce ?_ | refine S.ceB ?_ | refine s_q ?_ | refine s_qc (by omega) ?_ | rw [List.getD_cons_zero] | rw [List.getD_cons_succ])); refine hK2 _ _ ?_; clear hK2 K2
      refine j_and (fun hn => absurd rfl hn) (fun _ => ?_)
      intro K2 hK2; (repeat (first | refine s_p ?_ | refine s_c (by omega) ?_ | refine S.ld ?_ | refine S.ldB ?_ | refine S.ce ?_ | refine S.ceB ?_ | refine s_q ?_ | refine s_qc (by omega) ?_ | rw [List.getD_cons_zero] | rw [List.getD_cons_succ]))
      obtain ⟨_, l5⟩ := S.at g5
      refine c_law01_kept l5 (S.at hr') hlen fun w7 e7 => ?_
      have S := S.go e7
      refine hK2 _ _ ?_; clear hK2 K2
      refine j_andB (fun hn => by cases hn) (fun _ => ?_)
      intro K2 hK2; (repeat (first | refine s_p ?_ | refine s_c (by omega) ?_ | refine S.ld ?_ | refine S.ldB ?_ | refine S.ce ?_ | refine S.ceB ?_ | refine s_q ?_ | refine s_qc (by omega) ?_ | rw [List.getD_cons_zero] | rw [List.getD_cons_succ]))
      obtain ⟨_, l6⟩ := S.at g6
      refine c_law01_kept l6 (S.at hq') hlen2 fun w8 e8 => ?_
      have S := S.go e8
      refine hK2 _ _ ?_; clear hK2 K2
      refine j_andB (fun hn => by cases hn) (fun _ => ?_)
      intro K2 hK2
      refine c_law01_awake (S.at hT) fun w9 e9 => ?_
      refine hK2 _ _ ?_
      exact h _ (S.go e9).ext
    · refine c_bits_Has (S.at hT) (S.at g5.row) (S.at g6.row) (fun hn => absurd ⟨hm, hm2, rfl⟩ hn) (fun _ _ _ w4 e4 => ?_)
      have S := S.go e4
      (repeat (first | refine s_p ?_ | refine s_c (by omega) ?_ | refine S.ld ?_ | refine S.ldB ?_ | refine S.ce ?_ | refine S.ceB ?_ | refine s_q ?_ | refine s_qc (by omega) ?_ | rw [List.getD_cons_zero] | rw [List.getD_cons_succ]))
      refine c_bits_First (S.at hT) (S.at g5.row) (S.at g6.row) (fun hn => absurd ⟨hm, hm2, rfl⟩ hn) (fun _ _ _ w5 e5 => ?_)
      have S := S.go e5
      unfold firstV
      (repeat (first | refine s_p ?_ | refine s_c (by omega) ?_ | refine S.ld ?_ | refine S.ldB ?_ | refine S.ce ?_ | refine S.ceB ?_ | refine s_q ?_ | refine s_qc (by omega) ?_ | rw [List.getD_cons_zero] | rw [List.getD_cons_succ]))
      refine c_ref01_Both (S.at hr') (S.at hq') fun w6 e6 => ?_
      have S := S.go e6
      rw [mayB_true hm, mayB_true hm2, decide_eq_true rfl]
      (repeat (first | refine s_p ?_ | refine s_c (by omega) ?_ | refine S.ld ?_ | refine S.ldB ?_ | refine S.ce ?_ | refine S.ceB ?_ | refine s_q ?_ | refine s_qc (by omega) ?_ | rw [List.getD_cons_zero] | rw [List.getD_cons_succ]))
      (repeat (first | refine s_p ?_ | refine s_c (by omega) ?_ | refine S.ld ?_ | refine S.ldB ?_ | refine S.ce ?_ | refine S.ceB ?_ | refine s_q ?_ | refine s_qc (by omega) ?_ | rw [List.getD_cons_zero] | rw [List.getD_cons_succ]))
      refine c_ref01_First (S.at hr') (S.at hq') hm hm2 fun w10 e10 => ?_
      have S := S.go e10
      (repeat (first | refine s_p ?_ | refine s_c (by omega) ?_ | refine S.ld ?_ | refine S.ldB ?_ | refine S.ce ?_ | refine S.ceB ?_ | refine s_q ?_ | refine s_qc (by omega) ?_ | rw [List.getD_cons_zero] | rw [List.getD_cons_succ]))
      refine j_and (fun hn => absurd rfl hn) (fun _ => ?_)
      intro K2 hK2; (repeat (first | refine s_p ?_ | refine s_c (by omega) ?_ | refine S.ld ?_ | refine S.ldB ?_ | refine S.ce ?_ | refine S.ceB ?_ | refine s_q ?_ | refine s_qc (by omega) ?_ | rw [List.getD_cons_zero] | rw [List.getD_cons_succ])); refine hK2 _ _ ?_; clear hK2 K2
      refine j_and (fun hn => absurd rfl hn) (fun _ => ?_)
      intro K2 hK2; (repeat (first | refine s_p ?_ | refine s_c (by omega) ?_ | refine S.ld ?_ | refine S.ldB ?_ | refine S.ce ?_ | refine S.ceB ?_ | refine s_q ?_ | refine s_qc (by omega) ?_ | rw [List.getD_cons_zero] | rw [List.getD_cons_succ])); refine hK2 _ _ ?_; clear hK2 K2
      refine j_andB (fun hn => by simp at hn) (fun _ => ?_)
      intro K2 hK2; (repeat (first | refine s_p ?_ | refine s_c (by omega) ?_ | refine S.ld ?_ | refine S.ldB ?_ | refine S.ce ?_ | refine S.ceB ?_ | refine s_q ?_ | refine s_qc (by omega) ?_ | rw [List.getD_cons_zero] | rw [List.getD_cons_succ])); refine hK2 _ _ ?_; clear hK2 K2
      refine j_and (fun hn => absurd rfl hn) (fun _ => ?_)
      intro K2 hK2; (repeat (first | refine s_p ?_ | refine s_c (by omega) ?_ | refine S.ld ?_ | refine S.ldB ?_ | refine S.ce ?_ | refine S.ceB ?_ | refine s_q ?_ | refine s_qc (by omega) ?_ | rw [List.getD_cons_zero] | rw [List.getD_cons_succ])); refine hK2 _ _ ?_; clear hK2 K2
      refine j_andB (fun hn => by simp at hn) (fun _ => ?_)
      intro K2 hK2; (repeat (first | refine s_p ?_ | refine s_c (by omega) ?_ | refine S.ld ?_ | refine S.ldB ?_ | refine S.ce ?_ | refine S.ceB ?_ | refine s_q ?_ | refine s_qc (by omega) ?_ | rw [List.getD_cons_zero] | rw [List.getD_cons_succ]))
      obtain ⟨_, l5⟩ := S.at g5
      refine c_law01_kept l5 (S.at hr') hlen fun w7 e7 => ?_
      have S := S.go e7
      refine hK2 _ _ ?_; clear hK2 K2
      refine j_andB (fun hn => by cases hn) (fun _ => ?_)
      intro K2 hK2; (repeat (first | refine s_p ?_ | refine s_c (by omega) ?_ | refine S.ld ?_ | refine S.ldB ?_ | refine S.ce ?_ | refine S.ceB ?_ | refine s_q ?_ | refine s_qc (by omega) ?_ | rw [List.getD_cons_zero] | rw [List.getD_cons_succ]))
      obtain ⟨_, l6⟩ := S.at g6
      refine c_law01_kept l6 (S.at hq') hlen2 fun w8 e8 => ?_
      have S := S.go e8
      refine hK2 _ _ ?_; clear hK2 K2
      refine j_andB (fun hn => by cases hn) (fun _ => ?_)
      intro K2 hK2
      refine c_law01_awake (S.at hT) fun w9 e9 => ?_
      refine hK2 _ _ ?_
      exact h _ (S.go e9).ext
end Go.Proofs
