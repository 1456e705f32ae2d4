/-
  Contracts: the reader of types' texts: kind.
-/
import Derived.Test.YtajllnahceaipaaDoorTo
namespace Go.Proofs
open Go.Sh
set_option maxRecDepth 100000
set_option linter.unusedSimpArgs false

theorem kind_step {s : List UInt8} {rec : Nat → Rd' TyD} {left : Nat} (hl : left ≤ 1000) (hrec : 1 < left → ∃ m, left = m + 1 ∧ KindC s rec m) : KindC s (kindS s rec left) left := by
  intro X w0 w r L rb a K Kp S ha hs h hkp
  have nf : ∀ {P : Prop}, false = true → P := fun h => by cases h
  refine Tryd.ok_types_reader_kind ?_
  unfold Tryd.F_types_reader_kind
  refine S.alM fun b4 w1 hb4 _ S => ?_
  have S := S.swap
  (first | refine s_p ?_ | refine s_c (by omega) ?_)
  rw [show decide ((1 : Int) < (left : Int)) = decide (1 < left) from decide_eq_decide.2 (by omega)]
  refine c_comes S ha fun w2 S => ?_
  refine c_b (fun hc => ?_) (fun hc => ?_)
  · have hc : cmB s a [105] = true := hc
    have hR : kindS s rec left a = bd (tkR s [105, 54, 52] a) fun _ a => (a, some (.mk 1 false 0 0 [])) := by rw [kindS, if_pos hc]
    rw [hR] at h hkp; clear hR
    refine c_tk S ha hs (by decide) (fun a1 w3 ha1 S e1 => ?_) (fun a1 w3 S e1 => ⟨nf, hkp a1 w3 (by rw [e1]; rfl) S.d1⟩)
    (first | refine s_p ?_ | refine s_c (by omega) ?_)
    refine S.stB fun w4 S => ?_
    (repeat (first | refine s_p ?_ | refine s_c (by omega) ?_ | refine S.ld ?_ | refine S.ldB ?_ | refine S.ce ?_ | refine S.ceB ?_ | refine s_q ?_ | refine s_qc (by omega) ?_ | refine n_some ?_ | rw [List.getD_cons_zero] | rw [List.getD_cons_succ]))
    exact h _ _ nothing a1 _ (by rw [e1]; rfl) ha1 (S.d1.to (r.or nothing)) (fun _ _ h => h.elim) ty_leaf
  have hc1 : cmB s a [105] = false := hc
  refine c_comes S ha fun w3 S => ?_
  refine c_b (fun hc => ?_) (fun hc => ?_)
  · have hc : cmB s a [98] = true := hc
    have hR : kindS s rec left a = bd (tkR s [98, 111, 111, 108] a) fun _ a => (a, some (.mk 2 false 0 0 [])) := by rw [kindS, if_neg (by rw [hc1]; simp), if_pos hc]
    rw [hR] at h hkp; clear hR
    refine c_tk S ha hs (by decide) (fun a1 w3 ha1 S e1 => ?_) (fun a1 w3 S e1 => ⟨nf, hkp a1 w3 (by rw [e1]; rfl) S.d1⟩)
    (first | refine s_p ?_ | refine s_c (by omega) ?_)
    refine S.stB fun w4 S => ?_
    (repeat (first | refine s_p ?_ | refine s_c (by omega) ?_ | refine S.ld ?_ | refine S.ldB ?_ | refine S.ce ?_ | refine S.ceB ?_ | refine s_q ?_ | refine s_qc (by omega) ?_ | refine n_some ?_ | rw [List.getD_cons_zero] | rw [List.getD_cons_succ]))
    exact h _ _ nothing a1 _ (by rw [e1]; rfl) ha1 (S.d1.to (r.or nothing)) (fun _ _ h => h.elim) ty_leaf
  have hc2 : cmB s a [98] = false := hc
  refine c_comes S ha fun w4 S => ?_
  refine c_b (fun hc => ?_) (fun hc => ?_)
  · have hc : cmB s a [35] = true := hc
    have hR : kindS s rec left a = bd (tkR s [35] a) fun _ a => bd (digT s 31 a) fun n a => (a, some (.mk 5 false 0 n [])) := by rw [kindS, if_neg (by rw [hc1]; simp), if_neg (by rw [hc2]; simp), if_pos hc]
    rw [hR] at h hkp; clear hR
    refine c_tk S ha hs (by decide) (fun a1 w3 ha1 S e1 => ?_) (fun a1 w3 S e1 => ⟨nf, hkp a1 w3 (by rw [e1]; rfl) S.d1⟩)
    rw [e1] at h hkp
    simp only [bd] at h hkp
    refine c_dg S ha1 hs (by decide) (by decide) (fun a2 n w4 ha2 h0 _ S e2 => ?_) (fun a2 w4 S e2 => ⟨nf, hkp a2 w4 (by rw [e2]) S.d1⟩)
    (first | refine s_p ?_ | refine s_c (by omega) ?_)
    refine S.stB fun w5 S => ?_
    (repeat (first | refine s_p ?_ | refine s_c (by omega) ?_ | refine S.ld ?_ | refine S.ldB ?_ | refine S.ce ?_ | refine S.ceB ?_ | refine s_q ?_ | refine s_qc (by omega) ?_ | refine n_some ?_ | rw [List.getD_cons_zero] | rw [List.getD_cons_succ]))
    exact h _ _ nothing a2 _ (by rw [e2]) ha2 (S.d1.to (r.or nothing)) (fun _ _ h => h.elim) ty_leaf
  have hc3 : cmB s a [35] = false := hc
  refine c_comes S ha fun w5 S => ?_
  refine j_bandH (c := decide (1 < left)) (fun _ K3 hK3 => hK3) ?_
  refine c_b (fun hc => ?_) (fun hc => ?_)
  · have hc : (cmB s a [66] && decide (1 < left)) = true := hc
    have hR : kindS s rec left a = bd (tkR s [66, 111, 120, 60] a) fun _ a => bd (rec a) fun u a => bd (tkR s [62] a) fun _ a => (a, some (.mk 3 false 0 0 [u])) := by
      rw [kindS, if_neg (by rw [hc1]; simp), if_neg (by rw [hc2]; simp), if_neg (by rw [hc3]; simp), if_pos hc]
    rw [hR] at h hkp; clear hR
    obtain ⟨m, rfl, hkind⟩ := hrec (by simp only [Bool.and_eq_true, decide_eq_true_eq] at hc; exact hc.2)
    refine c_tk S ha hs (by decide) (fun a1 w6 ha1 S e1 => ?_) (fun a1 w6 S e1 => ⟨nf, hkp a1 w6 (by rw [e1]; rfl) S.d1⟩)
    rw [e1] at h hkp
    simp only [bd] at h hkp
    (first | refine s_p ?_ | refine s_c (by omega) ?_)
    rw [show ((m + 1 : Nat) : Int) - 1 = (m : Int) by omega]
    have hb46 : b4 < w6.heap.size := Asr.lt (x := .cell b4 [.int .u8 0, .bool false, .int .i64 0, .int .i64 0, .slice none 0 0] 25) (S.has _ (by simp)) rfl
    refine hkind S ha1 hs (fun u v sn a2 w7 e2 ha2 S hf hty => ?_) (fun a2 w7 e2 S => ⟨nf, hkp a2 w7 (by rw [e2]) S.d1⟩)
    rw [e2] at h hkp
    simp only [bd] at h hkp
    have hty0 := hty
    obtain ⟨p9, cap9, rfl, _⟩ := hty
    refine S.al fun b6 w8 S => ?_
    have S := S.swap
    refine S.stB fun w9 S => ?_
    refine c_tk S ha2 hs (by decide) (fun a3 w10 ha3 S e3 => ?_) (fun a3 w10 S e3 => ⟨nf, hkp a3 w10 (by rw [e3]) (S.d1.d1.to r)⟩)
    (repeat (first | refine s_p ?_ | refine s_c (by omega) ?_ | refine S.ld ?_ | refine S.ldB ?_ | refine S.ce ?_ | refine S.ceB ?_ | refine s_q ?_ | refine s_qc (by omega) ?_ | refine n_some ?_ | rw [List.getD_cons_zero] | rw [List.getD_cons_succ]))
    refine w_lit (e := 25) (cs := [.int .u8 u.k, .bool u.m, .int .i64 u.re, .int .i64 u.st, .slice p9 u.of.length cap9]) (by kernel_rfl) fun b9 w11 hb9 e9 _ B9 => ?_
    have hb410 : b4 < w10.heap.size := Asr.lt (x := .cell b4 [.int .u8 0, .bool false, .int .i64 0, .int .i64 0, .slice none 0 0] 25) (S.has _ (by simp)) rfl
    have S := S.add e9 (by omega) B9
    have S := S.frz
    (first | refine s_p ?_ | refine s_c (by omega) ?_)
    refine S.stB fun w12 S => ?_
    (repeat (first | refine s_p ?_ | refine s_c (by omega) ?_ | refine S.ld ?_ | refine S.ldB ?_ | refine S.ce ?_ | refine S.ceB ?_ | refine s_q ?_ | refine s_qc (by omega) ?_ | refine n_some ?_ | rw [List.getD_cons_zero] | rw [List.getD_cons_succ]))
    have S := S.d1.d1.to (r.or (sn.or (one b9 [.int .u8 u.k, .bool u.m, .int .i64 u.re, .int .i64 u.st, .slice p9 u.of.length cap9] 25)))
    refine h (.mk 3 false 0 0 [u]) _ (sn.or (one b9 [.int .u8 u.k, .bool u.m, .int .i64 u.re, .int .i64 u.st, .slice p9 u.of.length cap9] 25)) a3 _ (by rw [e3]) ha3 S (fun b o hbo => ?_) (ty_one hty0)
    rcases hbo with hbo | ⟨rfl, _⟩
    · have := hf b o hbo; omega
    · omega
  have hc4 : (cmB s a [66] && decide (1 < left)) = false := hc
  refine c_comes S ha fun w6 S => ?_
  refine j_bandH (c := decide (1 < left)) (fun _ K3 hK3 => hK3) ?_
  have hR : kindS s rec left a = if cmB s a [38] && decide (1 < left) then refS s rec left a else (a, none) := by
    rw [kindS, if_neg (by rw [hc1]; simp), if_neg (by rw [hc2]; simp), if_neg (by rw [hc3]; simp), if_neg (by rw [hc4]; simp)]
  rw [hR] at h hkp; clear hR
  refine c_b (fun hc => ?_) (fun hc => ?_)
  · have hc : (cmB s a [38] && decide (1 < left)) = true := hc
    rw [if_pos hc] at h hkp
    obtain ⟨m, rfl, hkind⟩ := hrec (by simp only [Bool.and_eq_true, decide_eq_true_eq] at hc; exact hc.2)
    have hb46 : b4 < w6.heap.size := Asr.lt (x := .cell b4 [.int .u8 0, .bool false, .int .i64 0, .int .i64 0, .slice none 0 0] 25) (S.has _ (by simp)) rfl
    refine c_types_ref hkind (by omega) S ha hs (fun u v sn a2 w7 e2 ha2 S hf hty => ?_) (fun a2 w7 e2 S => ⟨nf, hkp a2 w7 e2 S.d1⟩)
    have hty0 := hty
    obtain ⟨p9, cap9, rfl, _⟩ := hty
    refine S.stB fun w8 S => ?_
    (repeat (first | refine s_p ?_ | refine s_c (by omega) ?_ | refine S.ld ?_ | refine S.ldB ?_ | refine S.ce ?_ | refine S.ceB ?_ | refine s_q ?_ | refine s_qc (by omega) ?_ | refine n_some ?_ | rw [List.getD_cons_zero] | rw [List.getD_cons_succ]))
    exact h u _ sn a2 _ e2 ha2 S.d1 (fun b o hbo => by have := hf b o hbo; omega) hty0
  · have hc : (cmB s a [38] && decide (1 < left)) = false := hc
    rw [if_neg (by rw [hc]; simp)] at hkp
    (first | refine s_p ?_ | refine s_c (by omega) ?_)
    (first | refine s_p ?_ | refine s_c (by omega) ?_)
    exact ⟨_, _, rfl, nf, hkp a w6 rfl S.d1⟩
theorem c_types_kind (s : List UInt8) : ∀ n, n ≤ 1000 → KindC s (kindR s n) n := by
  intro n
  induction n with
  | zero => intro _; exact kind_step (by decide) fun h => absurd h (by decide)
  | succ n ih => intro hn; exact kind_step hn fun _ => ⟨n, rfl, ih (by omega)⟩
end Go.Proofs
