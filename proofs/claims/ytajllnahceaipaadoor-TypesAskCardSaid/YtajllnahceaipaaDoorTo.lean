/-
  Contracts: the reader of types' texts: ref.
-/
import Derived.Test.YtajllnahceaipaaDoorTn
namespace Go.Proofs
open Go.Sh
set_option maxRecDepth 100000
set_option linter.unusedSimpArgs false

theorem _root_.Go.Sh.StX.d1 {X : Nat → Prop} {w0 w : World} {r : Gh} {L : List Asr} {x y : Asr} (S : StX X w0 r w (x :: y :: L)) : StX X w0 r w (x :: L) := S.swap.tl
theorem j_bandR {w : World} {A : (List Value → World → Prop) → Prop} {Z : Value → World → Prop} {b c : Bool} (R : World → Prop) (h0 : R w) (hA : b = true → ∀ K : List Value → World → Prop, (∀ w', R w' → K [.bool c] w') → A K) (hZ : ∀ w', R w' → Z (.bool (b && c)) w') :
    sJoin (fun K => gIf (.bool b) true (A K) (K [undef] w)) fun s _ w' => oPick (.bool b) (s.getD 0 undef) (.bool false) fun t => Z t w' := by
  intro K hK
  cases b with
  | true => exact hA rfl K fun w' e => hK _ _ fun _ => ⟨true, rfl, by simpa using hZ w' e⟩
  | false => exact hK _ _ fun _ => ⟨false, rfl, by simpa using hZ w h0⟩
/-- the contract of kind, so deep -/
def KindC (s : List UInt8) (rd : Nat → Rd' TyD) (left : Nat) : Prop :=
  ∀ {X : Nat → Prop} {w0 w : World} {r : Gh} {L : List Asr} {rb a : Nat} {K : Value → World → Prop} {Kp : List PanicEntry → World → Prop}, StX X w0 r w (rdC rb s a :: L) → a ≤ s.length → s.length ≤ 1000000000 →
  (∀ t v sn a' w', rd a = (a', some t) → a' ≤ s.length → StX X w0 (r.or sn) w' (rdC rb s a' :: L) → (∀ b o, sn b o → w.heap.size ≤ b) → TyG sn v t → K v w') →
  (∀ a' w', rd a = (a', none) → StX X w0 r w' (rdC rb s a' :: L) → Kp stuckV w') → oCallP Tryd.prog Tryd.n_types_reader_kind #[rdP rb, .int .i64 (left : Int)] w K Kp
section
variable {X : Nat → Prop} {w0 w : World} {r : Gh} {L : List Asr} {rb : Nat} {s p : List UInt8} {a : Nat} {K : Value → World → Prop} {Kp : List PanicEntry → World → Prop}
theorem c_types_ref {n : Nat} {rec : Nat → Rd' TyD} (hkind : KindC s rec n) (hn : n ≤ 1000) (S : StX X w0 r w (rdC rb s a :: L)) (ha : a ≤ s.length) (hs : s.length ≤ 1000000000)
    (h : ∀ t v sn a' w', refS s rec (n + 1) a = (a', some t) → a' ≤ s.length → StX X w0 (r.or sn) w' (rdC rb s a' :: L) → (∀ b o, sn b o → w.heap.size ≤ b) → TyG sn v t → K v w')
    (hkp : ∀ a' w', refS s rec (n + 1) a = (a', none) → StX X w0 r w' (rdC rb s a' :: L) → Kp stuckV w') :
    oCallP Tryd.prog Tryd.n_types_reader_ref #[rdP rb, .int .i64 ((n + 1 : Nat) : Int)] w K Kp := by
  have nf : ∀ {P : Prop}, false = true → P := fun h => by cases h
  refine Tryd.ok_types_reader_ref ?_
  unfold Tryd.F_types_reader_ref
  have hsz : w.heap.size ≤ w.heap.size := Nat.le_refl _
  refine S.alM fun b4 w1 hb4 _ S => ?_
  have S := S.swap
  refine c_tk S ha hs (by decide) (fun a1 w2 ha1 S e1 => ?_) (fun a1 w2 S e1 => ⟨nf, hkp a1 w2 (by rw [refS, e1]; rfl) S.d1⟩)
  have hR : refS s rec (n + 1) a = bd (rgR s a1) fun re a => bd (mtR s a) fun m a => bd (brR s (n + 1) re m a) fun _ a => bd (rec a) fun u a => (a, some (.mk 4 m re 0 [u])) := by rw [refS, e1]; rfl
  rw [hR] at h hkp
  clear hR
  (first | refine s_p ?_ | refine s_c (by omega) ?_)
  refine S.al fun b5 w3 S => ?_
  have S := S.swap
  refine S.stB fun w4 S => ?_
  refine j_intro (fun _ w' => ∃ a2 re, rgR s a1 = (a2, some re) ∧ a2 ≤ s.length ∧ -1 ≤ re ∧ StX X w0 r w' (rdC rb s a2 :: .cell b5 [.int .u8 4, .bool false, .int .i64 re, .int .i64 0, .slice none 0 0] 25 :: .cell b4 [.int .u8 0, .bool false, .int .i64 0, .int .i64 0, .slice none 0 0] 25 :: L)) (fun K2 hK2 => ?_) ?_
  · refine c_comes S ha1 fun w5 S => ?_
    refine c_b (fun hc => ?_) (fun hc => ?_)
    · have hc : cmB s a1 [39] = true := hc
      refine c_tk S ha1 hs (by decide) (fun a2 w6 ha2 S e2 => ?_) (fun a2 w6 S e2 => ⟨nf, hkp a2 w6 (by rw [rgR, if_pos hc, e2]; rfl) S.d1.d1⟩)
      refine c_dg S ha2 hs (by decide) (by decide) (fun a3 re w7 ha3 h0 _ S e3 => ?_) (fun a3 w7 S e3 => ⟨nf, hkp a3 w7 (by rw [rgR, if_pos hc, e2]; simp only [bd]; rw [e3]) S.d1.d1⟩)
      (first | refine s_p ?_ | refine s_c (by omega) ?_)
      refine S.st fun w8 S => ?_
      refine c_tk S ha3 hs (by decide) (fun a4 w9 ha4 S e4 => ?_) (fun a4 w9 S e4 => ⟨nf, hkp a4 w9 (by rw [rgR, if_pos hc, e2]; simp only [bd]; rw [e3]; simp only [bd]; rw [e4]) S.d1.d1⟩)
      exact hK2 _ _ ⟨a4, re, by rw [rgR, if_pos hc, e2]; simp only [bd]; rw [e3]; simp only [bd]; rw [e4], ha4, by omega, S⟩
    · have hc : cmB s a1 [39] = false := hc
      exact hK2 _ _ ⟨a1, -1, by rw [rgR, if_neg (by rw [hc]; simp)], ha1, Int.le_refl _, S⟩
  rintro _ w5 ⟨a2, re, e2, ha2, hre, S⟩ d5
  rw [e2] at h hkp
  simp only [bd] at h hkp
  refine j_intro (fun _ w' => ∃ a3 m, mtR s a2 = (a3, some m) ∧ a3 ≤ s.length ∧ StX X w0 r w' (rdC rb s a3 :: .cell b5 [.int .u8 4, .bool m, .int .i64 re, .int .i64 0, .slice none 0 0] 25 :: .cell b4 [.int .u8 0, .bool false, .int .i64 0, .int .i64 0, .slice none 0 0] 25 :: L)) (fun K2 hK2 => ?_) ?_
  · refine c_comes S ha2 fun w6 S => ?_
    refine c_b (fun hc => ?_) (fun hc => ?_)
    · have hc : cmB s a2 [109] = true := hc
      refine c_tk S ha2 hs (by decide) (fun a3 w7 ha3 S e3 => ?_) (fun a3 w7 S e3 => ⟨nf, hkp a3 w7 (by rw [mtR, if_pos hc, e3]; rfl) S.d1.d1⟩)
      (first | refine s_p ?_ | refine s_c (by omega) ?_)
      refine S.st fun w8 S => ?_
      exact hK2 _ _ ⟨a3, true, by rw [mtR, if_pos hc, e3]; rfl, ha3, S⟩
    · have hc : cmB s a2 [109] = false := hc
      exact hK2 _ _ ⟨a2, false, by rw [mtR, if_neg (by rw [hc]; simp)], ha2, S⟩
  rintro _ w6 ⟨a3, m, e3, ha3, S⟩ d6
  rw [e3] at h hkp
  simp only [bd] at h hkp
  refine j_intro (fun _ w' => ∃ a4, brR s (n + 1) re m a3 = (a4, some ()) ∧ a4 ≤ s.length ∧ StX X w0 r w' (rdC rb s a4 :: .cell b5 [.int .u8 4, .bool m, .int .i64 re, .int .i64 0, .slice none 0 0] 25 :: .cell b4 [.int .u8 0, .bool false, .int .i64 0, .int .i64 0, .slice none 0 0] 25 :: L)) (fun K2 hK2 => ?_) ?_
  · (repeat (first | refine s_p ?_ | refine s_c (by omega) ?_ | refine S.ld ?_ | refine S.ldB ?_ | refine S.ce ?_ | refine S.ceB ?_ | refine s_q ?_ | refine s_qc (by omega) ?_ | refine n_some ?_ | rw [List.getD_cons_zero] | rw [List.getD_cons_succ]))
    refine j_bandH (c := !m) (fun _ K3 hK3 => ?_) ?_
    · (repeat (first | refine s_p ?_ | refine s_c (by omega) ?_ | refine S.ld ?_ | refine S.ldB ?_ | refine S.ce ?_ | refine S.ceB ?_ | refine s_q ?_ | refine s_qc (by omega) ?_ | refine n_some ?_ | rw [List.getD_cons_zero] | rw [List.getD_cons_succ]))
      exact hK3
    generalize hbare : (decide (re < 0) && !m) = bare at *
    refine j_bandR (c := cmB s a3 [38]) (fun w' => StX X w0 r w' (rdC rb s a3 :: .cell b5 [.int .u8 4, .bool m, .int .i64 re, .int .i64 0, .slice none 0 0] 25 :: .cell b4 [.int .u8 0, .bool false, .int .i64 0, .int .i64 0, .slice none 0 0] 25 :: L)) S (fun _ K3 hK3 => ?_) fun w7 S => ?_
    · exact c_comes S ha3 fun w8 S => hK3 _ S
    refine c_b (fun hc1 => ?_) (fun hc1 => ?_)
    · (first | refine s_p ?_ | refine s_c (by omega) ?_)
      (first | refine s_p ?_ | refine s_c (by omega) ?_)
      exact ⟨_, _, rfl, nf, hkp a3 w7 (by rw [brR, hbare, if_pos hc1]) S.d1.d1⟩
    refine j_bandR (c := cmB s a3 [32]) (fun w' => StX X w0 r w' (rdC rb s a3 :: .cell b5 [.int .u8 4, .bool m, .int .i64 re, .int .i64 0, .slice none 0 0] 25 :: .cell b4 [.int .u8 0, .bool false, .int .i64 0, .int .i64 0, .slice none 0 0] 25 :: L)) S (fun _ K3 hK3 => ?_) fun w8 S => ?_
    · exact c_comes S ha3 fun w9 S => hK3 _ S
    refine j_bandH (c := decide (2 < n + 1)) (fun _ K3 hK3 => ?_) ?_
    · (first | refine s_p ?_ | refine s_c (by omega) ?_)
      rw [show decide ((2 : Int) < ((n + 1 : Nat) : Int)) = decide (2 < n + 1) from decide_eq_decide.2 (by omega)]
      exact hK3
    have hbr : brR s (n + 1) re m a3 = if (bare && cmB s a3 [32]) && decide (2 < n + 1) then bd (tkR s [32] a3) fun _ a => if !cmB s a [38] then (a, none) else (a, some ()) else (a3, some ()) := by
      rw [brR, hbare, if_neg (by rw [hc1]; simp)]
    refine c_b (fun hc2 => ?_) (fun hc2 => ?_)
    · rw [if_pos hc2] at hbr
      refine c_tk S ha3 hs (by decide) (fun a4 w9 ha4 S e4 => ?_) (fun a4 w9 S e4 => ⟨nf, hkp a4 w9 (by rw [hbr, e4]; rfl) S.d1.d1⟩)
      rw [e4] at hbr
      refine c_comes S ha4 fun w10 S => ?_
      (first | refine s_p ?_ | refine s_c (by omega) ?_)
      refine c_b (fun hc3 => ?_) (fun hc3 => ?_)
      · have hc3 : (!cmB s a4 [38]) = true := hc3
        (first | refine s_p ?_ | refine s_c (by omega) ?_)
        (first | refine s_p ?_ | refine s_c (by omega) ?_)
        exact ⟨_, _, rfl, nf, hkp a4 w10 (by rw [hbr]; simp only [bd]; rw [if_pos hc3]) S.d1.d1⟩
      · have hc3 : (!cmB s a4 [38]) = false := hc3
        exact hK2 _ _ ⟨a4, by rw [hbr]; simp only [bd]; rw [if_neg (by rw [hc3]; simp)], ha4, S⟩
    · rw [if_neg (by rw [hc2]; simp)] at hbr
      exact hK2 _ _ ⟨a3, hbr, ha3, S⟩
  rintro _ w7 ⟨a4, e4, ha4, S⟩ d7
  rw [e4] at h hkp
  simp only [bd] at h hkp
  (first | refine s_p ?_ | refine s_c (by omega) ?_)
  rw [show ((n + 1 : Nat) : Int) - 1 = (n : Int) by omega]
  have hb47 : b4 < w7.heap.size := Asr.lt (x := .cell b4 [.int .u8 0, .bool false, .int .i64 0, .int .i64 0, .slice none 0 0] 25) (S.has _ (by simp)) rfl
  refine hkind S ha4 hs (fun u v sn a5 w8 e5 ha5 S hf hty => ?_) (fun a5 w8 e5 S => ⟨nf, hkp a5 w8 (by rw [e5]) S.d1.d1⟩)
  have hty0 := hty
  obtain ⟨p9, cap9, rfl, _⟩ := hty
  refine w_lit (e := 25) (cs := [.int .u8 u.k, .bool u.m, .int .i64 u.re, .int .i64 u.st, .slice p9 u.of.length cap9]) (by kernel_rfl) fun b9 w9 hb9 e9 _ B9 => ?_
  have hb4' : b4 < w8.heap.size := Asr.lt (x := .cell b4 [.int .u8 0, .bool false, .int .i64 0, .int .i64 0, .slice none 0 0] 25) (S.has _ (by simp)) rfl
  have S := S.add e9 (by omega) B9
  have S := S.frz
  (first | refine s_p ?_ | refine s_c (by omega) ?_)
  refine S.st fun w10 S => ?_
  (repeat (first | refine s_p ?_ | refine s_c (by omega) ?_ | refine S.ld ?_ | refine S.ldB ?_ | refine S.ce ?_ | refine S.ceB ?_ | refine s_q ?_ | refine s_qc (by omega) ?_ | refine n_some ?_ | rw [List.getD_cons_zero] | rw [List.getD_cons_succ]))
  refine S.stB fun w11 S => ?_
  (repeat (first | refine s_p ?_ | refine s_c (by omega) ?_ | refine S.ld ?_ | refine S.ldB ?_ | refine S.ce ?_ | refine S.ceB ?_ | refine s_q ?_ | refine s_qc (by omega) ?_ | refine n_some ?_ | rw [List.getD_cons_zero] | rw [List.getD_cons_succ]))
  have S := S.d1.d1.to (r.or (sn.or (one b9 [.int .u8 u.k, .bool u.m, .int .i64 u.re, .int .i64 u.st, .slice p9 u.of.length cap9] 25)))
  refine h (.mk 4 m re 0 [u]) _ (sn.or (one b9 [.int .u8 u.k, .bool u.m, .int .i64 u.re, .int .i64 u.st, .slice p9 u.of.length cap9] 25)) a5 _ (by rw [e5]) ha5 S (fun b o hbo => ?_) (ty_one hty0)
  rcases hbo with hbo | ⟨rfl, _⟩
  · have := hf b o hbo; omega
  · omega
end
end Go.Proofs
