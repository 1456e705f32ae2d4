/-
  Contracts: types.Read.
-/
import Derived.Test.YtajllnahceaipaaDoorTp
namespace Go.Proofs
open Go.Sh
set_option maxRecDepth 100000
set_option linter.unusedSimpArgs false

def zeroD : TyD := .mk 0 false 0 0 []
/-- what Read tells -/
def readT (s : List UInt8) : TyD × Int × Int :=
  match kindR s 48 0 with
  | (a, some t) => if (a : Int) < s.length then (zeroD, a, 60) else (t, 0, 0)
  | (a, none) => (zeroD, a, 60)
abbrev zeroC : List Value := [.int .u8 0, .bool false, .int .i64 0, .int .i64 0, .slice none 0 0]
theorem d_Read_ret {v1 v2 v3 v4 : Value} {w : World} {R : FrameMode → World → Prop} {Rp : List PanicEntry → FrameMode → World → Prop} (h : R .returning w) :
    oDef Tryd.prog Tryd.n_types_Read_1 #[v1, v2, v3, v4] .returning w R Rp := by
  refine Tryd.ok_types_Read_1 ?_
  unfold Tryd.F_types_Read_1
  simp only [recov]
  (repeat (first | refine s_p ?_ | refine s_c (by omega) ?_ | refine S.ld ?_ | refine S.ldB ?_ | refine S.ce ?_ | refine S.ceB ?_ | refine s_q ?_ | refine s_qc (by omega) ?_ | refine n_some ?_ | rw [List.getD_cons_zero] | rw [List.getD_cons_succ]))
  exact h
theorem d_Read_stuck {X : Nat → Prop} {w0 w : World} {r : Gh} {L : List Asr} {rb b5 b4 b3 b2 a : Nat} {s : List UInt8} {c2 : List Value} {R : FrameMode → World → Prop} {Rp : List PanicEntry → FrameMode → World → Prop}
    (S : StX X w0 r w (rdC rb s a :: .cell b5 [rdP rb] 86 :: .cell b4 [.int .i64 0] 29 :: .cell b3 [.int .i64 0] 3 :: .cell b2 c2 25 :: L)) (hc : c2.length = 5)
    (h : ∀ w', StX X w0 r w' (rdC rb s a :: .cell b5 [rdP rb] 86 :: .cell b4 [.int .i64 60] 29 :: .cell b3 [.int .i64 (a : Int)] 3 :: .cell b2 zeroC 25 :: L) → R (.panicking [{ v := .iface 90 (.agg #[]), recovered := true }]) w') :
    oDef Tryd.prog Tryd.n_types_Read_1 #[.pointer (some ⟨b5, 0, none⟩), .pointer (some ⟨b2, 0, none⟩), .pointer (some ⟨b3, 0, none⟩), .pointer (some ⟨b4, 0, none⟩)] (.panicking stuckV) w R Rp := by
  refine Tryd.ok_types_Read_1 ?_
  unfold Tryd.F_types_Read_1
  simp only [recov]
  (repeat (first | refine s_p ?_ | refine s_c (by omega) ?_ | refine S.ld ?_ | refine S.ldB ?_ | refine S.ce ?_ | refine S.ceB ?_ | refine s_q ?_ | refine s_qc (by omega) ?_ | refine n_some ?_ | rw [List.getD_cons_zero] | rw [List.getD_cons_succ]))
  refine S.al fun b9 w1 S => ?_
  refine S.stB fun w2 S => ?_
  have S := S.tl
  (repeat (first | refine s_p ?_ | refine s_c (by omega) ?_ | refine S.ld ?_ | refine S.ldB ?_ | refine S.ce ?_ | refine S.ceB ?_ | refine s_q ?_ | refine s_qc (by omega) ?_ | refine n_some ?_ | rw [List.getD_cons_zero] | rw [List.getD_cons_succ]))
  refine S.stB (hl := hc) fun w3 S => ?_
  refine S.st fun w4 S => ?_
  refine S.st fun w5 S => ?_
  exact h _ S
theorem c_types_Read {s : List UInt8} {w : World} {r : Gh} {K : Value → World → Prop} (hr : Holds r w) (hs : s.length ≤ 1000000000)
    (h : ∀ v sn w', Ext w w' → New w sn w' → TyG sn v (readT s).1 → K (.tuple #[v, .int .i64 (readT s).2.1, .int .i64 (readT s).2.2]) w') :
    oCall Tryd.prog Tryd.n_types_Read #[.string (bs s)] w K := by
  refine Tryd.ok_types_Read ?_
  unfold Tryd.F_types_Read
  have S := St.start hr
  refine S.al fun b2 w1 S => ?_
  refine S.al fun b3 w2 S => ?_
  refine S.al fun b4 w3 S => ?_
  (first | refine s_p ?_ | refine s_c (by omega) ?_)
  refine S.box fun rb w4 S => ?_
  refine S.al fun b5 w5 S => ?_
  refine S.st fun w6 S => ?_
  have S := S.swap
  have esz := S.ext.size
  unfold Tryd.B_types_Read
  (repeat (first | refine s_p ?_ | refine s_c (by omega) ?_ | refine S.ld ?_ | refine S.ldB ?_ | refine S.ce ?_ | refine S.ceB ?_ | refine s_q ?_ | refine s_qc (by omega) ?_ | refine n_some ?_ | rw [List.getD_cons_zero] | rw [List.getD_cons_succ]))
  refine c_types_kind s 48 (by decide) S (Nat.zero_le _) hs (fun t v sn a w7 e7 ha S hf hty => ?_) (fun a w7 e7 S => ⟨(fun h => by cases h), ?_⟩)
  · have hty0 := hty
    obtain ⟨p9, cap9, rfl, _⟩ := hty
    refine S.stB fun w8 S => ?_
    refine j_intro (fun _ w' => ¬ (a : Int) < s.length ∧ StX noX w (r.or sn) w' (rdC rb s a :: .cell b5 [rdP rb] 86 :: .cell b4 [.int .i64 0] 29 :: .cell b3 [.int .i64 0] 3 :: .cell b2 [.int .u8 t.k, .bool t.m, .int .i64 t.re, .int .i64 t.st, .slice p9 t.of.length cap9] 25 :: [])) (fun K2 hK2 => ?_) ?_
    · (repeat (first | refine s_p ?_ | refine s_c (by omega) ?_ | refine S.ld ?_ | refine S.ldB ?_ | refine S.ce ?_ | refine S.ceB ?_ | refine s_q ?_ | refine s_qc (by omega) ?_ | refine n_some ?_ | rw [List.getD_cons_zero] | rw [List.getD_cons_succ]))
      refine c_if (fun hlt => ?_) (fun hge => hK2 _ _ ⟨hge, S⟩)
      have hT : readT s = (zeroD, (a : Int), 60) := by rw [readT, e7]; simp only; rw [if_pos hlt]
      rw [hT] at h
      (first | refine s_p ?_ | refine s_c (by omega) ?_)
      (first | refine s_p ?_ | refine s_c (by omega) ?_)
      refine ⟨_, _, rfl, (fun h => by cases h), ?_⟩
      refine d_Read_stuck S rfl fun w9 S => ?_
      simp only [settle, List.dropWhile, eEnd]
      (repeat (first | refine s_p ?_ | refine s_c (by omega) ?_ | refine S.ld ?_ | refine S.ldB ?_ | refine S.ce ?_ | refine S.ceB ?_ | refine s_q ?_ | refine s_qc (by omega) ?_ | refine n_some ?_ | rw [List.getD_cons_zero] | rw [List.getD_cons_succ]))
      exact h _ nothing _ S.ext New.nothing ty_leaf
    · rintro _ w9 ⟨hge, S⟩ d9
      have hT : readT s = (t, 0, 0) := by rw [readT, e7]; simp only; rw [if_neg hge]
      rw [hT] at h
      (repeat (first | refine s_p ?_ | refine s_c (by omega) ?_ | refine S.ld ?_ | refine S.ldB ?_ | refine S.ce ?_ | refine S.ceB ?_ | refine s_q ?_ | refine s_qc (by omega) ?_ | refine n_some ?_ | rw [List.getD_cons_zero] | rw [List.getD_cons_succ]))
      refine S.stB fun w10 S => ?_
      refine S.st fun w11 S => ?_
      refine S.st fun w12 S => ?_
      refine d_Read_ret ?_
      simp only [settle, eEnd]
      (repeat (first | refine s_p ?_ | refine s_c (by omega) ?_ | refine S.ld ?_ | refine S.ldB ?_ | refine S.ce ?_ | refine S.ceB ?_ | refine s_q ?_ | refine s_qc (by omega) ?_ | refine n_some ?_ | rw [List.getD_cons_zero] | rw [List.getD_cons_succ]))
      exact h _ sn _ S.ext ⟨S.holds.le (h := inferInstance), fun b o hb => Nat.le_trans esz (hf b o hb)⟩ hty0
  · have hT : readT s = (zeroD, (a : Int), 60) := by rw [readT, e7]
    rw [hT] at h
    refine d_Read_stuck S rfl fun w9 S => ?_
    simp only [settle, List.dropWhile, eEnd]
    (repeat (first | refine s_p ?_ | refine s_c (by omega) ?_ | refine S.ld ?_ | refine S.ldB ?_ | refine S.ce ?_ | refine S.ceB ?_ | refine s_q ?_ | refine s_qc (by omega) ?_ | refine n_some ?_ | rw [List.getD_cons_zero] | rw [List.getD_cons_succ]))
    exact h _ nothing _ S.ext New.nothing ty_leaf
end Go.Proofs
