/-
  Contracts: the reader of types' texts: digits.
-/
import Derived.Test.YtajllnahceaipaaDoorTl
namespace Go.Proofs
open Go.Sh
set_option maxRecDepth 100000

theorem wrapU8 {n : Int} (h : 0 ≤ n ∧ n < 256) : IntKind.u8.wrap n = n := by
  rw [IntKind.wrap_u8]; exact Int.emod_eq_of_lt h.1 h.2
instance {P : Program} {t : TypeId} {c : Bool} {a b : Int} : PCond P (bsem .sub t c (.int .u8 a) (.int .u8 b)) (.int .u8 (a - b)) (0 ≤ a - b ∧ a - b < 256) := .of fun h _ k =>
  p_of (fun w => by rw [bsem_int]; simp [binOp, Op.intArith, wrapU8 h]) k
/-- a number's digits, as far as they go: where they end, the number -/
def digR (s : List UInt8) (most : Int) (fr : Nat) : Nat → Nat → Int → Nat × Int
  | 0, a, n => (a, n)
  | f + 1, a, n =>
    if (decide ((a : Int) < s.length) && decide (48 ≤ byteAt s a)) && decide (byteAt s a ≤ 57) then
      if (decide ((fr : Int) < a) && decide (byteAt s fr = 48)) || decide ((most - (byteAt s a - 48)) / 10 < n) then (a, n)
      else digR s most fr f (a + 1) (10 * n + (byteAt s a - 48))
    else (a, n)
def digT (s : List UInt8) (most : Int) (a : Nat) : Nat × Option Int :=
  let x := digR s most a (s.length + 1 - a) a 0
  if x.1 = a then (a, none) else (x.1, some x.2)
section
variable {X : Nat → Prop} {w0 w : World} {r : Gh} {L : List Asr} {rb : Nat} {s : List UInt8} {a : Nat} {K : Value → World → Prop} {Kp : List PanicEntry → World → Prop}
theorem digR_le {most : Int} {fr : Nat} : ∀ (f a : Nat) (n : Int), a ≤ s.length → 0 ≤ n → n ≤ most → 9 ≤ most → a ≤ (digR s most fr f a n).1 ∧ (digR s most fr f a n).1 ≤ s.length ∧ 0 ≤ (digR s most fr f a n).2 ∧ (digR s most fr f a n).2 ≤ most
  | 0, a, n, h, h0, h1, _ => ⟨Nat.le_refl _, h, h0, h1⟩
  | f + 1, a, n, h, h0, h1, h9 => by
    rw [digR]
    split
    · rename_i hd
      simp only [Bool.and_eq_true, decide_eq_true_eq] at hd
      split
      · exact ⟨Nat.le_refl _, h, h0, h1⟩
      · rename_i hn
        simp only [Bool.or_eq_true, decide_eq_true_eq, not_or, Int.not_lt] at hn
        have := digR_le (most := most) (fr := fr) f (a + 1) (10 * n + (byteAt s a - 48)) (by omega) (by omega) (by omega) h9
        exact ⟨by omega, this.2.1, this.2.2.1, this.2.2.2⟩
    · exact ⟨Nat.le_refl _, h, h0, h1⟩
theorem c_digits {most : Int} (S : StX X w0 r w (rdC rb s a :: L)) (ha : a ≤ s.length) (hs : s.length ≤ 1000000000) (hm : 9 ≤ most) (hm2 : most < 9223372036854775808)
    (h : ∀ w', StX X w0 r w' (rdC rb s (digT s most a).1 :: L) → match (digT s most a).2 with | some n => K (.int .i64 n) w' | none => Kp stuckV w') :
    oCallP Tryd.prog Tryd.n_types_reader_digits #[rdP rb, .int .i64 most] w K Kp := by
  refine Tryd.ok_types_reader_digits ?_
  unfold Tryd.F_types_reader_digits
  (repeat (first | refine s_p ?_ | refine s_c (by omega) ?_ | refine S.ld ?_ | refine S.ldB ?_ | refine S.ce ?_ | refine S.ceB ?_ | refine s_q ?_ | refine s_qc (by omega) ?_ | refine n_some ?_ | rw [List.getD_cons_zero] | rw [List.getD_cons_succ]))
  refine j_intro (fun x w' => x = [.int .i64 (digR s most a (s.length + 1 - a) a 0).2] ∧ StX X w0 r w' (rdC rb s (digR s most a (s.length + 1 - a) a 0).1 :: L)) (fun K2 hK2 => ?_) ?_
  · refine l_intro (ι := Nat × Int × Nat) (fun i => [.int .i64 i.2.1]) (fun i w' => a ≤ i.1 ∧ i.1 ≤ s.length ∧ i.2.2 = s.length + 1 - i.1 ∧ 0 ≤ i.2.1 ∧ i.2.1 ≤ most ∧ digR s most a (s.length + 1 - a) a 0 = digR s most a i.2.2 i.1 i.2.1 ∧ StX X w0 r w' (rdC rb s i.1 :: L))
      (fun i => i.2.2) (a, 0, s.length + 1 - a) rfl ⟨Nat.le_refl _, ha, rfl, Int.le_refl _, by simp only; omega, rfl, S⟩ ?_
    clear S
    rintro ⟨b, n, f⟩ d w1 ⟨hab, hbs, hf, hn0, hnm, hrec, S⟩ K6 hK6
    simp only at hab hbs hf hn0 hnm hrec S ⊢
    rw [List.getD_cons_zero]
    rw [hrec] at hK2
    obtain ⟨f, rfl⟩ : ∃ g, f = g + 1 := ⟨f - 1, by omega⟩
    rw [digR] at hrec hK2
    have hby := byteAt_lt s b
    have S := S.go (Ext.drew _)
    (repeat (first | refine s_p ?_ | refine s_c (by omega) ?_ | refine S.ld ?_ | refine S.ldB ?_ | refine S.ce ?_ | refine S.ceB ?_ | refine s_q ?_ | refine s_qc (by omega) ?_ | refine n_some ?_ | rw [List.getD_cons_zero] | rw [List.getD_cons_succ]))
    refine j_bandH (c := decide (48 ≤ byteAt s b)) (fun hb K3 hK3 => ?_) ?_
    · have hb : (b : Int) < s.length := by simpa using hb
      (repeat (first | refine s_p ?_ | refine s_c (by omega) ?_ | refine S.ld ?_ | refine S.ldB ?_ | refine S.ce ?_ | refine S.ceB ?_ | refine s_q ?_ | refine s_qc (by omega) ?_ | refine n_some ?_ | rw [List.getD_cons_zero] | rw [List.getD_cons_succ]))
      rw [Int.toNat_natCast]; exact hK3
    refine j_bandH (c := decide (byteAt s b ≤ 57)) (fun hb K3 hK3 => ?_) ?_
    · have hb : (b : Int) < s.length := by simp only [Bool.and_eq_true, decide_eq_true_eq] at hb; exact hb.1
      (repeat (first | refine s_p ?_ | refine s_c (by omega) ?_ | refine S.ld ?_ | refine S.ldB ?_ | refine S.ce ?_ | refine S.ceB ?_ | refine s_q ?_ | refine s_qc (by omega) ?_ | refine n_some ?_ | rw [List.getD_cons_zero] | rw [List.getD_cons_succ]))
      rw [Int.toNat_natCast]; exact hK3
    refine c_b (fun hd => ?_) (fun hd => ?_)
    · rw [if_pos hd] at hK2 hrec
      simp only [Bool.and_eq_true, decide_eq_true_eq] at hd
      obtain ⟨⟨hd1, hd2⟩, hd3⟩ := hd
      have S := S.go (Ext.drew _)
      (repeat (first | refine s_p ?_ | refine s_c (by omega) ?_ | refine S.ld ?_ | refine S.ldB ?_ | refine S.ce ?_ | refine S.ceB ?_ | refine s_q ?_ | refine s_qc (by omega) ?_ | refine n_some ?_ | rw [List.getD_cons_zero] | rw [List.getD_cons_succ]))
      rw [Int.toNat_natCast]
      (repeat (first | refine s_p ?_ | refine s_c (by omega) ?_ | refine S.ld ?_ | refine S.ldB ?_ | refine S.ce ?_ | refine S.ceB ?_ | refine s_q ?_ | refine s_qc (by omega) ?_ | refine n_some ?_ | rw [List.getD_cons_zero] | rw [List.getD_cons_succ]))
      refine j_bandH (c := decide (byteAt s a = 48)) (fun hb K3 hK3 => ?_) ?_
      · have hb : (a : Int) < b := by simpa using hb
        (repeat (first | refine s_p ?_ | refine s_c (by omega) ?_ | refine S.ld ?_ | refine S.ldB ?_ | refine S.ce ?_ | refine S.ceB ?_ | refine s_q ?_ | refine s_qc (by omega) ?_ | refine n_some ?_ | rw [List.getD_cons_zero] | rw [List.getD_cons_succ]))
        rw [Int.toNat_natCast]
        (repeat (first | refine s_p ?_ | refine s_c (by omega) ?_ | refine S.ld ?_ | refine S.ldB ?_ | refine S.ce ?_ | refine S.ceB ?_ | refine s_q ?_ | refine s_qc (by omega) ?_ | refine n_some ?_ | rw [List.getD_cons_zero] | rw [List.getD_cons_succ]))
        exact hK3
      refine j_borH (c := decide ((most - (byteAt s b - 48)) / 10 < n)) (fun hb K3 hK3 => ?_) ?_
      · (repeat (first | refine s_p ?_ | refine s_c (by omega) ?_ | refine S.ld ?_ | refine S.ldB ?_ | refine S.ce ?_ | refine S.ceB ?_ | refine s_q ?_ | refine s_qc (by omega) ?_ | refine n_some ?_ | rw [List.getD_cons_zero] | rw [List.getD_cons_succ]))
        exact hK3
      refine c_b (fun hc => ?_) (fun hc => ?_)
      · rw [if_pos hc] at hK2
        exact hK2 _ _ ⟨rfl, S⟩
      · rw [if_neg (by rw [hc]; simp)] at hrec
        simp only [Bool.or_eq_false_iff, decide_eq_false_iff_not, Int.not_lt] at hc
        (repeat (first | refine s_p ?_ | refine s_c (by omega) ?_ | refine S.ld ?_ | refine S.ldB ?_ | refine S.ce ?_ | refine S.ceB ?_ | refine s_q ?_ | refine s_qc (by omega) ?_ | refine n_some ?_ | rw [List.getD_cons_zero] | rw [List.getD_cons_succ]))
        refine S.st fun w3 S => ?_
        refine hK6 (b + 1, 10 * n + (byteAt s b - 48), f) _ ⟨by omega, by omega, by simp only; omega, by simp only; omega, by simp only; omega, hrec, S⟩ (Nat.lt_succ_self _)
    · rw [if_neg (by rw [hd]; simp)] at hK2
      exact hK2 _ _ ⟨rfl, S⟩
  · rintro x w2 ⟨rfl, S⟩ d2
    rw [List.getD_cons_zero]
    have hle := digR_le (s := s) (most := most) (fr := a) (s.length + 1 - a) a 0 ha (Int.le_refl _) (by omega) hm
    have hT : digT s most a = if (digR s most a (s.length + 1 - a) a 0).1 = a then (a, none) else ((digR s most a (s.length + 1 - a) a 0).1, some (digR s most a (s.length + 1 - a) a 0).2) := rfl
    rw [hT] at h
    generalize digR s most a (s.length + 1 - a) a 0 = x at *
    refine j_intro (fun _ w' => x.1 ≠ a ∧ StX X w0 r w' (rdC rb s x.1 :: L)) (fun K2 hK2 => ?_) ?_
    · (repeat (first | refine s_p ?_ | refine s_c (by omega) ?_ | refine S.ld ?_ | refine S.ldB ?_ | refine S.ce ?_ | refine S.ceB ?_ | refine s_q ?_ | refine s_qc (by omega) ?_ | refine n_some ?_ | rw [List.getD_cons_zero] | rw [List.getD_cons_succ]))
      refine c_if (fun he => ?_) (fun he => hK2 _ _ ⟨by omega, S⟩)
      have he : x.1 = a := by omega
      rw [if_pos he] at h
      (first | refine s_p ?_ | refine s_c (by omega) ?_)
      (first | refine s_p ?_ | refine s_c (by omega) ?_)
      refine ⟨_, _, rfl, (fun h => by cases h), ?_⟩
      exact h _ (by rw [he] at S; exact S)
    · rintro _ w3 ⟨hne, S⟩ d3
      rw [if_neg hne] at h
      exact h _ S
end
end Go.Proofs
