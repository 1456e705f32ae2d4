/-
  Contracts: the reader of types' texts: comes, take.
-/
import Derived.Test.YtajllnahceaipaaDoorFb
import Derived.Test.YtajllnahceaipaaDoorTk
namespace Go.Proofs
open Go.Sh
set_option maxRecDepth 100000

theorem j_bandH {w : World} {A : (List Value → World → Prop) → Prop} {Z : Value → World → Prop} {b c : Bool} (hA : b = true → ∀ K : List Value → World → Prop, K [.bool c] w → A K) (hZ : Z (.bool (b && c)) w) :
    sJoin (fun K => gIf (.bool b) true (A K) (K [undef] w)) fun s _ w' => oPick (.bool b) (s.getD 0 undef) (.bool false) fun t => Z t w' := by
  intro K hK
  cases b with
  | true => exact hA rfl K (hK _ _ fun _ => ⟨true, rfl, by simpa using hZ⟩)
  | false => exact hK _ _ fun _ => ⟨false, rfl, by simpa using hZ⟩
theorem j_borH {w : World} {A : (List Value → World → Prop) → Prop} {Z : Value → World → Prop} {b c : Bool} (hA : b = false → ∀ K : List Value → World → Prop, K [.bool c] w → A K) (hZ : Z (.bool (b || c)) w) :
    sJoin (fun K => gIf (.bool b) false (A K) (K [undef] w)) fun s _ w' => oPick (.bool b) (.bool true) (s.getD 0 undef) fun t => Z t w' := by
  intro K hK
  cases b with
  | true => exact hK _ _ fun _ => ⟨true, rfl, by simpa using hZ⟩
  | false => exact hA rfl K (hK _ _ fun _ => ⟨false, rfl, by simpa using hZ⟩)
theorem P_of_oCall {P : Program} {f : FuncId} {args : Array Value} {w : World} {K : Value → World → Prop} {Kp : List PanicEntry → World → Prop} (h : oCall P f args w K) : oCallP P f args w K Kp :=
  Calls.mono h fun e w' he => by obtain ⟨v, rfl, hk⟩ := he; exact hk
def prefB (l p : List UInt8) : Bool := decide ((p.length : Int) ≤ l.length) && (l.take p.length == p)
theorem c_HasPrefix {l p : List UInt8} {w : World} {K : Value → World → Prop} (h : K (.bool (prefB l p)) w) : oCall Tryd.prog Tryd.n_strings_HasPrefix #[.string (bs l), .string (bs p)] w K := by
  refine Tryd.ok_strings_HasPrefix ?_
  unfold Tryd.F_strings_HasPrefix
  refine Tryd.ok_internal_stringslite_HasPrefix ?_
  unfold Tryd.F_internal_stringslite_HasPrefix
  (first | refine s_p ?_ | refine s_c (by omega) ?_)
  (first | refine s_p ?_ | refine s_c (by omega) ?_)
  (first | refine s_p ?_ | refine s_c (by omega) ?_)
  refine j_bandH (c := l.take p.length == p) (fun hb K2 hK2 => ?_) h
  have hb : (p.length : Int) ≤ l.length := by simpa using hb
  (first | refine s_p ?_ | refine s_c (by omega) ?_)
  (first | refine s_p ?_ | refine s_c (by omega) ?_)
  (first | refine s_p ?_ | refine s_c (by omega) ?_)
  exact hK2
/-- where the reader stands -/
abbrev rdC (rb : Nat) (s : List UInt8) (a : Nat) : Asr := .cell rb [.string (bs s), .int .i64 (a : Int)] 88
abbrev rdP (rb : Nat) : Value := .pointer (some ⟨rb, 0, none⟩)
/-- what a reader that is stuck throws -/
abbrev stuckV : List PanicEntry := [{ v := .iface 90 (.agg #[]), recovered := false }]
section
variable {X : Nat → Prop} {w0 w : World} {r : Gh} {L : List Asr} {rb : Nat} {s p : List UInt8} {a : Nat} {K : Value → World → Prop} {Kp : List PanicEntry → World → Prop}
theorem c_comes (S : StX X w0 r w (rdC rb s a :: L)) (ha : a ≤ s.length) (h : ∀ w', StX X w0 r w' (rdC rb s a :: L) → K (.bool (prefB (s.drop a) p)) w') :
    oCallP Tryd.prog Tryd.n_types_reader_comes #[rdP rb, .string (bs p)] w K Kp := by
  refine P_of_oCall ?_
  refine Tryd.ok_types_reader_comes ?_
  unfold Tryd.F_types_reader_comes
  have S := S.go (Ext.drew _)
  (repeat (first | refine s_p ?_ | refine s_c (by omega) ?_ | refine S.ld ?_ | refine S.ldB ?_ | refine S.ce ?_ | refine S.ceB ?_ | refine s_q ?_ | refine s_qc (by omega) ?_ | refine n_some ?_ | rw [List.getD_cons_zero] | rw [List.getD_cons_succ]))
  exact c_HasPrefix (h _ S)
/-- take a text, byte by byte -/
def takeR (s : List UInt8) : List UInt8 → Nat → Nat × Bool
  | [], a => (a, true)
  | c :: p, a => if (decide ((a : Int) = s.length) || decide (byteAt s a ≠ (c.toNat : Int))) then (a, false) else takeR s p (a + 1)
theorem takeR_le : ∀ (p : List UInt8) (a : Nat), a ≤ s.length → (takeR s p a).1 ≤ s.length
  | [], _, h => h
  | c :: p, a, h => by
    rw [takeR]; split
    · exact h
    · rename_i hn
      simp only [Bool.or_eq_true, decide_eq_true_eq, not_or] at hn
      exact takeR_le p (a + 1) (by omega)
theorem takeR_ge : ∀ (p : List UInt8) (a : Nat), a ≤ (takeR s p a).1
  | [], _ => Nat.le_refl _
  | c :: p, a => by
    rw [takeR]; split
    · exact Nat.le_refl _
    · exact Nat.le_trans (Nat.le_succ _) (takeR_ge p (a + 1))
theorem c_take (S : StX X w0 r w (rdC rb s a :: L)) (ha : a ≤ s.length) (hs : s.length ≤ 1000000000) (hp : p.length ≤ 1000000)
    (h : ∀ w', StX X w0 r w' (rdC rb s (takeR s p a).1 :: L) → if (takeR s p a).2 then K (.tuple #[]) w' else Kp stuckV w') :
    oCallP Tryd.prog Tryd.n_types_reader_take #[rdP rb, .string (bs p)] w K Kp := by
  refine Tryd.ok_types_reader_take ?_
  unfold Tryd.F_types_reader_take
  (first | refine s_p ?_ | refine s_c (by omega) ?_)
  refine l_intro (ι := Nat) (fun i => [.int .i64 i]) (fun i w' => i ≤ p.length ∧ a + i ≤ s.length ∧ takeR s p a = takeR s (p.drop i) (a + i) ∧ StX X w0 r w' (rdC rb s (a + i) :: L)) (fun i => p.length - i) 0 rfl ⟨Nat.zero_le _, ha, rfl, S⟩ ?_
  clear S
  rintro i d w1 ⟨hi, hai, hrec, S⟩ K6 hK6
  simp only [List.getD_cons_zero]
  (first | refine s_p ?_ | refine s_c (by omega) ?_)
  refine c_if (fun hlt => ?_) (fun hge => ?_)
  · have hlt : i < p.length := by omega
    rw [List.drop_eq_getElem_cons hlt, takeR] at hrec
    have hpi : byteAt p i = (p[i].toNat : Int) := by rw [byteAt, List.getD_eq_getElem?_getD, List.getElem?_eq_getElem hlt]; rfl
    refine j_intro (fun _ w' => (decide (((a + i : Nat) : Int) = s.length) || decide (byteAt s (a + i) ≠ (p[i].toNat : Int))) = false ∧ StX X w0 r w' (rdC rb s (a + i) :: L)) (fun K2 hK2 => ?_) ?_
    · have S := S.go (Ext.drew _)
      (repeat (first | refine s_p ?_ | refine s_c (by omega) ?_ | refine S.ld ?_ | refine S.ldB ?_ | refine S.ce ?_ | refine S.ceB ?_ | refine s_q ?_ | refine s_qc (by omega) ?_ | refine n_some ?_ | rw [List.getD_cons_zero] | rw [List.getD_cons_succ]))
      refine j_borH (c := decide (byteAt s (a + i) ≠ (p[i].toNat : Int))) (fun hb K3 hK3 => ?_) ?_
      · have hb : ¬ ((a + i : Nat) : Int) = s.length := by simpa using hb
        (repeat (first | refine s_p ?_ | refine s_c (by omega) ?_ | refine S.ld ?_ | refine S.ldB ?_ | refine S.ce ?_ | refine S.ceB ?_ | refine s_q ?_ | refine s_qc (by omega) ?_ | refine n_some ?_ | rw [List.getD_cons_zero] | rw [List.getD_cons_succ]))
        rw [Int.toNat_natCast, Int.toNat_natCast, hpi]; exact hK3
      refine c_b (fun hc => ?_) (fun hc => hK2 _ _ ⟨hc, S⟩)
      rw [if_pos hc] at hrec
      (first | refine s_p ?_ | refine s_c (by omega) ?_)
      (first | refine s_p ?_ | refine s_c (by omega) ?_)
      refine ⟨_, _, rfl, (fun h => by cases h), ?_⟩
      have := h w1.drew (by rw [hrec]; exact S)
      rw [hrec] at this
      exact this
    · rintro _ w2 ⟨hc, S⟩ d2
      rw [hc, if_neg (by simp)] at hrec
      simp only [Bool.or_eq_false_iff, decide_eq_false_iff_not] at hc
      (repeat (first | refine s_p ?_ | refine s_c (by omega) ?_ | refine S.ld ?_ | refine S.ldB ?_ | refine S.ce ?_ | refine S.ceB ?_ | refine s_q ?_ | refine s_qc (by omega) ?_ | refine n_some ?_ | rw [List.getD_cons_zero] | rw [List.getD_cons_succ]))
      refine S.st fun w3 S => ?_
      (first | refine s_p ?_ | refine s_c (by omega) ?_)
      refine hK6 (i + 1) _ ⟨hlt, by omega, hrec, ?_⟩ (by omega)
      exact S
  · have : i = p.length := by omega
    subst this
    rw [List.drop_length, takeR] at hrec
    have := h w1 (by rw [hrec]; exact S)
    rw [hrec] at this
    exact this
end
end Go.Proofs
