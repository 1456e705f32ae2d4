/-
  Contracts: what one type asks of another.
-/
import Derived.Test.YtajllnahceaipaaDoorTe
namespace Go.Proofs
open Go.Sh
set_option maxRecDepth 100000

theorem c_IndexFunc_int {f : Int → Bool} {fv : Value} (hf : ∀ (x : Int) (w : World) (K : Value → World → Prop), K (.bool (f x)) w → oCallV Tryd.prog fv #[.int .i64 x] w K) {w : World} {p : Option Addr} {l : List Int} {cap : Nat} {K : Value → World → Prop}
    (hl : Sl w p (ints l)) (hb : l.length ≤ 1000000000) (h : ∀ i : Int, (0 ≤ i ↔ l.any f = true) → K (.int .i64 i) w) : oCall Tryd.prog Tryd.n_slices_IndexFunc_int_int #[.slice p l.length cap, fv] w K := by
  refine Tryd.ok_slices_IndexFunc_int_int ?_
  unfold Tryd.F_slices_IndexFunc_int_int
  (first | refine s_p ?_ | refine s_c (by omega) ?_)
  refine l_intro (ι := Nat) (fun i => [.int .i64 i]) (fun i w' => w' = w ∧ i ≤ l.length ∧ (l.take i).any f = false) (fun i => l.length - i) 0 rfl ⟨rfl, Nat.zero_le _, by simp⟩ ?_
  rintro i d w' ⟨rfl, hi, hn⟩ K6 hK6
  simp only [List.getD_cons_zero]
  (first | refine s_p ?_ | refine s_c (by omega) ?_)
  refine c_if (fun hlt => ?_) (fun hge => ?_)
  · have hlt : i < l.length := by omega
    obtain ⟨b, off, rfl, hc⟩ := hl.at (i := i) (by rw [ints_len]; exact hlt)
    (first | refine s_p ?_ | refine s_c (by omega) ?_)
    have hv : (ints l)[i]'(by rw [ints_len]; exact hlt) = .int .i64 l[i] := by simp [ints]
    rw [hv] at hc
    refine s_ld1 (by simpa using hc) ?_
    refine hf _ _ _ ?_
    have ht : (l.take (i + 1)).any f = ((l.take i).any f || f l[i]) := by
      rw [List.take_succ_eq_append_getElem hlt, List.any_append]; simp only [List.any_cons, List.any_nil, Bool.or_false]
    refine c_b (fun hy => ?_) (fun hno => ?_)
    · refine h _ ⟨fun _ => ?_, fun _ => Int.natCast_nonneg _⟩
      exact List.any_eq_true.2 ⟨l[i], List.getElem_mem hlt, hy⟩
    · (first | refine s_p ?_ | refine s_c (by omega) ?_)
      refine hK6 (i + 1) _ ⟨rfl, hlt, ?_⟩ (by omega)
      rw [ht, hn, hno]; rfl
  · have : i = l.length := by omega
    subst this
    rw [List.take_length] at hn
    exact h _ ⟨fun h => by omega, fun h => by rw [hn] at h; cases h⟩
theorem c_ContainsFunc_int {f : Int → Bool} {fv : Value} (hf : ∀ (x : Int) (w : World) (K : Value → World → Prop), K (.bool (f x)) w → oCallV Tryd.prog fv #[.int .i64 x] w K) {w : World} {p : Option Addr} {l : List Int} {cap : Nat} {K : Value → World → Prop}
    (hl : Sl w p (ints l)) (hb : l.length ≤ 1000000000) (h : K (.bool (l.any f)) w) : oCall Tryd.prog Tryd.n_slices_ContainsFunc_int_int #[.slice p l.length cap, fv] w K := by
  refine Tryd.ok_slices_ContainsFunc_int_int ?_
  unfold Tryd.F_slices_ContainsFunc_int_int
  refine c_IndexFunc_int hf hl hb fun i hi => ?_
  (first | refine s_p ?_ | refine s_c (by omega) ?_)
  have e : decide (i ≥ 0) = l.any f := by
    by_cases hh : l.any f = true
    · rw [hh]; exact decide_eq_true (hi.2 hh)
    · rw [Bool.eq_false_iff.2 hh]; exact decide_eq_false fun h => hh (hi.1 h)
  rw [e]; exact h

/-- pairs of regions, as they lie -/
def cons2 (l : List (Int × Int)) : List Value := l.flatMap fun p => [.int .i64 p.1, .int .i64 p.2]
theorem cons2_append (a b : List (Int × Int)) : cons2 (a ++ b) = cons2 a ++ cons2 b := List.flatMap_append ..
theorem cons2_len (l : List (Int × Int)) : (cons2 l).length = l.length * 2 := by
  induction l with
  | nil => rfl
  | cons p l ih => simp only [cons2, List.flatMap_cons, List.length_append] at *; simp [ih]; omega
theorem cons2_ones (l : List (Int × Int)) : ∀ u ∈ cons2 l, u.oneCell' = true := by
  intro u hu
  obtain ⟨p, _, hu⟩ := List.mem_flatMap.1 hu
  rcases List.mem_cons.1 hu with rfl | hu
  · rfl
  · rcases List.mem_cons.1 hu with rfl | hu
    · rfl
    · cases hu
def stepL (both : Bool) (a b : TyD) : List (Int × Int) := if a.k = 4 then (a.re, b.re) :: (if both then [(b.re, a.re)] else []) else []
def bothL (both : Bool) (a : TyD) : Bool := if a.k = 4 then both || a.m else both
/-- what the types along one chain ask of those along another -/
def asksC : Bool → List TyD → List TyD → List (Int × Int)
  | both, a :: l, b :: m => stepL both a b ++ asksC (bothL both a) l m
  | _, _, _ => []
def asksD (both : Bool) (a b : TyD) : List (Int × Int) := asksC both a.chain b.chain
/-- two that may be and are alike -/
def Alk (n : Nat) (a b : TyD) : Prop := lookB 32 n a = true ∧ lookB 32 n b = true ∧ alikeB fAll n a b = true
theorem alk_cases {n : Nat} {a b : TyD} (h : Alk n a b) : ∃ m, n = m + 1 ∧ a.k = b.k ∧ ((a.k ≠ 4 ∧ a.k ≠ 3 ∧ a.of = [] ∧ ∀ g, asksD g a b = []) ∨
    ∃ x y, a.of = [x] ∧ b.of = [y] ∧ Alk m x y ∧ (a.k = 3 ∨ a.k = 4) ∧ ∀ g, asksD g a b = stepL g a b ++ asksD (bothL g a) x y) := by
  obtain ⟨h1, h2, h3⟩ := h
  cases n with
  | zero => cases h1
  | succ m =>
    have hk : a.k = b.k := by
      rw [alikeB] at h3
      simp only [Bool.and_eq_true, Bool.not_eq_true', Bool.or_eq_false_iff, decide_eq_false_iff_not, Classical.not_not] at h3
      exact h3.1.1.1.1
    refine ⟨m, rfl, hk, ?_⟩
    rcases look_cases h1 with ⟨ha, hka⟩ | ⟨x, ha, hx, hka⟩
    · refine .inl ⟨by omega, by omega, ha, fun g => ?_⟩
      have h4 : a.k ≠ 4 := by omega
      rw [asksD, TyD.chain_eq a, TyD.chain_eq b, asksC, ha, stepL, if_neg h4, TyD.chains]
      rfl
    · rcases look_cases h2 with ⟨_, hkb⟩ | ⟨y, hb, hy, hkb⟩
      · exfalso; omega
      rw [alikeB_one ha hb] at h3
      refine .inr ⟨x, y, ha, hb, ⟨hx, hy, (Bool.and_eq_true _ _ ▸ h3).2⟩, hka, fun g => ?_⟩
      rw [asksD, TyD.chain_eq a, TyD.chain_eq b, asksC, ha, hb]; rfl
theorem asksC_len : ∀ (l m : List TyD) (g : Bool), (asksC g l m).length ≤ 2 * l.length
  | [], _, _ => by simp [asksC]
  | a :: l, [], _ => by simp [asksC]
  | a :: l, b :: m, g => by
    rw [asksC, List.length_append, List.length_cons]
    have := asksC_len l m (bothL g a)
    have : (stepL g a b).length ≤ 2 := by
      rw [stepL]; split
      · split <;> simp
      · simp
    omega
theorem asksD_len {n : Nat} {a b : TyD} {g : Bool} (h : Alk n a b) : (asksD g a b).length ≤ 2 * n := by
  have := asksC_len a.chain b.chain g
  have := chain_len n (look_ht h.1)
  rw [asksD]; omega
theorem c_types_Asks_2 {X : Nat → Prop} {w0 w : World} {r : Gh} {L : List Asr} {bl : Nat} {v : Value} {ds : List (Int × Int)} {x y : Int} {K : Value → World → Prop}
    (S : StX X w0 r w (.cell bl [v] 28 :: .row v 35 2 ds.length (cons2 ds) :: L)) (hl : ds.length < 1000000000)
    (h : ∀ v' w', StX X w0 r w' (.cell bl [v'] 28 :: .row v' 35 2 (ds ++ [(x, y)]).length (cons2 (ds ++ [(x, y)])) :: L) → K (.tuple #[]) w') :
    oCall Tryd.prog Tryd.n_types_Asks_2 #[.int .i64 x, .int .i64 y, .pointer (some ⟨bl, 0, none⟩)] w K := by
  refine Tryd.ok_types_Asks_2 ?_
  unfold Tryd.F_types_Asks_2
  (repeat (first | refine s_p ?_ | refine s_c (by omega) ?_ | refine S.ld ?_ | refine S.ldB ?_ | refine S.ce ?_ | refine S.ceB ?_ | refine s_q ?_ | refine s_qc (by omega) ?_ | refine n_some ?_ | rw [List.getD_cons_zero] | rw [List.getD_cons_succ]))
  refine S.lit (e := 35) (cs := [.int .i64 x, .int .i64 y]) (by kernel_rfl) fun b3 w3 S => ?_
  refine S.ap (Sl.blk (S.blk b3)) (fun v4 w4 S => ?_) (by omega)
  refine S.st (h1 := S.row1 v4) fun w5 S => ?_
  refine h v4 w5 ?_
  rw [cons2_append, List.length_append]
  exact S.tl
end Go.Proofs
