/-
  Rows put together, turned, and what bits that makes. No program in sight.
-/
import Derived.Test.YtgbfpnnimnjbdaaDoorBp
namespace Go.BM
open Go.Sh

theorem getD_zip (g : BitVec 64 → BitVec 64 → BitVec 64) (hg : g 0 0 = 0) : ∀ (a b : List (BitVec 64)) (i : Nat), a.length = b.length → (List.zipWith g a b).getD i 0 = g (a.getD i 0) (b.getD i 0)
  | [], [], i, _ => by simpa using hg.symm
  | [], _ :: _, _, h => by simp at h
  | _ :: _, [], _, h => by simp at h
  | x :: a, y :: b, 0, _ => rfl
  | x :: a, y :: b, i + 1, h => by
    have := getD_zip g hg a b i (by simpa using h)
    simpa [List.zipWith_cons_cons] using this
theorem bit_zip {g : BitVec 64 → BitVec 64 → BitVec 64} {h : Bool → Bool → Bool} (hg : ∀ x y j, j < 64 → (g x y).getLsbD j = h (x.getLsbD j) (y.getLsbD j)) (h0 : g 0 0 = 0)
    {a b : List (BitVec 64)} (hl : a.length = b.length) (k : Nat) : bit (List.zipWith g a b) k = h (bit a k) (bit b k) := by
  rw [bit, getD_zip g h0 a b _ hl, hg _ _ _ (by omega)]; rfl
theorem may_zip {g : BitVec 64 → BitVec 64 → BitVec 64} {h : Bool → Bool → Bool} (hg : ∀ x y j, j < 64 → (g x y).getLsbD j = h (x.getLsbD j) (y.getLsbD j)) (h0 : g 0 0 = 0) (hh : h false false = false)
    {W : Int} {a b : List (BitVec 64)} (ha : May W a) (hb : May W b) : May W (List.zipWith g a b) := by
  have hl : a.length = b.length := by have := ha.2.2.1; have := hb.2.2.1; omega
  refine ⟨ha.1, ha.2.1, ?_, fun k hk hk' => ?_⟩
  · rw [List.length_zipWith, hl, Nat.min_self]; exact hb.2.2.1
  · rw [List.length_zipWith, hl, Nat.min_self] at hk'
    rw [bit_zip hg h0 hl, ha.2.2.2 k hk (by omega), hb.2.2.2 k hk (by omega), hh]
theorem or_bit (x y : BitVec 64) (j : Nat) (_ : j < 64) : (x ||| y).getLsbD j = (x.getLsbD j || y.getLsbD j) := BitVec.getLsbD_or
theorem and_bit (x y : BitVec 64) (j : Nat) (_ : j < 64) : (x &&& y).getLsbD j = (x.getLsbD j && y.getLsbD j) := BitVec.getLsbD_and
theorem less_bit (x y : BitVec 64) (j : Nat) (hj : j < 64) : (x &&& ~~~ y).getLsbD j = (x.getLsbD j && !y.getLsbD j) := by
  rw [BitVec.getLsbD_and, BitVec.getLsbD_not]; simp [hj]
/-- rows of one length with the same bits are one -/
theorem row_ext {a b : List (BitVec 64)} (hl : a.length = b.length) (h : ∀ k, k < 64 * a.length → bit a k = bit b k) : a = b := by
  apply List.ext_getElem hl
  intro i h1 h2
  apply BitVec.eq_of_getLsbD_eq
  intro j hj
  have := h (64 * i + j) (by omega)
  rwa [bit_word h1 j hj, bit_word h2 j hj] at this
theorem may_ext {W : Int} {a b : List (BitVec 64)} (ha : May W a) (hb : May W b) (h : ∀ k : Nat, (k : Int) < W → bit a k = bit b k) : a = b := by
  have hl : a.length = b.length := by have := ha.2.2.1; have := hb.2.2.1; omega
  refine row_ext hl fun k hk => ?_
  by_cases hk' : (k : Int) < W
  · exact h k hk'
  · rw [ha.2.2.2 k (by omega) hk, hb.2.2.2 k (by omega) (by omega)]

/-! ### One bit turned -/
theorem one_shl (j i : Nat) (_ : j < 64) (hi : i < 64) : (BitVec.ofInt 64 1 <<< j).getLsbD i = decide (i = j) := by
  rw [show BitVec.ofInt 64 1 = 1#64 from rfl, BitVec.getLsbD_shiftLeft, BitVec.getLsbD_one]
  by_cases h : i = j
  · subst h; simp [hi]
  · by_cases h2 : i < j
    · simp [h2, h]
    · have : ¬ (i - j = 0) := by omega
      simp [h, this]
theorem getD_set (l : List (BitVec 64)) (i j : Nat) (x : BitVec 64) (hi : i < l.length) : (l.set i x).getD j 0 = if j = i then x else l.getD j 0 := by
  rw [List.getD_eq_getElem?_getD, List.getElem?_set]
  by_cases h : i = j
  · subst h; simp [hi]
  · have : ¬ j = i := fun e => h e.symm
    simp [h, this, List.getD_eq_getElem?_getD]
theorem bit_turnW {g : BitVec 64 → BitVec 64 → BitVec 64} {h : Bool → Bool → Bool} (hg : ∀ x y j, j < 64 → (g x y).getLsbD j = h (x.getLsbD j) (y.getLsbD j))
    (hh : ∀ b, h b false = b) {ws : List (BitVec 64)} {n : Int} (hn : n.toNat < 64 * ws.length) (k : Nat) : bit (turnW g ws n) k = if k = n.toNat then h (bit ws k) true else bit ws k := by
  rw [bit, turnW, getD_set _ _ _ _ (by omega)]
  by_cases h1 : k / 64 = n.toNat / 64
  · rw [if_pos h1, hg _ _ _ (by omega), one_shl _ _ (by omega) (by omega), h1.symm]
    by_cases h2 : k = n.toNat
    · rw [if_pos h2, h2, decide_eq_true rfl]; rfl
    · have : ¬ k % 64 = n.toNat % 64 := by omega
      rw [if_neg h2, decide_eq_false this, hh]; rfl
  · rw [if_neg h1, if_neg (fun e => h1 (by rw [e]))]; rfl
theorem may_turnW {g : BitVec 64 → BitVec 64 → BitVec 64} {h : Bool → Bool → Bool} (hg : ∀ x y j, j < 64 → (g x y).getLsbD j = h (x.getLsbD j) (y.getLsbD j)) (hh : ∀ b, h b false = b)
    {W : Int} {ws : List (BitVec 64)} (hm : May W ws) {n : Int} (hn : 0 ≤ n ∧ n < W) : May W (turnW g ws n) := by
  have hl := hm.2.2.1
  refine ⟨hm.1, hm.2.1, by rw [turnW_length]; exact hl, fun k hk hk' => ?_⟩
  rw [turnW_length] at hk'
  rw [bit_turnW hg hh (by omega), if_neg (by omega)]
  exact hm.2.2.2 k hk hk'
theorem may_turnAll {g : BitVec 64 → BitVec 64 → BitVec 64} {h : Bool → Bool → Bool} (hg : ∀ x y j, j < 64 → (g x y).getLsbD j = h (x.getLsbD j) (y.getLsbD j)) (hh : ∀ b, h b false = b)
    {W : Int} : ∀ (ls : List Int) (ws : List (BitVec 64)), May W ws → AllIn W ls → May W (turnAll g ws ls)
  | [], _, hm, _ => hm
  | n :: ls, ws, hm, ha => by
    have := may_turnAll hg hh ls (turnW g ws n) (may_turnW hg hh hm (ha n (List.mem_cons_self ..))) fun k hk => ha k (List.mem_cons_of_mem _ hk)
    simpa [turnAll] using this
theorem bit_turnOr {W : Int} : ∀ (ls : List Int) (ws : List (BitVec 64)), May W ws → AllIn W ls → ∀ k, bit (turnAll (fun x y => x ||| y) ws ls) k = (bit ws k || decide ((k : Int) ∈ ls))
  | [], _, _, _, k => by simp [turnAll]
  | n :: ls, ws, hm, ha, k => by
    have hn := ha n (List.mem_cons_self ..)
    have h1 := bit_turnOr ls (turnW (fun x y => x ||| y) ws n) (may_turnW (h := fun a b => a || b) or_bit (by simp) hm hn) (fun k hk => ha k (List.mem_cons_of_mem _ hk)) k
    have hl := hm.2.2.1
    simp only [turnAll, List.foldl_cons] at h1 ⊢
    rw [h1, bit_turnW (h := fun a b => a || b) or_bit (by simp) (by omega)]
    by_cases h2 : k = n.toNat
    · have : (k : Int) = n := by omega
      simp [h2, show ((n.toNat : Int)) = n by omega]
    · have : ¬ (k : Int) = n := by omega
      simp [h2, this]
theorem may_zeros {W : Int} (h0 : 0 ≤ W) (h1 : W ≤ 1032) : May W (List.replicate ((W.toNat + 63) / 64) 0#64) := by
  refine ⟨h0, h1, by rw [List.length_replicate]; omega, fun k _ _ => ?_⟩
  simp [bit, List.getD_eq_getElem?_getD, List.getElem?_replicate]
  split <;> simp
theorem bit_zeros (n k : Nat) : bit (List.replicate n 0#64) k = false := by
  simp [bit, List.getD_eq_getElem?_getD, List.getElem?_replicate]
  split <;> simp
end Go.BM
