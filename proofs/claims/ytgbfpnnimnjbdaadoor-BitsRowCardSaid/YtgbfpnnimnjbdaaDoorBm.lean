/-
  Rows of bits as plain data: width and words. No program in sight.
-/
import Derived.Test.YtgbfpnnimnjbdaaDoorSh7
namespace Go.BM
open Go.Sh

/-- bit k of a list of words -/
def bit (ws : List (BitVec 64)) (k : Nat) : Bool := (ws.getD (k / 64) 0).getLsbD (k % 64)
/-- may a row be? -/
def May (W : Int) (ws : List (BitVec 64)) : Prop := 0 ≤ W ∧ W ≤ 1032 ∧ (ws.length : Int) = (W + 63) / 64 ∧ ∀ k : Nat, W ≤ (k : Int) → k < 64 * ws.length → bit ws k = false
noncomputable def mayB (W : Int) (ws : List (BitVec 64)) : Bool := @decide (May W ws) (Classical.propDecidable _)
theorem mayB_iff {W : Int} {ws : List (BitVec 64)} : mayB W ws = true ↔ May W ws := by simp [mayB]
theorem mayB_true {W : Int} {ws : List (BitVec 64)} (h : May W ws) : mayB W ws = true := mayB_iff.2 h
theorem mayB_false {W : Int} {ws : List (BitVec 64)} (h : ¬ May W ws) : mayB W ws = false := by simpa [mayB] using h

theorem bit_word {ws : List (BitVec 64)} {i : Nat} (hi : i < ws.length) (j : Nat) (hj : j < 64) : bit ws (64 * i + j) = ws[i].getLsbD j := by
  have h1 : (64 * i + j) / 64 = i := by omega
  have h2 : (64 * i + j) % 64 = j := by omega
  simp [bit, h1, h2, List.getD_eq_getElem?_getD, hi]
/-- of a width that is no multiple of 64: the last word shifted is zero just if no bit lies behind the width -/
theorem may_last {W : Int} {ws : List (BitVec 64)} (h0 : 0 ≤ W) (h1 : W ≤ 1032) (hl : (ws.length : Int) = (W + 63) / 64) (hm : ¬ W % 64 = 0) (hlt : ws.length - 1 < ws.length) :
    May W ws ↔ ws[ws.length - 1] >>> (W % 64).toNat = 0#64 := by
  have hp : ws.length = (W.toNat + 63) / 64 := by omega
  constructor
  · rintro ⟨_, _, _, hb⟩
    apply BitVec.eq_of_getLsbD_eq
    intro i hi
    rw [BitVec.getLsbD_ushiftRight, BitVec.getLsbD_zero]
    by_cases hi' : (W % 64).toNat + i < 64
    · have := hb (64 * (ws.length - 1) + ((W % 64).toNat + i)) (by omega) (by omega)
      rwa [bit_word hlt _ hi'] at this
    · exact BitVec.getLsbD_of_ge _ _ (by omega)
  · intro hz
    refine ⟨h0, h1, hl, fun k hk hk' => ?_⟩
    have h2 : k / 64 = ws.length - 1 := by omega
    have h3 : k % 64 = (W % 64).toNat + (k % 64 - (W % 64).toNat) := by omega
    have h4 : bit ws k = ws[ws.length - 1].getLsbD (k % 64) := by
      simp [bit, h2, List.getD_eq_getElem?_getD, hlt]
    rw [h4, h3, ← BitVec.getLsbD_ushiftRight, hz]; simp
theorem may_even {W : Int} {ws : List (BitVec 64)} (h0 : 0 ≤ W) (h1 : W ≤ 1032) (hl : (ws.length : Int) = (W + 63) / 64) (hm : W % 64 = 0) : May W ws :=
  ⟨h0, h1, hl, fun k hk hk' => by omega⟩
theorem shr_and_one (x : BitVec 64) (n : Nat) : (((x >>> n) &&& BitVec.ofInt 64 1).toNat : Int) = 1 ↔ x.getLsbD n = true := by
  have h1 : BitVec.ofInt 64 1 = 1#64 := rfl
  rw [h1]
  have h2 : (x >>> n) &&& 1#64 = if x.getLsbD n then 1#64 else 0#64 := by
    apply BitVec.eq_of_getLsbD_eq
    intro i hi
    rw [BitVec.getLsbD_and, BitVec.getLsbD_ushiftRight]
    by_cases h0 : i = 0
    · subst h0; cases h : x.getLsbD n <;> simp
    · have : (1#64).getLsbD i = false := by
        rw [BitVec.getLsbD_ofNat]
        have : Nat.testBit 1 i = false := by
          cases ht : Nat.testBit 1 i with
          | false => rfl
          | true => exact absurd (Nat.testBit_one_eq_true_iff_self_eq_zero.1 ht) h0
        simp [this]
      cases h : x.getLsbD n <;> simp [this]
  rw [h2]
  cases x.getLsbD n <;> simp
/-- one bit of words turned by g -/
def turnW (g : BitVec 64 → BitVec 64 → BitVec 64) (ws : List (BitVec 64)) (k : Int) : List (BitVec 64) :=
  ws.set (k.toNat / 64) (g (ws.getD (k.toNat / 64) 0) (BitVec.ofInt 64 1 <<< (k.toNat % 64)))
def turnAll (g : BitVec 64 → BitVec 64 → BitVec 64) (ws : List (BitVec 64)) (ls : List Int) : List (BitVec 64) := ls.foldl (turnW g) ws
theorem turnW_length (g : BitVec 64 → BitVec 64 → BitVec 64) (ws : List (BitVec 64)) (k : Int) : (turnW g ws k).length = ws.length := by simp [turnW]
theorem turnAll_length (g : BitVec 64 → BitVec 64 → BitVec 64) : ∀ (ls : List Int) (ws : List (BitVec 64)), (turnAll g ws ls).length = ws.length
  | [], _ => rfl
  | k :: ls, ws => by
    have := turnAll_length g ls (turnW g ws k)
    simp only [turnAll, List.foldl_cons] at this ⊢
    rw [this, turnW_length]
theorem turnAll_snoc (g : BitVec 64 → BitVec 64 → BitVec 64) (ws : List (BitVec 64)) (ls : List Int) (k : Int) : turnAll g ws (ls ++ [k]) = turnW g (turnAll g ws ls) k := by
  simp [turnAll]
/-- all of these are bits of a row of width W -/
def AllIn (W : Int) (ls : List Int) : Prop := ∀ k ∈ ls, 0 ≤ k ∧ k < W
end Go.BM
