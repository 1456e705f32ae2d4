/-
  The bits of a row, rising. No program in sight.
-/
import Derived.Test.YtgbfpnnimnjbdaaDoorBo
namespace Go.BM
open Go.Sh

def bitsFrom : Nat → List (BitVec 64) → List Nat
  | _, [] => []
  | i, x :: ws => (wbits x).map (64 * i + ·) ++ bitsFrom (i + 1) ws
/-- the set bits of a row's words, rising -/
def bitsOf (ws : List (BitVec 64)) : List Nat := bitsFrom 0 ws
theorem wbits_le (x : BitVec 64) : (wbits x).length ≤ 64 := by
  have := List.length_filter_le x.getLsbD (List.range 64)
  simpa [wbits] using this
theorem bitsFrom_append : ∀ (a b : List (BitVec 64)) (i : Nat), bitsFrom i (a ++ b) = bitsFrom i a ++ bitsFrom (i + a.length) b
  | [], b, i => rfl
  | x :: a, b, i => by
    simp only [List.cons_append, bitsFrom, List.length_cons, List.append_assoc]
    rw [bitsFrom_append a b (i + 1), show i + 1 + a.length = i + (a.length + 1) by omega]
theorem bitsFrom_le : ∀ (a : List (BitVec 64)) (i : Nat), (bitsFrom i a).length ≤ 64 * a.length
  | [], _ => Nat.le_refl _
  | x :: a, i => by
    have := bitsFrom_le a (i + 1); have := wbits_le x
    simp only [bitsFrom, List.length_append, List.length_map, List.length_cons]; omega
theorem bitsFrom_take {ws : List (BitVec 64)} {i : Nat} (hi : i < ws.length) (k : Nat) :
    bitsFrom k (ws.take (i + 1)) = bitsFrom k (ws.take i) ++ (wbits ws[i]).map (64 * (k + i) + ·) := by
  rw [List.take_succ_eq_append_getElem hi, bitsFrom_append]
  simp only [bitsFrom, List.append_nil, List.length_take]
  rw [Nat.min_eq_left (by omega)]
theorem bitsFrom_drop {ws : List (BitVec 64)} {i : Nat} (hi : i < ws.length) (k : Nat) :
    bitsFrom k (ws.drop i) = (wbits ws[i]).map (64 * k + ·) ++ bitsFrom (k + 1) (ws.drop (i + 1)) := by
  rw [List.drop_eq_getElem_cons hi]; rfl
theorem filter_range_add (p : Nat → Bool) (a n : Nat) : ((List.range n).filter fun j => p (a + j)).map (a + ·) = (List.range' a n).filter p := by
  rw [List.range'_eq_map_range, List.filter_map]; rfl
theorem bitsFrom_filter : ∀ (ws : List (BitVec 64)) (i : Nat) (p : Nat → Bool), (∀ k, k < 64 * ws.length → p (64 * i + k) = bit ws k) → bitsFrom i ws = (List.range' (64 * i) (64 * ws.length)).filter p
  | [], _, _, _ => rfl
  | x :: ws, i, p, h => by
    rw [bitsFrom, bitsFrom_filter ws (i + 1) p (fun k hk => by
      have := h (64 + k) (by simp; omega)
      rw [show 64 * i + (64 + k) = 64 * (i + 1) + k by omega] at this
      rw [this, bit, bit, show (64 + k) / 64 = k / 64 + 1 by omega, show (64 + k) % 64 = k % 64 by omega]; rfl)]
    have h1 : (wbits x).map (64 * i + ·) = (List.range' (64 * i) 64).filter p := by
      rw [← filter_range_add]
      congr 1
      apply List.filter_congr
      intro j hj
      have hj := List.mem_range.1 hj
      rw [h j (by simp; omega), bit, show j / 64 = 0 by omega, show j % 64 = j by omega]; rfl
    rw [h1, ← List.filter_append]
    congr 1
theorem bitsOf_filter (ws : List (BitVec 64)) : bitsOf ws = (List.range (64 * ws.length)).filter (bit ws) := by
  rw [bitsOf, bitsFrom_filter ws 0 (bit ws) (fun k _ => by rw [Nat.mul_zero, Nat.zero_add]), List.range_eq_range']
theorem bitsOf_may {W : Int} {ws : List (BitVec 64)} (h : May W ws) : bitsOf ws = (List.range W.toNat).filter (bit ws) := by
  obtain ⟨h0, h1, h2, h3⟩ := h
  rw [bitsOf_filter, show 64 * ws.length = W.toNat + (64 * ws.length - W.toNat) by omega, List.range_add, List.filter_append]
  have : ((List.range (64 * ws.length - W.toNat)).map (W.toNat + ·)).filter (bit ws) = [] := by
    rw [List.filter_eq_nil_iff]
    intro k hk
    obtain ⟨j, hj, rfl⟩ := List.mem_map.1 hk
    have := List.mem_range.1 hj
    rw [h3 (W.toNat + j) (by omega) (by omega)]; simp
  rw [this, List.append_nil]
end Go.BM
