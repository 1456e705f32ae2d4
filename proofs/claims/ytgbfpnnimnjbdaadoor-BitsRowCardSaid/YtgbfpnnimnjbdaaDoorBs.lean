/-
  Rows and their bytes: there and back; a row is told by its bits.
-/
import Derived.Test.YtgbfpnnimnjbdaaDoorBr
import Derived.Test.YtgbfpnnimnjbdaaDoorBq
namespace Go.BM
open Go.Sh

theorem sbit_strOf (bs : List (BitVec 8)) (k : Nat) : sbit (strOf bs) k = bitB bs k := by rw [sbit, sBits_strOf]
theorem sbit_row {W : Int} {ws : List (BitVec 64)} (hm : May W ws) {k : Nat} (hk : k < 8 * ((W.toNat + 7) / 8)) : sbit (strOf (bytesOf W ws)) k = bit ws k := by
  have := hm.2.2.1; have := hm.1
  rw [sbit_strOf, bitB_bytesOf hm k (by omega)]
theorem bits_of_row {W : Int} {ws : List (BitVec 64)} (hm : May W ws) {p : Nat → Bool} (hp : ∀ k : Nat, (k : Int) < W → p k = bit ws k) :
    turnAll (fun x y => x ||| y) (List.replicate ((W.toNat + 63) / 64) 0#64) (((List.range W.toNat).filter p).map Int.ofNat) = ws := by
  have hz := may_zeros hm.1 hm.2.1
  have hall : AllIn W (((List.range W.toNat).filter p).map Int.ofNat) := by
    intro k hk
    obtain ⟨m, hm', rfl⟩ := List.mem_map.1 hk
    have := List.mem_range.1 (List.mem_filter.1 hm').1
    exact ⟨Int.natCast_nonneg m, by have := hm.1; show (m : Int) < W; omega⟩
  refine may_ext (may_turnAll (h := fun a b => a || b) or_bit (by simp) _ _ hz hall) hm fun k hk => ?_
  rw [bit_turnOr _ _ hz hall, bit_zeros, Bool.false_or, ← hp k hk]
  cases hb : p k with
  | true =>
    rw [decide_eq_true_eq]
    exact List.mem_map.2 ⟨k, List.mem_filter.2 ⟨List.mem_range.2 (by have := hm.1; omega), hb⟩, rfl⟩
  | false =>
    rw [decide_eq_false_iff_not]
    intro hmem
    obtain ⟨m, h1, h2⟩ := List.mem_map.1 hmem
    have h2 : m = k := Int.ofNat.inj h2
    subst h2
    rw [(List.mem_filter.1 h1).2] at hb; cases hb
theorem bits_set {W : Int} {ws : List (BitVec 64)} (hm : May W ws) : turnAll (fun x y => x ||| y) (List.replicate ((W.toNat + 63) / 64) 0#64) ((bitsOf ws).map Int.ofNat) = ws := by
  rw [bitsOf_may hm]; exact bits_of_row hm fun k _ => rfl
theorem read_bytes {W : Int} {ws : List (BitVec 64)} (hm : May W ws) : readR W (strOf (bytesOf W ws)) = .inr ws := by
  have hn : ∀ j, j < min ((W.toNat + 7) / 8) (strOf (bytesOf W ws)).size → badB W (strOf (bytesOf W ws)) j = false := by
    intro j hj
    rw [badB, List.any_eq_false]
    intro k hk
    have hk := List.mem_range.1 hk
    rw [sbit_row hm (by omega)]
    have := hm.2.2.1; have := hm.1
    simp only [Bool.and_eq_true, decide_eq_true_eq, not_and]
    intro hW hb
    rw [hm.2.2.2 _ hW (by omega)] at hb; cases hb
  have hs : (strOf (bytesOf W ws)).size = (W.toNat + 7) / 8 := by rw [strOf_size, bytesOf_length]
  have hf := find_none hn
  rw [hs] at hf
  simp only [readR, hs, hf, if_true]
  congr 1
  exact bits_of_row hm fun k hk => sbit_row hm (by have := hm.1; omega)
theorem bytes_ext {a b : List (BitVec 8)} (hl : a.length = b.length) (h : ∀ k, k < 8 * a.length → bitB a k = bitB b k) : a = b := by
  refine List.ext_getElem hl fun i h1 h2 => ?_
  refine BitVec.eq_of_getLsbD_eq fun j hj => ?_
  have := h (8 * i + (7 - j)) (by omega)
  rw [bitB, bitB, show (8 * i + (7 - j)) / 8 = i by omega, show 7 - (8 * i + (7 - j)) % 8 = j by omega] at this
  simpa [List.getD_eq_getElem?_getD, h1, h2] using this
theorem read_back {W : Int} {s : ByteArray} {ws : List (BitVec 64)} (h0 : 0 ≤ W) (h1 : W ≤ 1032) (h : readR W s = .inr ws) : May W ws ∧ strOf (bytesOf W ws) = s := by
  simp only [readR] at h
  split at h
  · cases h
  rename_i hf
  split at h
  · rename_i hs
    rw [List.find?_eq_none] at hf
    have hgood : ∀ k, k < 8 * s.size → sbit s k = true → (k : Int) < W := by
      intro k hk hb
      have h3 := hf (k / 8) (List.mem_range.2 (by omega))
      simp only [badB, Bool.not_eq_true, List.any_eq_false] at h3
      have h2 := h3 (k % 8) (List.mem_range.2 (by omega))
      rw [show 8 * (k / 8) + k % 8 = k by omega, hb] at h2
      simp at h2; exact h2
    have hz := may_zeros h0 h1
    have hall : AllIn W (sL s W.toNat) := sL_le fun k hk _ => by omega
    cases h
    have hm := may_turnAll (h := fun a b => a || b) or_bit (by simp) _ _ hz hall
    refine ⟨hm, ?_⟩
    have hb : bytesOf W (turnAll (fun x y => x ||| y) (List.replicate ((W.toNat + 63) / 64) 0#64) (sL s W.toNat)) = sBits s := by
      refine bytes_ext (by rw [bytesOf_length, sBits_length, hs]) fun k hk => ?_
      · rw [bytesOf_length] at hk
        rw [bitB_bytesOf hm k (by have := hm.2.2.1; omega), bit_turnOr _ _ hz hall, bit_zeros, Bool.false_or]
        show _ = sbit s k
        cases hb : sbit s k with
        | true =>
          have := hgood k (by omega) hb
          rw [decide_eq_true_eq]
          exact List.mem_map.2 ⟨k, List.mem_filter.2 ⟨List.mem_range.2 (by omega), hb⟩, rfl⟩
        | false =>
          rw [decide_eq_false_iff_not]
          intro hmem
          obtain ⟨m, h1, h2⟩ := List.mem_map.1 hmem
          have h2 : m = k := Int.ofNat.inj h2
          subst h2
          rw [(List.mem_filter.1 h1).2] at hb; cases hb
    rw [hb, strOf_sBits]
  · cases h
theorem read_at {W : Int} {s : ByteArray} {i : Nat} (h : readR W s = .inl i) : i ≤ s.size := by
  simp only [readR] at h
  split at h
  · rename_i j hf
    cases h
    have := List.mem_range.1 (List.mem_of_find?_eq_some hf)
    omega
  · split at h
    · cases h
    · cases h; omega
theorem bits_sorted {W : Int} {ws : List (BitVec 64)} (hm : May W ws) {k m : Nat} (hk : (bitsOf ws)[k]? = some m) : (k = 0 ∨ (bitsOf ws).getD (k - 1) 0 < m) ∧ (m : Int) < W ∧ bit ws m = true := by
  have hp : (bitsOf ws).Pairwise (· < ·) := by rw [bitsOf_may hm]; exact List.Pairwise.filter _ List.pairwise_lt_range
  obtain ⟨hl, hv⟩ := List.getElem?_eq_some_iff.1 hk
  have hmem : m ∈ bitsOf ws := hv ▸ List.getElem_mem hl
  rw [bitsOf_may hm] at hmem
  have h2 := List.mem_filter.1 hmem
  refine ⟨?_, by have := List.mem_range.1 h2.1; omega, h2.2⟩
  rcases Nat.eq_zero_or_pos k with h | h
  · exact .inl h
  · right
    have := List.pairwise_iff_getElem.1 hp (k - 1) k (by omega) hl (by omega)
    rw [hv] at this
    rwa [List.getD_eq_getElem?_getD, List.getElem?_eq_getElem (by omega)]
end Go.BM
