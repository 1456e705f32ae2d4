/-
  The bytes of a row, and rows of bytes. No program in sight.
-/
import Derived.Test.YtgbfpnnimnjbdaaDoorBq
import Derived.Test.YtgbfpnnimnjbdaaDoorShB
namespace Go.BM
open Go.Sh
set_option maxRecDepth 100000

def putB (bs : List (BitVec 8)) (k : Nat) : List (BitVec 8) := bs.set (k / 8) ((bs.getD (k / 8) 0) ||| (128#8 >>> (k % 8)))
def putAll (bs : List (BitVec 8)) (l : List Nat) : List (BitVec 8) := l.foldl putB bs
theorem putB_length (bs : List (BitVec 8)) (k : Nat) : (putB bs k).length = bs.length := by simp [putB]
theorem putAll_length : ∀ (l : List Nat) (bs : List (BitVec 8)), (putAll bs l).length = bs.length
  | [], _ => rfl
  | k :: l, bs => by
    have := putAll_length l (putB bs k)
    simp only [putAll, List.foldl_cons] at this ⊢
    rw [this, putB_length]
theorem putAll_snoc (bs : List (BitVec 8)) (l : List Nat) (k : Nat) : putAll bs (l ++ [k]) = putB (putAll bs l) k := by simp [putAll]
def noB (W : Int) : List (BitVec 8) := List.replicate ((W.toNat + 7) / 8) 0#8
/-- the bytes of a row that may be -/
def bytesOf (W : Int) (ws : List (BitVec 64)) : List (BitVec 8) := putAll (noB W) (bitsOf ws)
theorem bytesOf_length (W : Int) (ws : List (BitVec 64)) : (bytesOf W ws).length = (W.toNat + 7) / 8 := by rw [bytesOf, putAll_length, noB, List.length_replicate]
def strOf (bs : List (BitVec 8)) : ByteArray := ⟨(bs.map UInt8.ofBitVec).toArray⟩
/-- bit k of bytes, the highest first -/
def bitB (bs : List (BitVec 8)) (k : Nat) : Bool := (bs.getD (k / 8) 0).getLsbD (7 - k % 8)
theorem and_bit8 : ∀ (x : BitVec 8) (k : Nat), k < 8 → ((x &&& (128#8 >>> k)).toNat = 0 ↔ x.getLsbD (7 - k) = false) := by
  have h : ∀ (x : BitVec 8) (k : Fin 8), ((x &&& (128#8 >>> k.val)).toNat = 0 ↔ x.getLsbD (7 - k.val) = false) := by decide +kernel
  exact fun x k hk => h x ⟨k, hk⟩
theorem bit8 : ∀ (k j : Nat), k < 8 → j < 8 → (128#8 >>> k).getLsbD (7 - j) = decide (j = k) := by
  have h : ∀ (k j : Fin 8), (128#8 >>> k.val).getLsbD (7 - j.val) = decide (j.val = k.val) := by decide +kernel
  exact fun k j hk hj => h ⟨k, hk⟩ ⟨j, hj⟩
theorem getD_set8 (l : List (BitVec 8)) (i j : Nat) (x : BitVec 8) (hi : i < l.length) : (l.set i x).getD j 0 = if j = i then x else l.getD j 0 := by
  rw [List.getD_eq_getElem?_getD, List.getElem?_set]
  by_cases h : i = j
  · subst h; simp [hi]
  · have : ¬ j = i := fun e => h e.symm
    simp [h, this, List.getD_eq_getElem?_getD]
theorem bitB_putB {bs : List (BitVec 8)} {n : Nat} (hn : n < 8 * bs.length) (k : Nat) : bitB (putB bs n) k = (bitB bs k || decide (k = n)) := by
  rw [bitB, putB, getD_set8 _ _ _ _ (by omega)]
  by_cases h1 : k / 8 = n / 8
  · rw [if_pos h1, BitVec.getLsbD_or, bit8 _ _ (by omega) (by omega), bitB, h1]
    congr 1
    by_cases h2 : k = n
    · simp [h2]
    · have : ¬ k % 8 = n % 8 := by omega
      simp [h2, this]
  · have h2 : ¬ k = n := fun e => h1 (by rw [e])
    rw [if_neg h1]; simp [h2, bitB]
theorem bitB_putAll : ∀ (l : List Nat) (bs : List (BitVec 8)), (∀ n ∈ l, n < 8 * bs.length) → ∀ k, bitB (putAll bs l) k = (bitB bs k || decide (k ∈ l))
  | [], _, _, k => by simp [putAll]
  | n :: l, bs, h, k => by
    have h1 := bitB_putAll l (putB bs n) (fun m hm => by rw [putB_length]; exact h m (List.mem_cons_of_mem _ hm)) k
    simp only [putAll, List.foldl_cons] at h1 ⊢
    rw [h1, bitB_putB (h n (List.mem_cons_self ..))]
    simp [Bool.or_assoc, List.mem_cons]
theorem bitB_zero (n k : Nat) : bitB (List.replicate n 0#8) k = false := by
  simp [bitB, List.getD_eq_getElem?_getD, List.getElem?_replicate]
  split <;> simp
theorem bitB_bytesOf {W : Int} {ws : List (BitVec 64)} (hm : May W ws) (k : Nat) (hk : k < 64 * ws.length) : bitB (bytesOf W ws) k = bit ws k := by
  rw [bytesOf, bitB_putAll, noB, bitB_zero, Bool.false_or, bitsOf_filter]
  · cases hb : bit ws k
    · simp [hb]
    · simp [hb, hk]
  · intro n hn
    rw [bitsOf_may hm] at hn
    have := List.mem_range.1 (List.mem_filter.1 hn).1
    rw [noB, List.length_replicate]; omega

/-! ### Of bytes -/
def sBits (s : ByteArray) : List (BitVec 8) := s.data.toList.map UInt8.toBitVec
def sbit (s : ByteArray) (k : Nat) : Bool := bitB (sBits s) k
theorem sBits_length (s : ByteArray) : (sBits s).length = s.size := by simp [sBits]
theorem sBits_get {s : ByteArray} {i : Nat} (h : i < s.size) : (sBits s).getD i 0 = s[i].toBitVec := by
  have h' : i < s.data.size := h
  simp only [sBits, List.getD_eq_getElem?_getD, List.getElem?_map, Array.getElem?_toList]
  rw [Array.getElem?_eq_getElem h']; rfl
theorem sbit_at {s : ByteArray} {i : Nat} (h : i < s.size) {k : Nat} (hk : k < 8) : sbit s (8 * i + k) = s[i].toBitVec.getLsbD (7 - k) := by
  rw [sbit, bitB, show (8 * i + k) / 8 = i by omega, show (8 * i + k) % 8 = k by omega, sBits_get h]
theorem strOf_size (bs : List (BitVec 8)) : (strOf bs).size = bs.length := by
  show ((bs.map UInt8.ofBitVec).toArray).size = _
  simp
theorem sBits_strOf (bs : List (BitVec 8)) : sBits (strOf bs) = bs := by
  simp [sBits, strOf, Function.comp_def]
theorem strOf_sBits (s : ByteArray) : strOf (sBits s) = s := by
  have : (s.data.toList.map UInt8.toBitVec).map UInt8.ofBitVec = s.data.toList := by
    rw [List.map_map]
    have h : (UInt8.ofBitVec ∘ UInt8.toBitVec) = id := by funext x; rfl
    rw [h, List.map_id]
  rw [strOf, sBits, this]
/-- the set bits of the first j, rising -/
def sL (s : ByteArray) (j : Nat) : List Int := ((List.range j).filter (sbit s)).map Int.ofNat
theorem sL_succ (s : ByteArray) (j : Nat) : sL s (j + 1) = if sbit s j then sL s j ++ [(j : Int)] else sL s j := by
  rw [sL, List.range_succ, List.filter_append, List.map_append]
  cases h : sbit s j <;> simp [h, sL]
/-- a bit behind the width in byte i? -/
def badB (W : Int) (s : ByteArray) (i : Nat) : Bool := (List.range 8).any fun k => decide (W ≤ ((8 * i + k : Nat) : Int)) && sbit s (8 * i + k)
/-- what Read answers: of what place it complains, or the words -/
def readR (W : Int) (s : ByteArray) : Nat ⊕ List (BitVec 64) :=
  let n := (W.toNat + 7) / 8
  match (List.range (min n s.size)).find? (badB W s) with
  | some i => .inl i
  | none => if s.size = n then .inr (turnAll (fun x y => x ||| y) (List.replicate ((W.toNat + 63) / 64) 0#64) (sL s W.toNat)) else .inl (min n s.size)
theorem find_range {p : Nat → Bool} {n i : Nat} (hi : i < n) (hp : p i = true) (h : ∀ j, j < i → p j = false) : (List.range n).find? p = some i := by
  rw [List.find?_range_eq_some]; exact ⟨hp, List.mem_range.2 hi, fun j hj => by rw [h j hj]; rfl⟩
theorem find_none {p : Nat → Bool} {n : Nat} (h : ∀ j, j < n → p j = false) : (List.range n).find? p = none := by
  rw [List.find?_eq_none]; intro j hj; rw [h j (List.mem_range.1 hj)]; simp
theorem sL_le {W : Int} {s : ByteArray} {j : Nat} (h : ∀ k, k < j → sbit s k = true → (k : Int) < W) : AllIn W (sL s j) := by
  intro k hk
  obtain ⟨m, hm, rfl⟩ := List.mem_map.1 hk
  have := List.mem_filter.1 hm
  have h2 := h m (List.mem_range.1 this.1) this.2
  exact ⟨Int.natCast_nonneg m, h2⟩
theorem sL_end {W : Int} {s : ByteArray} {j : Nat} (hj : W.toNat ≤ j) (h : ∀ k, k < j → sbit s k = true → (k : Int) < W) : sL s j = sL s W.toNat := by
  obtain ⟨d, rfl⟩ : ∃ d, j = W.toNat + d := ⟨j - W.toNat, by omega⟩
  rw [sL, List.range_add, List.filter_append, List.map_append]
  have : ((List.range d).map (W.toNat + ·)).filter (sbit s) = [] := by
    rw [List.filter_eq_nil_iff]
    intro k hk
    obtain ⟨m, hm, rfl⟩ := List.mem_map.1 hk
    intro hb
    have := h _ (by have := List.mem_range.1 hm; omega) hb
    omega
  rw [this, List.map_nil, List.append_nil]; rfl
end Go.BM
