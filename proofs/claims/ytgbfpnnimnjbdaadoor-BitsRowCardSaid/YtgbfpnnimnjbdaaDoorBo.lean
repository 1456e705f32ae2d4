/-
  The bits of a word: counted, the lowest, all of them rising. No program in sight.
-/
import Derived.Test.YtgbfpnnimnjbdaaDoorBm
import Derived.Lib.TrailingZeros
namespace Go.BM
open Go.Sh
set_option maxRecDepth 100000

/-- the set bits of a word, rising -/
def wbits (x : BitVec 64) : List Nat := (List.range 64).filter x.getLsbD

/-! ### Counted -/
theorem and_split (a m : Nat) {r b : Nat} (hr : r < 256) (hb : b < 256) : (256 * a + r) &&& (256 * m + b) = 256 * (a &&& m) + (r &&& b) := by
  have hrb : r &&& b < 2 ^ 8 := Nat.lt_of_le_of_lt Nat.and_le_left hr
  apply Nat.eq_of_testBit_eq
  intro i
  rw [Nat.testBit_and, show 256 = 2 ^ 8 from rfl, Nat.testBit_two_pow_mul_add a (i := 8) hr, Nat.testBit_two_pow_mul_add m (i := 8) hb, Nat.testBit_two_pow_mul_add _ (i := 8) hrb]
  split <;> simp
def rep (b : Nat) : Nat → Nat
  | 0 => 0
  | n + 1 => 256 * rep b n + b
def fA (n x : Nat) : Nat := (x / 2 &&& rep 85 n) + (x &&& rep 85 n)
def fB (n y : Nat) : Nat := (y / 4 &&& rep 51 n) + (y &&& rep 51 n)
def fC (n z : Nat) : Nat := (z / 16 + z) &&& rep 15 n
def g1 (r : Nat) : Nat := (r / 2 &&& 85) + (r &&& 85)
def g2 (r : Nat) : Nat := (r / 4 &&& 51) + (r &&& 51)
def g3 (r : Nat) : Nat := (r / 16 + r) &&& 15
def cnt : Nat → Nat → Nat
  | 0, _ => 0
  | n + 1, x => x % 2 + cnt n (x / 2)
theorem d1 : ∀ r < 256, r &&& 85 = r % 128 &&& 85 := by decide +kernel
theorem d2 : ∀ r < 256, r &&& 51 = r % 64 &&& 51 := by decide +kernel
theorem d3 : ∀ r < 256, g1 r < 256 ∧ g2 (g1 r) ≤ 68 ∧ g2 (g1 r) % 16 ≤ 4 ∧ g3 (g2 (g1 r)) = cnt 8 r := by decide +kernel
theorem cnt8 : ∀ r < 256, cnt 8 r ≤ 8 := by decide +kernel
theorem fA_succ (n q : Nat) {r : Nat} (hr : r < 256) : fA (n + 1) (256 * q + r) = 256 * fA n q + g1 r := by
  have h1 : (256 * q + r) / 2 = 256 * (q / 2) + (128 * (q % 2) + r / 2) := by omega
  have h2 : 128 * (q % 2) + r / 2 < 256 := by omega
  have h3 : (128 * (q % 2) + r / 2 &&& 85) = (r / 2 &&& 85) := by
    rw [d1 _ h2, show (128 * (q % 2) + r / 2) % 128 = r / 2 by omega]
  rw [fA, fA, g1, h1]
  simp only [rep]
  rw [and_split _ _ h2 (by decide), and_split _ _ hr (by decide), h3]
  omega
theorem fB_succ (n q : Nat) {r : Nat} (hr : r < 256) : fB (n + 1) (256 * q + r) = 256 * fB n q + g2 r := by
  have h1 : (256 * q + r) / 4 = 256 * (q / 4) + (64 * (q % 4) + r / 4) := by omega
  have h2 : 64 * (q % 4) + r / 4 < 256 := by omega
  have h3 : (64 * (q % 4) + r / 4 &&& 51) = (r / 4 &&& 51) := by
    rw [d2 _ h2, show (64 * (q % 4) + r / 4) % 64 = r / 4 by omega]
  rw [fB, fB, g2, h1]
  simp only [rep]
  rw [and_split _ _ h2 (by decide), and_split _ _ hr (by decide), h3]
  omega
theorem fC_succ (n q : Nat) {r : Nat} (hr : r ≤ 68) (hq : q % 16 ≤ 4) : fC (n + 1) (256 * q + r) = 256 * fC n q + g3 r := by
  have h1 : (256 * q + r) / 16 + (256 * q + r) = 256 * (q / 16 + q) + (16 * (q % 16) + (r / 16 + r)) := by omega
  have h2 : 16 * (q % 16) + (r / 16 + r) < 256 := by omega
  have h3 : (16 * (q % 16) + (r / 16 + r) &&& 15) = (r / 16 + r &&& 15) := by
    rw [Nat.and_two_pow_sub_one_eq_mod _ 4, Nat.and_two_pow_sub_one_eq_mod _ 4]; omega
  rw [fC, fC, g3, h1]
  simp only [rep]
  rw [and_split _ _ h2 (by decide), h3]
def fD (n x : Nat) : Nat := fC n (fB n (fA n x))
theorem low4 (n q : Nat) : fB n (fA n q) % 16 ≤ 4 := by
  cases n with
  | zero => simp [fB, rep]
  | succ n =>
    have h := d3 (q % 256) (by omega)
    rw [show q = 256 * (q / 256) + q % 256 by omega, fA_succ _ _ (by omega), fB_succ _ _ h.1]
    omega
theorem fD_succ (n q : Nat) {r : Nat} (hr : r < 256) : fD (n + 1) (256 * q + r) = 256 * fD n q + cnt 8 r := by
  have h := d3 r hr
  rw [fD, fA_succ _ _ hr, fB_succ _ _ h.1, fC_succ _ _ h.2.1 (low4 n q), h.2.2.2]
  rfl
theorem cnt_succ8 (n q : Nat) {r : Nat} (hr : r < 256) : cnt (n + 8) (256 * q + r) = cnt 8 r + cnt n q := by
  simp only [cnt]
  have h : (256 * q + r) / 2 / 2 / 2 / 2 / 2 / 2 / 2 / 2 = q := by omega
  rw [h]
  have a1 : (256 * q + r) % 2 = r % 2 := by omega
  have a2 : (256 * q + r) / 2 % 2 = r / 2 % 2 := by omega
  have a3 : (256 * q + r) / 2 / 2 % 2 = r / 2 / 2 % 2 := by omega
  have a4 : (256 * q + r) / 2 / 2 / 2 % 2 = r / 2 / 2 / 2 % 2 := by omega
  have a5 : (256 * q + r) / 2 / 2 / 2 / 2 % 2 = r / 2 / 2 / 2 / 2 % 2 := by omega
  have a6 : (256 * q + r) / 2 / 2 / 2 / 2 / 2 % 2 = r / 2 / 2 / 2 / 2 / 2 % 2 := by omega
  have a7 : (256 * q + r) / 2 / 2 / 2 / 2 / 2 / 2 % 2 = r / 2 / 2 / 2 / 2 / 2 / 2 % 2 := by omega
  have a8 : (256 * q + r) / 2 / 2 / 2 / 2 / 2 / 2 / 2 % 2 = r / 2 / 2 / 2 / 2 / 2 / 2 / 2 % 2 := by omega
  rw [a1, a2, a3, a4, a5, a6, a7, a8]
  omega
/-- the last three steps: eight numbers in bytes are put together -/
def fE (y : Nat) : Nat := (y + y / 256) + (y + y / 256) / 65536
def fF (y : Nat) : Nat := fE y + fE y / 4294967296
theorem dv1 {p X : Nat} (hp : p < 256) : (p + 256 * X) / 256 = X := by omega
theorem dv2 {p q X : Nat} (hp : p < 256) (hq : q < 256) : (p + 256 * (q + 256 * X)) / 65536 = X := by omega
theorem dv4 {p q r s X : Nat} (hp : p < 256) (hq : q < 256) (hr : r < 256) (hs : s < 256) : (p + 256 * (q + 256 * (r + 256 * (s + 256 * X)))) / 4294967296 = X := by omega
theorem ad2 (a b X Y : Nat) : (a + 256 * X) + (b + 256 * Y) = (a + b) + 256 * (X + Y) := by omega
theorem ad3 (a X h : Nat) : (a + 256 * X) + h = (a + h) + 256 * X := by omega
theorem md1 {p X : Nat} (hp : p < 128) : (p + 256 * X) % 128 = p := by omega
theorem sum8 {a b c d e f g h : Nat} (ha : a ≤ 8) (hb : b ≤ 8) (hc : c ≤ 8) (hd : d ≤ 8) (he : e ≤ 8) (hf : f ≤ 8) (hg : g ≤ 8) (hh : h ≤ 8) :
    fF (a + 256 * (b + 256 * (c + 256 * (d + 256 * (e + 256 * (f + 256 * (g + 256 * h))))))) % 128 = a + b + c + d + (e + f + (g + h)) := by
  simp only [fF, fE]
  rw [dv1 (by omega), ad2 a b, ad2 b c, ad2 c d, ad2 d e, ad2 e f, ad2 f g, ad3 g, dv2 (by omega) (by omega)]
  rw [ad2 (a + b) (c + d), ad2 (b + c) (d + e), ad2 (c + d) (e + f), ad2 (d + e) (f + g), ad2 (e + f) (g + h), ad3 (f + g)]
  rw [dv4 (by omega) (by omega) (by omega) (by omega), ad2, md1 (by omega)]
  omega
theorem ones_abs (D C : Nat → Nat → Nat) (c8 : Nat → Nat) (step : ∀ n x, D (n + 1) x = c8 x + 256 * D n (x / 256)) (stepc : ∀ n x, C (n + 8) x = c8 x + C n (x / 256))
    (hz : ∀ x, D 0 x = 0) (hz' : ∀ x, C 0 x = 0) (hc : ∀ x, c8 x ≤ 8) (x : Nat) : fF (D 8 x) % 128 = C 64 x := by
  rw [show D 8 x = c8 x + 256 * D 7 (x / 256) from step 7 x, show D 7 (x / 256) = _ from step 6 _, step 5, step 4, step 3, step 2, step 1, step 0, hz, Nat.mul_zero, Nat.add_zero]
  rw [show C 64 x = c8 x + C 56 (x / 256) from stepc 56 x, show C 56 (x / 256) = _ from stepc 48 _, show C 48 (x / 256 / 256) = _ from stepc 40 _, show C 40 (x / 256 / 256 / 256) = _ from stepc 32 _,
    show C 32 (x / 256 / 256 / 256 / 256) = _ from stepc 24 _, show C 24 (x / 256 / 256 / 256 / 256 / 256) = _ from stepc 16 _, show C 16 (x / 256 / 256 / 256 / 256 / 256 / 256) = _ from stepc 8 _,
    show C 8 (x / 256 / 256 / 256 / 256 / 256 / 256 / 256) = _ from stepc 0 _, hz', Nat.add_zero]
  rw [sum8 (hc _) (hc _) (hc _) (hc _) (hc _) (hc _) (hc _) (hc _)]
  simp only [Nat.add_assoc]
theorem ones_cnt (x : Nat) : fF (fD 8 x) % 128 = cnt 64 x :=
  ones_abs fD cnt (fun x => cnt 8 (x % 256))
    (fun n x => by
      have := fD_succ n (x / 256) (r := x % 256) (by omega)
      rw [show 256 * (x / 256) + x % 256 = x by omega] at this
      rw [this, Nat.add_comm])
    (fun n x => by
      have := cnt_succ8 n (x / 256) (r := x % 256) (by omega)
      rwa [show 256 * (x / 256) + x % 256 = x by omega] at this)
    (fun x => by simp [fD, fC, rep]) (fun _ => rfl) (fun x => cnt8 _ (by omega)) x
theorem cnt_filter : ∀ (n x : Nat), ((List.range n).filter x.testBit).length = cnt n x
  | 0, _ => rfl
  | n + 1, x => by
    have aux : x % 2 + ((List.range n).filter (x / 2).testBit).length = cnt (n + 1) x := by rw [cnt_filter n (x / 2)]; rfl
    rw [← aux]
    rw [List.range_succ_eq_map, List.filter_cons, List.filter_map, Nat.testBit_zero]
    have h : x.testBit ∘ Nat.succ = (x / 2).testBit := by funext i; exact Nat.testBit_succ ..
    rw [h]
    by_cases hx : x % 2 = 1
    · simp [hx, Nat.add_comm]
    · have : x % 2 = 0 := by omega
      simp [this]
theorem wbits_length (x : BitVec 64) : (wbits x).length = cnt 64 x.toNat := cnt_filter 64 x.toNat

/-- what OnesCount64 reckons -/
def swar (x : BitVec 64) : BitVec 64 :=
  let a := ((x >>> 1) &&& BitVec.ofInt 64 6148914691236517205) + (x &&& BitVec.ofInt 64 6148914691236517205)
  let b := ((a >>> 2) &&& BitVec.ofInt 64 3689348814741910323) + (a &&& BitVec.ofInt 64 3689348814741910323)
  let c := ((b >>> 4) + b) &&& BitVec.ofInt 64 1085102592571150095
  let d := c + (c >>> 8)
  let e := d + (d >>> 16)
  e + (e >>> 32)
theorem add_nat {x y : BitVec 64} (h : x.toNat + y.toNat < 18446744073709551616) : (x + y).toNat = x.toNat + y.toNat := by
  rw [BitVec.toNat_add]; exact Nat.mod_eq_of_lt h
theorem shr_nat (x : BitVec 64) (n m : Nat) (h : 2 ^ n = m) : (x >>> n).toNat = x.toNat / m := by
  rw [BitVec.toNat_ushiftRight, Nat.shiftRight_eq_div_pow, h]
theorem swar_nat (x : BitVec 64) : (swar x).toNat = fF (fD 8 x.toNat) ∧ (swar x).toNat < 9223372036854775808 := by
  have r5 : rep 85 8 = 6148914691236517205 := by decide
  have r3 : rep 51 8 = 3689348814741910323 := by decide
  have r1 : rep 15 8 = 1085102592571150095 := by decide
  have k5 : (BitVec.ofInt 64 6148914691236517205).toNat = 6148914691236517205 := by decide
  have k3 : (BitVec.ofInt 64 3689348814741910323).toNat = 3689348814741910323 := by decide
  have k1 : (BitVec.ofInt 64 1085102592571150095).toNat = 1085102592571150095 := by decide
  have le5 : ∀ y : Nat, y &&& 6148914691236517205 ≤ 6148914691236517205 := fun y => Nat.and_le_right
  have le3 : ∀ y : Nat, y &&& 3689348814741910323 ≤ 3689348814741910323 := fun y => Nat.and_le_right
  have le1 : ∀ y : Nat, y &&& 1085102592571150095 ≤ 1085102592571150095 := fun y => Nat.and_le_right
  have ha : (((x >>> 1) &&& BitVec.ofInt 64 6148914691236517205) + (x &&& BitVec.ofInt 64 6148914691236517205)).toNat = fA 8 x.toNat := by
    rw [add_nat]
    · rw [BitVec.toNat_and, BitVec.toNat_and, shr_nat x 1 2 rfl, k5, fA, r5]
    · rw [BitVec.toNat_and, BitVec.toNat_and, k5]; have h1 := le5 (x >>> 1).toNat; have h2 := le5 x.toNat; omega
  generalize hga : ((x >>> 1) &&& BitVec.ofInt 64 6148914691236517205) + (x &&& BitVec.ofInt 64 6148914691236517205) = a at ha
  have hb : (((a >>> 2) &&& BitVec.ofInt 64 3689348814741910323) + (a &&& BitVec.ofInt 64 3689348814741910323)).toNat = fB 8 (fA 8 x.toNat) ∧ fB 8 (fA 8 x.toNat) ≤ 7378697629483820646 := by
    have hle : fB 8 (fA 8 x.toNat) ≤ 7378697629483820646 := by rw [fB, r3]; have h1 := le3 (fA 8 x.toNat / 4); have h2 := le3 (fA 8 x.toNat); omega
    refine ⟨?_, hle⟩
    rw [add_nat]
    · rw [BitVec.toNat_and, BitVec.toNat_and, shr_nat a 2 4 rfl, k3, ha, fB, r3]
    · rw [BitVec.toNat_and, BitVec.toNat_and, k3]; have h1 := le3 (a >>> 2).toNat; have h2 := le3 a.toNat; omega
  generalize hgb : ((a >>> 2) &&& BitVec.ofInt 64 3689348814741910323) + (a &&& BitVec.ofInt 64 3689348814741910323) = b at hb
  have hcc : (((b >>> 4) + b) &&& BitVec.ofInt 64 1085102592571150095).toNat = fD 8 x.toNat ∧ fD 8 x.toNat ≤ 1085102592571150095 := by
    have hle : fD 8 x.toNat ≤ 1085102592571150095 := by rw [fD, fC, r1]; exact le1 _
    refine ⟨?_, hle⟩
    have h2 := shr_nat b 4 16 rfl
    rw [BitVec.toNat_and, add_nat (by omega), h2, k1, hb.1, fD, fC, r1]
  generalize hgc : ((b >>> 4) + b) &&& BitVec.ofInt 64 1085102592571150095 = c' at hcc
  have h8 := shr_nat c' 8 256 rfl
  have hd : (c' + (c' >>> 8)).toNat = c'.toNat + c'.toNat / 256 := by rw [add_nat (by omega), h8]
  generalize hgd : c' + (c' >>> 8) = d at hd
  have h16 := shr_nat d 16 65536 rfl
  have he : (d + (d >>> 16)).toNat = fE c'.toNat := by rw [add_nat (by omega), h16, hd, fE]
  have heb : fE c'.toNat ≤ 1100000000000000000 := by rw [fE]; omega
  generalize hge : d + (d >>> 16) = e at he
  have h32 := shr_nat e 32 4294967296 rfl
  have hf : (e + (e >>> 32)).toNat = fF c'.toNat := by rw [add_nat (by omega), h32, he, fF]
  have : swar x = e + (e >>> 32) := by rw [← hge, ← hgd, ← hgc, ← hgb, ← hga]; rfl
  rw [this, hf, hcc.1]
  refine ⟨rfl, ?_⟩
  rw [fF, ← hcc.1]; omega
theorem swar_wbits (x : BitVec 64) : (swar x).toNat % 128 = (wbits x).length := by
  rw [(swar_nat x).1, ones_cnt, wbits_length]

/-! ### The lowest -/
theorem wbits_zero : wbits 0#64 = [] := by decide
theorem low_bit {x : BitVec 64} (h : x ≠ 0#64) : ∃ t, t < 64 ∧ (x &&& -x).toNat = 2 ^ t ∧ wbits x = t :: wbits (x &&& (x - BitVec.ofInt 64 1)) := by
  have h0 : 0 < x.toNat := by
    rcases Nat.eq_zero_or_pos x.toNat with h1 | h1
    · exact absurd (BitVec.eq_of_toNat_eq h1) h
    · exact h1
  obtain ⟨m, hm, ht⟩ := Lib.ctzFrom_spec 64 x.toNat h0 x.isLt
  generalize Lib.ctzFrom 64 x.toNat = t at hm ht
  have hand := Lib.and_neg 64 t m (by rw [← hm]; exact x.isLt)
  rw [← hm] at hand
  have hlt : ∀ j, j < t → x.getLsbD j = false := fun j hj => by
    show x.toNat.testBit j = false
    rw [hm, Nat.testBit_two_pow_mul]; simp; omega
  have hge : ∀ j, x.getLsbD (t + j) = (2 * m + 1).testBit j := fun j => by
    show x.toNat.testBit (t + j) = _
    rw [hm, Nat.testBit_two_pow_mul]; simp
  have hpos : 0 < 2 ^ t := Nat.two_pow_pos t
  have hsub : (x - BitVec.ofInt 64 1).toNat = 2 ^ t * (2 * m) + (2 ^ t - 1) := by
    rw [show BitVec.ofInt 64 1 = 1#64 from rfl, BitVec.toNat_sub_of_le (by show (1#64).toNat ≤ x.toNat; exact h0), hm]
    have : 2 ^ t * (2 * m + 1) = 2 ^ t * (2 * m) + 2 ^ t := by rw [Nat.mul_add, Nat.mul_one]
    show 2 ^ t * (2 * m + 1) - 1 = _
    omega
  have hsge : ∀ j, (x - BitVec.ofInt 64 1).getLsbD (t + j) = (2 * m).testBit j := fun j => by
    show (x - BitVec.ofInt 64 1).toNat.testBit (t + j) = _
    rw [hsub, Nat.testBit_two_pow_mul_add _ (i := t) (by omega), if_neg (by omega), Nat.add_sub_cancel_left]
  refine ⟨t, ht, ?_, ?_⟩
  · rw [BitVec.toNat_and, BitVec.toNat_neg]
    have : (2 ^ 64 - x.toNat) % 2 ^ 64 = 2 ^ 64 - x.toNat := Nat.mod_eq_of_lt (by have := x.isLt; omega)
    rw [this]; exact hand
  · unfold wbits
    have hr : List.range 64 = List.range t ++ (t :: List.range' (t + 1) (63 - t)) := by
      rw [List.range_eq_range', List.range_eq_range', ← List.range'_succ]
      rw [show 63 - t + 1 = 64 - t by omega]
      have := List.range'_append (s := 0) (m := t) (n := 64 - t) (step := 1)
      simp only [Nat.one_mul, Nat.zero_add] at this
      rw [this, show t + (64 - t) = 64 by omega]
    have hxt : x.getLsbD t = true := by have := hge 0; simpa [Nat.testBit_zero] using this
    have hst : (x &&& (x - BitVec.ofInt 64 1)).getLsbD t = false := by
      rw [BitVec.getLsbD_and]; have := hsge 0; rw [Nat.add_zero] at this; rw [this]; simp [Nat.testBit_zero]
    have hA : ∀ z : BitVec 64, (∀ j, j < t → z.getLsbD j = false) → (List.range t).filter z.getLsbD = [] := fun z hz => by
      rw [List.filter_eq_nil_iff]; intro j hj; rw [hz j (List.mem_range.1 hj)]; simp
    rw [hr, List.filter_append, List.filter_append, hA x hlt, hA _ (fun j hj => by rw [BitVec.getLsbD_and, hlt j hj]; rfl), List.nil_append, List.nil_append,
      List.filter_cons, List.filter_cons, hxt, hst]
    simp only [if_true, Bool.false_eq_true, if_false, List.cons.injEq, true_and]
    apply List.filter_congr
    intro j hj
    obtain ⟨i, hi⟩ : ∃ i, j = t + (i + 1) := ⟨j - t - 1, by have := (List.mem_range'_1.1 hj).1; omega⟩
    subst hi
    rw [BitVec.getLsbD_and, hge, hsge, Nat.testBit_succ, Nat.testBit_succ, show (2 * m + 1) / 2 = m by omega, show 2 * m / 2 = m by omega]
    cases m.testBit i <;> rfl
/-- the place in the table -/
theorem table_at {t : Nat} (ht : t < 64) {x : BitVec 64} (hx : x.toNat = 2 ^ t) :
    ((x * BitVec.ofNat 64 285870213051353865) >>> 58).toNat < 64 ∧ Lib.deBruijn64tab.getD ((x * BitVec.ofNat 64 285870213051353865) >>> 58).toNat 0 = t := by
  have h := Lib.deBruijn64_at t ht
  have e : ((x * BitVec.ofNat 64 285870213051353865) >>> 58).toNat = 2 ^ t * 285870213051353865 % 18446744073709551616 / 288230376151711744 := by
    rw [shr_nat _ 58 288230376151711744 (by decide), BitVec.toNat_mul, hx]; rfl
  rw [e]; exact h
end Go.BM
