/-
  The bits of a word: counted, the lowest, all of them rising. No program in sight.
  The bits of a row, rising. No program in sight.
  Rows put together, turned, and what bits that makes. No program in sight.
  The bytes of a row, and rows of bytes. No program in sight.
  Rows and their bytes: there and back; a row is told by its bits.
  Certificates as bytes: what may be, the bytes, the reader: the plain law. No program in sight.
  Certificates as bytes: what is read was written; how far bytes go; a certificate is its functions: the plain law. No program in sight.
  Arithmetic of unsigned numbers, told by whole numbers where nothing runs over.
  A slice of one's own that need not begin where its block does: a queue.
  Further steps: values that are arrays, shifts and joins of numbers, structs of numbers compared; conditions put together.
  Contracts: the taker of certificates' bytes: give, one, number, head.
  Lists in memory, of whatever things: what a slice tells, read and grown.
  Shallow readings of functions. Made by a program (wip/gen/gen.py) out of the translation; the kernel checks each equality.
  Shallow readings of functions. Made by a program (wip/gen/gen.py) out of the translation; the kernel checks each equality.
-/
import Derived.Test.YtoblfjmokfldnaaDoorZZb
import Derived.Lib.TrailingZeros
import Derived.Test.YtoblfjmokfldnaaDoorZZa
import Derived.ArgAppend

section
namespace Go.BM

open Go.Sh

set_option maxRecDepth 100000

/-- the set bits of a word, rising -/
def wbits (x : BitVec 64) : List Nat := (List.range 64).filter x.getLsbD

/-! ### Counted -/

theorem and_split (a m : Nat) {r b : Nat} (hr : r < 256) (hb : b < 256) : (256 * a + r) &&& (256 * m + b) = 256 * (a &&& m) + (r &&& b) := by
  have hrb : r &&& b < 2 ^ 8 := Nat.lt_of_le_of_lt Nat.and_le_left hr
  apply Nat.eq_of_testBit_eq
  intro i
  rw [Nat.testBit_and, show 256 = 2 ^ 8 from rfl, Nat.testBit_two_pow_mul_add a (i := 8) hr, Nat.testBit_two_pow_mul_add m (i := 8) hb, Nat.testBit_two_pow_mul_add _ (i := 8) hrb]
  split <;> simp
def rep (b : Nat) : Nat → Nat
  | 0 => 0
  | n + 1 => 256 * rep b n + b
def fA (n x : Nat) : Nat := (x / 2 &&& rep 85 n) + (x &&& rep 85 n)
def fB (n y : Nat) : Nat := (y / 4 &&& rep 51 n) + (y &&& rep 51 n)
def fC (n z : Nat) : Nat := (z / 16 + z) &&& rep 15 n
def g1 (r : Nat) : Nat := (r / 2 &&& 85) + (r &&& 85)
def g2 (r : Nat) : Nat := (r / 4 &&& 51) + (r &&& 51)
def g3 (r : Nat) : Nat := (r / 16 + r) &&& 15
def cnt : Nat → Nat → Nat
  | 0, _ => 0
  | n + 1, x => x % 2 + cnt n (x / 2)
theorem d1 : ∀ r < 256, r &&& 85 = r % 128 &&& 85 := by decide +kernel
theorem d2 : ∀ r < 256, r &&& 51 = r % 64 &&& 51 := by decide +kernel
theorem d3 : ∀ r < 256, g1 r < 256 ∧ g2 (g1 r) ≤ 68 ∧ g2 (g1 r) % 16 ≤ 4 ∧ g3 (g2 (g1 r)) = cnt 8 r := by decide +kernel
theorem cnt8 : ∀ r < 256, cnt 8 r ≤ 8 := by decide +kernel
theorem fA_succ (n q : Nat) {r : Nat} (hr : r < 256) : fA (n + 1) (256 * q + r) = 256 * fA n q + g1 r := by
  have h1 : (256 * q + r) / 2 = 256 * (q / 2) + (128 * (q % 2) + r / 2) := by omega
  have h2 : 128 * (q % 2) + r / 2 < 256 := by omega
  have h3 : (128 * (q % 2) + r / 2 &&& 85) = (r / 2 &&& 85) := by
    rw [d1 _ h2, show (128 * (q % 2) + r / 2) % 128 = r / 2 by omega]
  rw [fA, fA, g1, h1]
  simp only [rep]
  rw [and_split _ _ h2 (by decide), and_split _ _ hr (by decide), h3]
  omega
theorem fB_succ (n q : Nat) {r : Nat} (hr : r < 256) : fB (n + 1) (256 * q + r) = 256 * fB n q + g2 r := by
  have h1 : (256 * q + r) / 4 = 256 * (q / 4) + (64 * (q % 4) + r / 4) := by omega
  have h2 : 64 * (q % 4) + r / 4 < 256 := by omega
  have h3 : (64 * (q % 4) + r / 4 &&& 51) = (r / 4 &&& 51) := by
    rw [d2 _ h2, show (64 * (q % 4) + r / 4) % 64 = r / 4 by omega]
  rw [fB, fB, g2, h1]
  simp only [rep]
  rw [and_split _ _ h2 (by decide), and_split _ _ hr (by decide), h3]
  omega
theorem fC_succ (n q : Nat) {r : Nat} (hr : r ≤ 68) (hq : q % 16 ≤ 4) : fC (n + 1) (256 * q + r) = 256 * fC n q + g3 r := by
  have h1 : (256 * q + r) / 16 + (256 * q + r) = 256 * (q / 16 + q) + (16 * (q % 16) + (r / 16 + r)) := by omega
  have h2 : 16 * (q % 16) + (r / 16 + r) < 256 := by omega
  have h3 : (16 * (q % 16) + (r / 16 + r) &&& 15) = (r / 16 + r &&& 15) := by
    rw [Nat.and_two_pow_sub_one_eq_mod _ 4, Nat.and_two_pow_sub_one_eq_mod _ 4]; omega
  rw [fC, fC, g3, h1]
  simp only [rep]
  rw [and_split _ _ h2 (by decide), h3]
def fD (n x : Nat) : Nat := fC n (fB n (fA n x))
theorem low4 (n q : Nat) : fB n (fA n q) % 16 ≤ 4 := by
  cases n with
  | zero => simp [fB, rep]
  | succ n =>
    have h := d3 (q % 256) (by omega)
    rw [show q = 256 * (q / 256) + q % 256 by omega, fA_succ _ _ (by omega), fB_succ _ _ h.1]
    omega
theorem fD_succ (n q : Nat) {r : Nat} (hr : r < 256) : fD (n + 1) (256 * q + r) = 256 * fD n q + cnt 8 r := by
  have h := d3 r hr
  rw [fD, fA_succ _ _ hr, fB_succ _ _ h.1, fC_succ _ _ h.2.1 (low4 n q), h.2.2.2]
  rfl
theorem cnt_succ8 (n q : Nat) {r : Nat} (hr : r < 256) : cnt (n + 8) (256 * q + r) = cnt 8 r + cnt n q := by
  simp only [cnt]
  have h : (256 * q + r) / 2 / 2 / 2 / 2 / 2 / 2 / 2 / 2 = q := by omega
  rw [h]
  have a1 : (256 * q + r) % 2 = r % 2 := by omega
  have a2 : (256 * q + r) / 2 % 2 = r / 2 % 2 := by omega
  have a3 : (256 * q + r) / 2 / 2 % 2 = r / 2 / 2 % 2 := by omega
  have a4 : (256 * q + r) / 2 / 2 / 2 % 2 = r / 2 / 2 / 2 % 2 := by omega
  have a5 : (256 * q + r) / 2 / 2 / 2 / 2 % 2 = r / 2 / 2 / 2 / 2 % 2 := by omega
  have a6 : (256 * q + r) / 2 / 2 / 2 / 2 / 2 % 2 = r / 2 / 2 / 2 / 2 / 2 % 2 := by omega
  have a7 : (256 * q + r) / 2 / 2 / 2 / 2 / 2 / 2 % 2 = r / 2 / 2 / 2 / 2 / 2 / 2 % 2 := by omega
  have a8 : (256 * q + r) / 2 / 2 / 2 / 2 / 2 / 2 / 2 % 2 = r / 2 / 2 / 2 / 2 / 2 / 2 / 2 % 2 := by omega
  rw [a1, a2, a3, a4, a5, a6, a7, a8]
  omega
/-- the last three steps: eight numbers in bytes are put together -/
def fE (y : Nat) : Nat := (y + y / 256) + (y + y / 256) / 65536
def fF (y : Nat) : Nat := fE y + fE y / 4294967296
theorem dv1 {p X : Nat} (hp : p < 256) : (p + 256 * X) / 256 = X := by omega
theorem dv2 {p q X : Nat} (hp : p < 256) (hq : q < 256) : (p + 256 * (q + 256 * X)) / 65536 = X := by omega
theorem dv4 {p q r s X : Nat} (hp : p < 256) (hq : q < 256) (hr : r < 256) (hs : s < 256) : (p + 256 * (q + 256 * (r + 256 * (s + 256 * X)))) / 4294967296 = X := by omega
theorem ad2 (a b X Y : Nat) : (a + 256 * X) + (b + 256 * Y) = (a + b) + 256 * (X + Y) := by omega
theorem ad3 (a X h : Nat) : (a + 256 * X) + h = (a + h) + 256 * X := by omega
theorem md1 {p X : Nat} (hp : p < 128) : (p + 256 * X) % 128 = p := by omega
theorem sum8 {a b c d e f g h : Nat} (ha : a ≤ 8) (hb : b ≤ 8) (hc : c ≤ 8) (hd : d ≤ 8) (he : e ≤ 8) (hf : f ≤ 8) (hg : g ≤ 8) (hh : h ≤ 8) :
    fF (a + 256 * (b + 256 * (c + 256 * (d + 256 * (e + 256 * (f + 256 * (g + 256 * h))))))) % 128 = a + b + c + d + (e + f + (g + h)) := by
  simp only [fF, fE]
  rw [dv1 (by omega), ad2 a b, ad2 b c, ad2 c d, ad2 d e, ad2 e f, ad2 f g, ad3 g, dv2 (by omega) (by omega)]
  rw [ad2 (a + b) (c + d), ad2 (b + c) (d + e), ad2 (c + d) (e + f), ad2 (d + e) (f + g), ad2 (e + f) (g + h), ad3 (f + g)]
  rw [dv4 (by omega) (by omega) (by omega) (by omega), ad2, md1 (by omega)]
  omega
theorem ones_abs (D C : Nat → Nat → Nat) (c8 : Nat → Nat) (step : ∀ n x, D (n + 1) x = c8 x + 256 * D n (x / 256)) (stepc : ∀ n x, C (n + 8) x = c8 x + C n (x / 256))
    (hz : ∀ x, D 0 x = 0) (hz' : ∀ x, C 0 x = 0) (hc : ∀ x, c8 x ≤ 8) (x : Nat) : fF (D 8 x) % 128 = C 64 x := by
  rw [show D 8 x = c8 x + 256 * D 7 (x / 256) from step 7 x, show D 7 (x / 256) = _ from step 6 _, step 5, step 4, step 3, step 2, step 1, step 0, hz, Nat.mul_zero, Nat.add_zero]
  rw [show C 64 x = c8 x + C 56 (x / 256) from stepc 56 x, show C 56 (x / 256) = _ from stepc 48 _, show C 48 (x / 256 / 256) = _ from stepc 40 _, show C 40 (x / 256 / 256 / 256) = _ from stepc 32 _,
    show C 32 (x / 256 / 256 / 256 / 256) = _ from stepc 24 _, show C 24 (x / 256 / 256 / 256 / 256 / 256) = _ from stepc 16 _, show C 16 (x / 256 / 256 / 256 / 256 / 256 / 256) = _ from stepc 8 _,
    show C 8 (x / 256 / 256 / 256 / 256 / 256 / 256 / 256) = _ from stepc 0 _, hz', Nat.add_zero]
  rw [sum8 (hc _) (hc _) (hc _) (hc _) (hc _) (hc _) (hc _) (hc _)]
  simp only [Nat.add_assoc]
theorem ones_cnt (x : Nat) : fF (fD 8 x) % 128 = cnt 64 x :=
  ones_abs fD cnt (fun x => cnt 8 (x % 256))
    (fun n x => by
      have := fD_succ n (x / 256) (r := x % 256) (by omega)
      rw [show 256 * (x / 256) + x % 256 = x by omega] at this
      rw [this, Nat.add_comm])
    (fun n x => by
      have := cnt_succ8 n (x / 256) (r := x % 256) (by omega)
      rwa [show 256 * (x / 256) + x % 256 = x by omega] at this)
    (fun x => by simp [fD, fC, rep]) (fun _ => rfl) (fun x => cnt8 _ (by omega)) x
theorem cnt_filter : ∀ (n x : Nat), ((List.range n).filter x.testBit).length = cnt n x
  | 0, _ => rfl
  | n + 1, x => by
    have aux : x % 2 + ((List.range n).filter (x / 2).testBit).length = cnt (n + 1) x := by rw [cnt_filter n (x / 2)]; rfl
    rw [← aux]
    rw [List.range_succ_eq_map, List.filter_cons, List.filter_map, Nat.testBit_zero]
    have h : x.testBit ∘ Nat.succ = (x / 2).testBit := by funext i; exact Nat.testBit_succ ..
    rw [h]
    by_cases hx : x % 2 = 1
    · simp [hx, Nat.add_comm]
    · have : x % 2 = 0 := by omega
      simp [this]
theorem wbits_length (x : BitVec 64) : (wbits x).length = cnt 64 x.toNat := cnt_filter 64 x.toNat

/-- what OnesCount64 reckons -/
def swar (x : BitVec 64) : BitVec 64 :=
  let a := ((x >>> 1) &&& BitVec.ofInt 64 6148914691236517205) + (x &&& BitVec.ofInt 64 6148914691236517205)
  let b := ((a >>> 2) &&& BitVec.ofInt 64 3689348814741910323) + (a &&& BitVec.ofInt 64 3689348814741910323)
  let c := ((b >>> 4) + b) &&& BitVec.ofInt 64 1085102592571150095
  let d := c + (c >>> 8)
  let e := d + (d >>> 16)
  e + (e >>> 32)
theorem add_nat {x y : BitVec 64} (h : x.toNat + y.toNat < 18446744073709551616) : (x + y).toNat = x.toNat + y.toNat := by
  rw [BitVec.toNat_add]; exact Nat.mod_eq_of_lt h
theorem shr_nat (x : BitVec 64) (n m : Nat) (h : 2 ^ n = m) : (x >>> n).toNat = x.toNat / m := by
  rw [BitVec.toNat_ushiftRight, Nat.shiftRight_eq_div_pow, h]
theorem swar_nat (x : BitVec 64) : (swar x).toNat = fF (fD 8 x.toNat) ∧ (swar x).toNat < 9223372036854775808 := by
  have r5 : rep 85 8 = 6148914691236517205 := by decide
  have r3 : rep 51 8 = 3689348814741910323 := by decide
  have r1 : rep 15 8 = 1085102592571150095 := by decide
  have k5 : (BitVec.ofInt 64 6148914691236517205).toNat = 6148914691236517205 := by decide
  have k3 : (BitVec.ofInt 64 3689348814741910323).toNat = 3689348814741910323 := by decide
  have k1 : (BitVec.ofInt 64 1085102592571150095).toNat = 1085102592571150095 := by decide
  have le5 : ∀ y : Nat, y &&& 6148914691236517205 ≤ 6148914691236517205 := fun y => Nat.and_le_right
  have le3 : ∀ y : Nat, y &&& 3689348814741910323 ≤ 3689348814741910323 := fun y => Nat.and_le_right
  have le1 : ∀ y : Nat, y &&& 1085102592571150095 ≤ 1085102592571150095 := fun y => Nat.and_le_right
  have ha : (((x >>> 1) &&& BitVec.ofInt 64 6148914691236517205) + (x &&& BitVec.ofInt 64 6148914691236517205)).toNat = fA 8 x.toNat := by
    rw [add_nat]
    · rw [BitVec.toNat_and, BitVec.toNat_and, shr_nat x 1 2 rfl, k5, fA, r5]
    · rw [BitVec.toNat_and, BitVec.toNat_and, k5]; have h1 := le5 (x >>> 1).toNat; have h2 := le5 x.toNat; omega
  generalize hga : ((x >>> 1) &&& BitVec.ofInt 64 6148914691236517205) + (x &&& BitVec.ofInt 64 6148914691236517205) = a at ha
  have hb : (((a >>> 2) &&& BitVec.ofInt 64 3689348814741910323) + (a &&& BitVec.ofInt 64 3689348814741910323)).toNat = fB 8 (fA 8 x.toNat) ∧ fB 8 (fA 8 x.toNat) ≤ 7378697629483820646 := by
    have hle : fB 8 (fA 8 x.toNat) ≤ 7378697629483820646 := by rw [fB, r3]; have h1 := le3 (fA 8 x.toNat / 4); have h2 := le3 (fA 8 x.toNat); omega
    refine ⟨?_, hle⟩
    rw [add_nat]
    · rw [BitVec.toNat_and, BitVec.toNat_and, shr_nat a 2 4 rfl, k3, ha, fB, r3]
    · rw [BitVec.toNat_and, BitVec.toNat_and, k3]; have h1 := le3 (a >>> 2).toNat; have h2 := le3 a.toNat; omega
  generalize hgb : ((a >>> 2) &&& BitVec.ofInt 64 3689348814741910323) + (a &&& BitVec.ofInt 64 3689348814741910323) = b at hb
  have hcc : (((b >>> 4) + b) &&& BitVec.ofInt 64 1085102592571150095).toNat = fD 8 x.toNat ∧ fD 8 x.toNat ≤ 1085102592571150095 := by
    have hle : fD 8 x.toNat ≤ 1085102592571150095 := by rw [fD, fC, r1]; exact le1 _
    refine ⟨?_, hle⟩
    have h2 := shr_nat b 4 16 rfl
    rw [BitVec.toNat_and, add_nat (by omega), h2, k1, hb.1, fD, fC, r1]
  generalize hgc : ((b >>> 4) + b) &&& BitVec.ofInt 64 1085102592571150095 = c' at hcc
  have h8 := shr_nat c' 8 256 rfl
  have hd : (c' + (c' >>> 8)).toNat = c'.toNat + c'.toNat / 256 := by rw [add_nat (by omega), h8]
  generalize hgd : c' + (c' >>> 8) = d at hd
  have h16 := shr_nat d 16 65536 rfl
  have he : (d + (d >>> 16)).toNat = fE c'.toNat := by rw [add_nat (by omega), h16, hd, fE]
  have heb : fE c'.toNat ≤ 1100000000000000000 := by rw [fE]; omega
  generalize hge : d + (d >>> 16) = e at he
  have h32 := shr_nat e 32 4294967296 rfl
  have hf : (e + (e >>> 32)).toNat = fF c'.toNat := by rw [add_nat (by omega), h32, he, fF]
  have : swar x = e + (e >>> 32) := by rw [← hge, ← hgd, ← hgc, ← hgb, ← hga]; rfl
  rw [this, hf, hcc.1]
  refine ⟨rfl, ?_⟩
  rw [fF, ← hcc.1]; omega
theorem swar_wbits (x : BitVec 64) : (swar x).toNat % 128 = (wbits x).length := by
  rw [(swar_nat x).1, ones_cnt, wbits_length]

/-! ### The lowest -/

theorem wbits_zero : wbits 0#64 = [] := by decide
theorem low_bit {x : BitVec 64} (h : x ≠ 0#64) : ∃ t, t < 64 ∧ (x &&& -x).toNat = 2 ^ t ∧ wbits x = t :: wbits (x &&& (x - BitVec.ofInt 64 1)) := by
  have h0 : 0 < x.toNat := by
    rcases Nat.eq_zero_or_pos x.toNat with h1 | h1
    · exact absurd (BitVec.eq_of_toNat_eq h1) h
    · exact h1
  obtain ⟨m, hm, ht⟩ := Lib.ctzFrom_spec 64 x.toNat h0 x.isLt
  generalize Lib.ctzFrom 64 x.toNat = t at hm ht
  have hand := Lib.and_neg 64 t m (by rw [← hm]; exact x.isLt)
  rw [← hm] at hand
  have hlt : ∀ j, j < t → x.getLsbD j = false := fun j hj => by
    show x.toNat.testBit j = false
    rw [hm, Nat.testBit_two_pow_mul]; simp; omega
  have hge : ∀ j, x.getLsbD (t + j) = (2 * m + 1).testBit j := fun j => by
    show x.toNat.testBit (t + j) = _
    rw [hm, Nat.testBit_two_pow_mul]; simp
  have hpos : 0 < 2 ^ t := Nat.two_pow_pos t
  have hsub : (x - BitVec.ofInt 64 1).toNat = 2 ^ t * (2 * m) + (2 ^ t - 1) := by
    rw [show BitVec.ofInt 64 1 = 1#64 from rfl, BitVec.toNat_sub_of_le (by show (1#64).toNat ≤ x.toNat; exact h0), hm]
    have : 2 ^ t * (2 * m + 1) = 2 ^ t * (2 * m) + 2 ^ t := by rw [Nat.mul_add, Nat.mul_one]
    show 2 ^ t * (2 * m + 1) - 1 = _
    omega
  have hsge : ∀ j, (x - BitVec.ofInt 64 1).getLsbD (t + j) = (2 * m).testBit j := fun j => by
    show (x - BitVec.ofInt 64 1).toNat.testBit (t + j) = _
    rw [hsub, Nat.testBit_two_pow_mul_add _ (i := t) (by omega), if_neg (by omega), Nat.add_sub_cancel_left]
  refine ⟨t, ht, ?_, ?_⟩
  · rw [BitVec.toNat_and, BitVec.toNat_neg]
    have : (2 ^ 64 - x.toNat) % 2 ^ 64 = 2 ^ 64 - x.toNat := Nat.mod_eq_of_lt (by have := x.isLt; omega)
    rw [this]; exact hand
  · unfold wbits
    have hr : List.range 64 = List.range t ++ (t :: List.range' (t + 1) (63 - t)) := by
      rw [List.range_eq_range', List.range_eq_range', ← List.range'_succ]
      rw [show 63 - t + 1 = 64 - t by omega]
      have := List.range'_append (s := 0) (m := t) (n := 64 - t) (step := 1)
      simp only [Nat.one_mul, Nat.zero_add] at this
      rw [this, show t + (64 - t) = 64 by omega]
    have hxt : x.getLsbD t = true := by have := hge 0; simpa [Nat.testBit_zero] using this
    have hst : (x &&& (x - BitVec.ofInt 64 1)).getLsbD t = false := by
      rw [BitVec.getLsbD_and]; have := hsge 0; rw [Nat.add_zero] at this; rw [this]; simp [Nat.testBit_zero]
    have hA : ∀ z : BitVec 64, (∀ j, j < t → z.getLsbD j = false) → (List.range t).filter z.getLsbD = [] := fun z hz => by
      rw [List.filter_eq_nil_iff]; intro j hj; rw [hz j (List.mem_range.1 hj)]; simp
    rw [hr, List.filter_append, List.filter_append, hA x hlt, hA _ (fun j hj => by rw [BitVec.getLsbD_and, hlt j hj]; rfl), List.nil_append, List.nil_append,
      List.filter_cons, List.filter_cons, hxt, hst]
    simp only [if_true, Bool.false_eq_true, if_false, List.cons.injEq, true_and]
    apply List.filter_congr
    intro j hj
    obtain ⟨i, hi⟩ : ∃ i, j = t + (i + 1) := ⟨j - t - 1, by have := (List.mem_range'_1.1 hj).1; omega⟩
    subst hi
    rw [BitVec.getLsbD_and, hge, hsge, Nat.testBit_succ, Nat.testBit_succ, show (2 * m + 1) / 2 = m by omega, show 2 * m / 2 = m by omega]
    cases m.testBit i <;> rfl
/-- the place in the table -/
theorem table_at {t : Nat} (ht : t < 64) {x : BitVec 64} (hx : x.toNat = 2 ^ t) :
    ((x * BitVec.ofNat 64 285870213051353865) >>> 58).toNat < 64 ∧ Lib.deBruijn64tab.getD ((x * BitVec.ofNat 64 285870213051353865) >>> 58).toNat 0 = t := by
  have h := Lib.deBruijn64_at t ht
  have e : ((x * BitVec.ofNat 64 285870213051353865) >>> 58).toNat = 2 ^ t * 285870213051353865 % 18446744073709551616 / 288230376151711744 := by
    rw [shr_nat _ 58 288230376151711744 (by decide), BitVec.toNat_mul, hx]; rfl
  rw [e]; exact h
end Go.BM
end

section
namespace Go.BM

open Go.Sh

def bitsFrom : Nat → List (BitVec 64) → List Nat
  | _, [] => []
  | i, x :: ws => (wbits x).map (64 * i + ·) ++ bitsFrom (i + 1) ws
/-- the set bits of a row's words, rising -/
def bitsOf (ws : List (BitVec 64)) : List Nat := bitsFrom 0 ws
theorem wbits_le (x : BitVec 64) : (wbits x).length ≤ 64 := by
  have := List.length_filter_le x.getLsbD (List.range 64)
  simpa [wbits] using this
theorem bitsFrom_append : ∀ (a b : List (BitVec 64)) (i : Nat), bitsFrom i (a ++ b) = bitsFrom i a ++ bitsFrom (i + a.length) b
  | [], b, i => rfl
  | x :: a, b, i => by
    simp only [List.cons_append, bitsFrom, List.length_cons, List.append_assoc]
    rw [bitsFrom_append a b (i + 1), show i + 1 + a.length = i + (a.length + 1) by omega]
theorem bitsFrom_le : ∀ (a : List (BitVec 64)) (i : Nat), (bitsFrom i a).length ≤ 64 * a.length
  | [], _ => Nat.le_refl _
  | x :: a, i => by
    have := bitsFrom_le a (i + 1); have := wbits_le x
    simp only [bitsFrom, List.length_append, List.length_map, List.length_cons]; omega
theorem bitsFrom_take {ws : List (BitVec 64)} {i : Nat} (hi : i < ws.length) (k : Nat) :
    bitsFrom k (ws.take (i + 1)) = bitsFrom k (ws.take i) ++ (wbits ws[i]).map (64 * (k + i) + ·) := by
  rw [List.take_succ_eq_append_getElem hi, bitsFrom_append]
  simp only [bitsFrom, List.append_nil, List.length_take]
  rw [Nat.min_eq_left (by omega)]
theorem bitsFrom_drop {ws : List (BitVec 64)} {i : Nat} (hi : i < ws.length) (k : Nat) :
    bitsFrom k (ws.drop i) = (wbits ws[i]).map (64 * k + ·) ++ bitsFrom (k + 1) (ws.drop (i + 1)) := by
  rw [List.drop_eq_getElem_cons hi]; rfl
theorem filter_range_add (p : Nat → Bool) (a n : Nat) : ((List.range n).filter fun j => p (a + j)).map (a + ·) = (List.range' a n).filter p := by
  rw [List.range'_eq_map_range, List.filter_map]; rfl
theorem bitsFrom_filter : ∀ (ws : List (BitVec 64)) (i : Nat) (p : Nat → Bool), (∀ k, k < 64 * ws.length → p (64 * i + k) = bit ws k) → bitsFrom i ws = (List.range' (64 * i) (64 * ws.length)).filter p
  | [], _, _, _ => rfl
  | x :: ws, i, p, h => by
    rw [bitsFrom, bitsFrom_filter ws (i + 1) p (fun k hk => by
      have := h (64 + k) (by simp; omega)
      rw [show 64 * i + (64 + k) = 64 * (i + 1) + k by omega] at this
      rw [this, bit, bit, show (64 + k) / 64 = k / 64 + 1 by omega, show (64 + k) % 64 = k % 64 by omega]; rfl)]
    have h1 : (wbits x).map (64 * i + ·) = (List.range' (64 * i) 64).filter p := by
      rw [← filter_range_add]
      congr 1
      apply List.filter_congr
      intro j hj
      have hj := List.mem_range.1 hj
      rw [h j (by simp; omega), bit, show j / 64 = 0 by omega, show j % 64 = j by omega]; rfl
    rw [h1, ← List.filter_append]
    congr 1
theorem bitsOf_filter (ws : List (BitVec 64)) : bitsOf ws = (List.range (64 * ws.length)).filter (bit ws) := by
  rw [bitsOf, bitsFrom_filter ws 0 (bit ws) (fun k _ => by rw [Nat.mul_zero, Nat.zero_add]), List.range_eq_range']
theorem bitsOf_may {W : Int} {ws : List (BitVec 64)} (h : May W ws) : bitsOf ws = (List.range W.toNat).filter (bit ws) := by
  obtain ⟨h0, h1, h2, h3⟩ := h
  rw [bitsOf_filter, show 64 * ws.length = W.toNat + (64 * ws.length - W.toNat) by omega, List.range_add, List.filter_append]
  have : ((List.range (64 * ws.length - W.toNat)).map (W.toNat + ·)).filter (bit ws) = [] := by
    rw [List.filter_eq_nil_iff]
    intro k hk
    obtain ⟨j, hj, rfl⟩ := List.mem_map.1 hk
    have := List.mem_range.1 hj
    rw [h3 (W.toNat + j) (by omega) (by omega)]; simp
  rw [this, List.append_nil]
end Go.BM
end

section
namespace Go.BM

open Go.Sh

theorem getD_zip (g : BitVec 64 → BitVec 64 → BitVec 64) (hg : g 0 0 = 0) : ∀ (a b : List (BitVec 64)) (i : Nat), a.length = b.length → (List.zipWith g a b).getD i 0 = g (a.getD i 0) (b.getD i 0)
  | [], [], i, _ => by simpa using hg.symm
  | [], _ :: _, _, h => by simp at h
  | _ :: _, [], _, h => by simp at h
  | x :: a, y :: b, 0, _ => rfl
  | x :: a, y :: b, i + 1, h => by
    have := getD_zip g hg a b i (by simpa using h)
    simpa [List.zipWith_cons_cons] using this
theorem bit_zip {g : BitVec 64 → BitVec 64 → BitVec 64} {h : Bool → Bool → Bool} (hg : ∀ x y j, j < 64 → (g x y).getLsbD j = h (x.getLsbD j) (y.getLsbD j)) (h0 : g 0 0 = 0)
    {a b : List (BitVec 64)} (hl : a.length = b.length) (k : Nat) : bit (List.zipWith g a b) k = h (bit a k) (bit b k) := by
  rw [bit, getD_zip g h0 a b _ hl, hg _ _ _ (by omega)]; rfl
theorem may_zip {g : BitVec 64 → BitVec 64 → BitVec 64} {h : Bool → Bool → Bool} (hg : ∀ x y j, j < 64 → (g x y).getLsbD j = h (x.getLsbD j) (y.getLsbD j)) (h0 : g 0 0 = 0) (hh : h false false = false)
    {W : Int} {a b : List (BitVec 64)} (ha : May W a) (hb : May W b) : May W (List.zipWith g a b) := by
  have hl : a.length = b.length := by have := ha.2.2.1; have := hb.2.2.1; omega
  refine ⟨ha.1, ha.2.1, ?_, fun k hk hk' => ?_⟩
  · rw [List.length_zipWith, hl, Nat.min_self]; exact hb.2.2.1
  · rw [List.length_zipWith, hl, Nat.min_self] at hk'
    rw [bit_zip hg h0 hl, ha.2.2.2 k hk (by omega), hb.2.2.2 k hk (by omega), hh]
theorem or_bit (x y : BitVec 64) (j : Nat) (_ : j < 64) : (x ||| y).getLsbD j = (x.getLsbD j || y.getLsbD j) := BitVec.getLsbD_or
theorem and_bit (x y : BitVec 64) (j : Nat) (_ : j < 64) : (x &&& y).getLsbD j = (x.getLsbD j && y.getLsbD j) := BitVec.getLsbD_and
theorem less_bit (x y : BitVec 64) (j : Nat) (hj : j < 64) : (x &&& ~~~ y).getLsbD j = (x.getLsbD j && !y.getLsbD j) := by
  rw [BitVec.getLsbD_and, BitVec.getLsbD_not]; simp [hj]
/-- rows of one length with the same bits are one -/
theorem row_ext {a b : List (BitVec 64)} (hl : a.length = b.length) (h : ∀ k, k < 64 * a.length → bit a k = bit b k) : a = b := by
  apply List.ext_getElem hl
  intro i h1 h2
  apply BitVec.eq_of_getLsbD_eq
  intro j hj
  have := h (64 * i + j) (by omega)
  rwa [bit_word h1 j hj, bit_word h2 j hj] at this
theorem may_ext {W : Int} {a b : List (BitVec 64)} (ha : May W a) (hb : May W b) (h : ∀ k : Nat, (k : Int) < W → bit a k = bit b k) : a = b := by
  have hl : a.length = b.length := by have := ha.2.2.1; have := hb.2.2.1; omega
  refine row_ext hl fun k hk => ?_
  by_cases hk' : (k : Int) < W
  · exact h k hk'
  · rw [ha.2.2.2 k (by omega) hk, hb.2.2.2 k (by omega) (by omega)]

/-! ### One bit turned -/

theorem one_shl (j i : Nat) (_ : j < 64) (hi : i < 64) : (BitVec.ofInt 64 1 <<< j).getLsbD i = decide (i = j) := by
  rw [show BitVec.ofInt 64 1 = 1#64 from rfl, BitVec.getLsbD_shiftLeft, BitVec.getLsbD_one]
  by_cases h : i = j
  · subst h; simp [hi]
  · by_cases h2 : i < j
    · simp [h2, h]
    · have : ¬ (i - j = 0) := by omega
      simp [h, this]
theorem getD_set (l : List (BitVec 64)) (i j : Nat) (x : BitVec 64) (hi : i < l.length) : (l.set i x).getD j 0 = if j = i then x else l.getD j 0 := by
  rw [List.getD_eq_getElem?_getD, List.getElem?_set]
  by_cases h : i = j
  · subst h; simp [hi]
  · have : ¬ j = i := fun e => h e.symm
    simp [h, this, List.getD_eq_getElem?_getD]
theorem bit_turnW {g : BitVec 64 → BitVec 64 → BitVec 64} {h : Bool → Bool → Bool} (hg : ∀ x y j, j < 64 → (g x y).getLsbD j = h (x.getLsbD j) (y.getLsbD j))
    (hh : ∀ b, h b false = b) {ws : List (BitVec 64)} {n : Int} (hn : n.toNat < 64 * ws.length) (k : Nat) : bit (turnW g ws n) k = if k = n.toNat then h (bit ws k) true else bit ws k := by
  rw [bit, turnW, getD_set _ _ _ _ (by omega)]
  by_cases h1 : k / 64 = n.toNat / 64
  · rw [if_pos h1, hg _ _ _ (by omega), one_shl _ _ (by omega) (by omega), h1.symm]
    by_cases h2 : k = n.toNat
    · rw [if_pos h2, h2, decide_eq_true rfl]; rfl
    · have : ¬ k % 64 = n.toNat % 64 := by omega
      rw [if_neg h2, decide_eq_false this, hh]; rfl
  · rw [if_neg h1, if_neg (fun e => h1 (by rw [e]))]; rfl
theorem may_turnW {g : BitVec 64 → BitVec 64 → BitVec 64} {h : Bool → Bool → Bool} (hg : ∀ x y j, j < 64 → (g x y).getLsbD j = h (x.getLsbD j) (y.getLsbD j)) (hh : ∀ b, h b false = b)
    {W : Int} {ws : List (BitVec 64)} (hm : May W ws) {n : Int} (hn : 0 ≤ n ∧ n < W) : May W (turnW g ws n) := by
  have hl := hm.2.2.1
  refine ⟨hm.1, hm.2.1, by rw [turnW_length]; exact hl, fun k hk hk' => ?_⟩
  rw [turnW_length] at hk'
  rw [bit_turnW hg hh (by omega), if_neg (by omega)]
  exact hm.2.2.2 k hk hk'
theorem may_turnAll {g : BitVec 64 → BitVec 64 → BitVec 64} {h : Bool → Bool → Bool} (hg : ∀ x y j, j < 64 → (g x y).getLsbD j = h (x.getLsbD j) (y.getLsbD j)) (hh : ∀ b, h b false = b)
    {W : Int} : ∀ (ls : List Int) (ws : List (BitVec 64)), May W ws → AllIn W ls → May W (turnAll g ws ls)
  | [], _, hm, _ => hm
  | n :: ls, ws, hm, ha => by
    have := may_turnAll hg hh ls (turnW g ws n) (may_turnW hg hh hm (ha n (List.mem_cons_self ..))) fun k hk => ha k (List.mem_cons_of_mem _ hk)
    simpa [turnAll] using this
theorem bit_turnOr {W : Int} : ∀ (ls : List Int) (ws : List (BitVec 64)), May W ws → AllIn W ls → ∀ k, bit (turnAll (fun x y => x ||| y) ws ls) k = (bit ws k || decide ((k : Int) ∈ ls))
  | [], _, _, _, k => by simp [turnAll]
  | n :: ls, ws, hm, ha, k => by
    have hn := ha n (List.mem_cons_self ..)
    have h1 := bit_turnOr ls (turnW (fun x y => x ||| y) ws n) (may_turnW (h := fun a b => a || b) or_bit (by simp) hm hn) (fun k hk => ha k (List.mem_cons_of_mem _ hk)) k
    have hl := hm.2.2.1
    simp only [turnAll, List.foldl_cons] at h1 ⊢
    rw [h1, bit_turnW (h := fun a b => a || b) or_bit (by simp) (by omega)]
    by_cases h2 : k = n.toNat
    · have : (k : Int) = n := by omega
      simp [h2, show ((n.toNat : Int)) = n by omega]
    · have : ¬ (k : Int) = n := by omega
      simp [h2, this]
theorem may_zeros {W : Int} (h0 : 0 ≤ W) (h1 : W ≤ 1032) : May W (List.replicate ((W.toNat + 63) / 64) 0#64) := by
  refine ⟨h0, h1, by rw [List.length_replicate]; omega, fun k _ _ => ?_⟩
  simp [bit, List.getD_eq_getElem?_getD, List.getElem?_replicate]
  split <;> simp
theorem bit_zeros (n k : Nat) : bit (List.replicate n 0#64) k = false := by
  simp [bit, List.getD_eq_getElem?_getD, List.getElem?_replicate]
  split <;> simp
end Go.BM
end

section
namespace Go.BM

open Go.Sh

set_option maxRecDepth 100000

def putB (bs : List (BitVec 8)) (k : Nat) : List (BitVec 8) := bs.set (k / 8) ((bs.getD (k / 8) 0) ||| (128#8 >>> (k % 8)))
def putAll (bs : List (BitVec 8)) (l : List Nat) : List (BitVec 8) := l.foldl putB bs
theorem putB_length (bs : List (BitVec 8)) (k : Nat) : (putB bs k).length = bs.length := by simp [putB]
theorem putAll_length : ∀ (l : List Nat) (bs : List (BitVec 8)), (putAll bs l).length = bs.length
  | [], _ => rfl
  | k :: l, bs => by
    have := putAll_length l (putB bs k)
    simp only [putAll, List.foldl_cons] at this ⊢
    rw [this, putB_length]
theorem putAll_snoc (bs : List (BitVec 8)) (l : List Nat) (k : Nat) : putAll bs (l ++ [k]) = putB (putAll bs l) k := by simp [putAll]
def noB (W : Int) : List (BitVec 8) := List.replicate ((W.toNat + 7) / 8) 0#8
/-- the bytes of a row that may be -/
def bytesOf (W : Int) (ws : List (BitVec 64)) : List (BitVec 8) := putAll (noB W) (bitsOf ws)
theorem bytesOf_length (W : Int) (ws : List (BitVec 64)) : (bytesOf W ws).length = (W.toNat + 7) / 8 := by rw [bytesOf, putAll_length, noB, List.length_replicate]
def strOf (bs : List (BitVec 8)) : ByteArray := ⟨(bs.map UInt8.ofBitVec).toArray⟩
/-- bit k of bytes, the highest first -/
def bitB (bs : List (BitVec 8)) (k : Nat) : Bool := (bs.getD (k / 8) 0).getLsbD (7 - k % 8)
theorem and_bit8 : ∀ (x : BitVec 8) (k : Nat), k < 8 → ((x &&& (128#8 >>> k)).toNat = 0 ↔ x.getLsbD (7 - k) = false) := by
  have h : ∀ (x : BitVec 8) (k : Fin 8), ((x &&& (128#8 >>> k.val)).toNat = 0 ↔ x.getLsbD (7 - k.val) = false) := by decide +kernel
  exact fun x k hk => h x ⟨k, hk⟩
theorem bit8 : ∀ (k j : Nat), k < 8 → j < 8 → (128#8 >>> k).getLsbD (7 - j) = decide (j = k) := by
  have h : ∀ (k j : Fin 8), (128#8 >>> k.val).getLsbD (7 - j.val) = decide (j.val = k.val) := by decide +kernel
  exact fun k j hk hj => h ⟨k, hk⟩ ⟨j, hj⟩
theorem getD_set8 (l : List (BitVec 8)) (i j : Nat) (x : BitVec 8) (hi : i < l.length) : (l.set i x).getD j 0 = if j = i then x else l.getD j 0 := by
  rw [List.getD_eq_getElem?_getD, List.getElem?_set]
  by_cases h : i = j
  · subst h; simp [hi]
  · have : ¬ j = i := fun e => h e.symm
    simp [h, this, List.getD_eq_getElem?_getD]
theorem bitB_putB {bs : List (BitVec 8)} {n : Nat} (hn : n < 8 * bs.length) (k : Nat) : bitB (putB bs n) k = (bitB bs k || decide (k = n)) := by
  rw [bitB, putB, getD_set8 _ _ _ _ (by omega)]
  by_cases h1 : k / 8 = n / 8
  · rw [if_pos h1, BitVec.getLsbD_or, bit8 _ _ (by omega) (by omega), bitB, h1]
    congr 1
    by_cases h2 : k = n
    · simp [h2]
    · have : ¬ k % 8 = n % 8 := by omega
      simp [h2, this]
  · have h2 : ¬ k = n := fun e => h1 (by rw [e])
    rw [if_neg h1]; simp [h2, bitB]
theorem bitB_putAll : ∀ (l : List Nat) (bs : List (BitVec 8)), (∀ n ∈ l, n < 8 * bs.length) → ∀ k, bitB (putAll bs l) k = (bitB bs k || decide (k ∈ l))
  | [], _, _, k => by simp [putAll]
  | n :: l, bs, h, k => by
    have h1 := bitB_putAll l (putB bs n) (fun m hm => by rw [putB_length]; exact h m (List.mem_cons_of_mem _ hm)) k
    simp only [putAll, List.foldl_cons] at h1 ⊢
    rw [h1, bitB_putB (h n (List.mem_cons_self ..))]
    simp [Bool.or_assoc, List.mem_cons]
theorem bitB_zero (n k : Nat) : bitB (List.replicate n 0#8) k = false := by
  simp [bitB, List.getD_eq_getElem?_getD, List.getElem?_replicate]
  split <;> simp
theorem bitB_bytesOf {W : Int} {ws : List (BitVec 64)} (hm : May W ws) (k : Nat) (hk : k < 64 * ws.length) : bitB (bytesOf W ws) k = bit ws k := by
  rw [bytesOf, bitB_putAll, noB, bitB_zero, Bool.false_or, bitsOf_filter]
  · cases hb : bit ws k
    · simp [hb]
    · simp [hb, hk]
  · intro n hn
    rw [bitsOf_may hm] at hn
    have := List.mem_range.1 (List.mem_filter.1 hn).1
    rw [noB, List.length_replicate]; omega

/-! ### Of bytes -/

def sBits (s : ByteArray) : List (BitVec 8) := s.data.toList.map UInt8.toBitVec
def sbit (s : ByteArray) (k : Nat) : Bool := bitB (sBits s) k
theorem sBits_length (s : ByteArray) : (sBits s).length = s.size := by simp [sBits]
theorem sBits_get {s : ByteArray} {i : Nat} (h : i < s.size) : (sBits s).getD i 0 = s[i].toBitVec := by
  have h' : i < s.data.size := h
  simp only [sBits, List.getD_eq_getElem?_getD, List.getElem?_map, Array.getElem?_toList]
  rw [Array.getElem?_eq_getElem h']; rfl
theorem sbit_at {s : ByteArray} {i : Nat} (h : i < s.size) {k : Nat} (hk : k < 8) : sbit s (8 * i + k) = s[i].toBitVec.getLsbD (7 - k) := by
  rw [sbit, bitB, show (8 * i + k) / 8 = i by omega, show (8 * i + k) % 8 = k by omega, sBits_get h]
theorem strOf_size (bs : List (BitVec 8)) : (strOf bs).size = bs.length := by
  show ((bs.map UInt8.ofBitVec).toArray).size = _
  simp
theorem sBits_strOf (bs : List (BitVec 8)) : sBits (strOf bs) = bs := by
  simp [sBits, strOf, Function.comp_def]
theorem strOf_sBits (s : ByteArray) : strOf (sBits s) = s := by
  have : (s.data.toList.map UInt8.toBitVec).map UInt8.ofBitVec = s.data.toList := by
    rw [List.map_map]
    have h : (UInt8.ofBitVec ∘ UInt8.toBitVec) = id := by funext x; rfl
    rw [h, List.map_id]
  rw [strOf, sBits, this]
/-- the set bits of the first j, rising -/
def sL (s : ByteArray) (j : Nat) : List Int := ((List.range j).filter (sbit s)).map Int.ofNat
theorem sL_succ (s : ByteArray) (j : Nat) : sL s (j + 1) = if sbit s j then sL s j ++ [(j : Int)] else sL s j := by
  rw [sL, List.range_succ, List.filter_append, List.map_append]
  cases h : sbit s j <;> simp [h, sL]
/-- a bit behind the width in byte i? -/
def badB (W : Int) (s : ByteArray) (i : Nat) : Bool := (List.range 8).any fun k => decide (W ≤ ((8 * i + k : Nat) : Int)) && sbit s (8 * i + k)
/-- what Read answers: of what place it complains, or the words -/
def readR (W : Int) (s : ByteArray) : Nat ⊕ List (BitVec 64) :=
  let n := (W.toNat + 7) / 8
  match (List.range (min n s.size)).find? (badB W s) with
  | some i => .inl i
  | none => if s.size = n then .inr (turnAll (fun x y => x ||| y) (List.replicate ((W.toNat + 63) / 64) 0#64) (sL s W.toNat)) else .inl (min n s.size)
theorem find_range {p : Nat → Bool} {n i : Nat} (hi : i < n) (hp : p i = true) (h : ∀ j, j < i → p j = false) : (List.range n).find? p = some i := by
  rw [List.find?_range_eq_some]; exact ⟨hp, List.mem_range.2 hi, fun j hj => by rw [h j hj]; rfl⟩
theorem find_none {p : Nat → Bool} {n : Nat} (h : ∀ j, j < n → p j = false) : (List.range n).find? p = none := by
  rw [List.find?_eq_none]; intro j hj; rw [h j (List.mem_range.1 hj)]; simp
theorem sL_le {W : Int} {s : ByteArray} {j : Nat} (h : ∀ k, k < j → sbit s k = true → (k : Int) < W) : AllIn W (sL s j) := by
  intro k hk
  obtain ⟨m, hm, rfl⟩ := List.mem_map.1 hk
  have := List.mem_filter.1 hm
  have h2 := h m (List.mem_range.1 this.1) this.2
  exact ⟨Int.natCast_nonneg m, h2⟩
theorem sL_end {W : Int} {s : ByteArray} {j : Nat} (hj : W.toNat ≤ j) (h : ∀ k, k < j → sbit s k = true → (k : Int) < W) : sL s j = sL s W.toNat := by
  obtain ⟨d, rfl⟩ : ∃ d, j = W.toNat + d := ⟨j - W.toNat, by omega⟩
  rw [sL, List.range_add, List.filter_append, List.map_append]
  have : ((List.range d).map (W.toNat + ·)).filter (sbit s) = [] := by
    rw [List.filter_eq_nil_iff]
    intro k hk
    obtain ⟨m, hm, rfl⟩ := List.mem_map.1 hk
    intro hb
    have := h _ (by have := List.mem_range.1 hm; omega) hb
    omega
  rw [this, List.map_nil, List.append_nil]; rfl
end Go.BM
end

section
namespace Go.BM

open Go.Sh

theorem sbit_strOf (bs : List (BitVec 8)) (k : Nat) : sbit (strOf bs) k = bitB bs k := by rw [sbit, sBits_strOf]
theorem sbit_row {W : Int} {ws : List (BitVec 64)} (hm : May W ws) {k : Nat} (hk : k < 8 * ((W.toNat + 7) / 8)) : sbit (strOf (bytesOf W ws)) k = bit ws k := by
  have := hm.2.2.1; have := hm.1
  rw [sbit_strOf, bitB_bytesOf hm k (by omega)]
theorem bits_of_row {W : Int} {ws : List (BitVec 64)} (hm : May W ws) {p : Nat → Bool} (hp : ∀ k : Nat, (k : Int) < W → p k = bit ws k) :
    turnAll (fun x y => x ||| y) (List.replicate ((W.toNat + 63) / 64) 0#64) (((List.range W.toNat).filter p).map Int.ofNat) = ws := by
  have hz := may_zeros hm.1 hm.2.1
  have hall : AllIn W (((List.range W.toNat).filter p).map Int.ofNat) := by
    intro k hk
    obtain ⟨m, hm', rfl⟩ := List.mem_map.1 hk
    have := List.mem_range.1 (List.mem_filter.1 hm').1
    exact ⟨Int.natCast_nonneg m, by have := hm.1; show (m : Int) < W; omega⟩
  refine may_ext (may_turnAll (h := fun a b => a || b) or_bit (by simp) _ _ hz hall) hm fun k hk => ?_
  rw [bit_turnOr _ _ hz hall, bit_zeros, Bool.false_or, ← hp k hk]
  cases hb : p k with
  | true =>
    rw [decide_eq_true_eq]
    exact List.mem_map.2 ⟨k, List.mem_filter.2 ⟨List.mem_range.2 (by have := hm.1; omega), hb⟩, rfl⟩
  | false =>
    rw [decide_eq_false_iff_not]
    intro hmem
    obtain ⟨m, h1, h2⟩ := List.mem_map.1 hmem
    have h2 : m = k := Int.ofNat.inj h2
    subst h2
    rw [(List.mem_filter.1 h1).2] at hb; cases hb
theorem bits_set {W : Int} {ws : List (BitVec 64)} (hm : May W ws) : turnAll (fun x y => x ||| y) (List.replicate ((W.toNat + 63) / 64) 0#64) ((bitsOf ws).map Int.ofNat) = ws := by
  rw [bitsOf_may hm]; exact bits_of_row hm fun k _ => rfl
theorem read_bytes {W : Int} {ws : List (BitVec 64)} (hm : May W ws) : readR W (strOf (bytesOf W ws)) = .inr ws := by
  have hn : ∀ j, j < min ((W.toNat + 7) / 8) (strOf (bytesOf W ws)).size → badB W (strOf (bytesOf W ws)) j = false := by
    intro j hj
    rw [badB, List.any_eq_false]
    intro k hk
    have hk := List.mem_range.1 hk
    rw [sbit_row hm (by omega)]
    have := hm.2.2.1; have := hm.1
    simp only [Bool.and_eq_true, decide_eq_true_eq, not_and]
    intro hW hb
    rw [hm.2.2.2 _ hW (by omega)] at hb; cases hb
  have hs : (strOf (bytesOf W ws)).size = (W.toNat + 7) / 8 := by rw [strOf_size, bytesOf_length]
  have hf := find_none hn
  rw [hs] at hf
  simp only [readR, hs, hf, if_true]
  congr 1
  exact bits_of_row hm fun k hk => sbit_row hm (by have := hm.1; omega)
theorem bytes_ext {a b : List (BitVec 8)} (hl : a.length = b.length) (h : ∀ k, k < 8 * a.length → bitB a k = bitB b k) : a = b := by
  refine List.ext_getElem hl fun i h1 h2 => ?_
  refine BitVec.eq_of_getLsbD_eq fun j hj => ?_
  have := h (8 * i + (7 - j)) (by omega)
  rw [bitB, bitB, show (8 * i + (7 - j)) / 8 = i by omega, show 7 - (8 * i + (7 - j)) % 8 = j by omega] at this
  simpa [List.getD_eq_getElem?_getD, h1, h2] using this
theorem read_back {W : Int} {s : ByteArray} {ws : List (BitVec 64)} (h0 : 0 ≤ W) (h1 : W ≤ 1032) (h : readR W s = .inr ws) : May W ws ∧ strOf (bytesOf W ws) = s := by
  simp only [readR] at h
  split at h
  · cases h
  rename_i hf
  split at h
  · rename_i hs
    rw [List.find?_eq_none] at hf
    have hgood : ∀ k, k < 8 * s.size → sbit s k = true → (k : Int) < W := by
      intro k hk hb
      have h3 := hf (k / 8) (List.mem_range.2 (by omega))
      simp only [badB, Bool.not_eq_true, List.any_eq_false] at h3
      have h2 := h3 (k % 8) (List.mem_range.2 (by omega))
      rw [show 8 * (k / 8) + k % 8 = k by omega, hb] at h2
      simp at h2; exact h2
    have hz := may_zeros h0 h1
    have hall : AllIn W (sL s W.toNat) := sL_le fun k hk _ => by omega
    cases h
    have hm := may_turnAll (h := fun a b => a || b) or_bit (by simp) _ _ hz hall
    refine ⟨hm, ?_⟩
    have hb : bytesOf W (turnAll (fun x y => x ||| y) (List.replicate ((W.toNat + 63) / 64) 0#64) (sL s W.toNat)) = sBits s := by
      refine bytes_ext (by rw [bytesOf_length, sBits_length, hs]) fun k hk => ?_
      · rw [bytesOf_length] at hk
        rw [bitB_bytesOf hm k (by have := hm.2.2.1; omega), bit_turnOr _ _ hz hall, bit_zeros, Bool.false_or]
        show _ = sbit s k
        cases hb : sbit s k with
        | true =>
          have := hgood k (by omega) hb
          rw [decide_eq_true_eq]
          exact List.mem_map.2 ⟨k, List.mem_filter.2 ⟨List.mem_range.2 (by omega), hb⟩, rfl⟩
        | false =>
          rw [decide_eq_false_iff_not]
          intro hmem
          obtain ⟨m, h1, h2⟩ := List.mem_map.1 hmem
          have h2 : m = k := Int.ofNat.inj h2
          subst h2
          rw [(List.mem_filter.1 h1).2] at hb; cases hb
    rw [hb, strOf_sBits]
  · cases h
theorem read_at {W : Int} {s : ByteArray} {i : Nat} (h : readR W s = .inl i) : i ≤ s.size := by
  simp only [readR] at h
  split at h
  · rename_i j hf
    cases h
    have := List.mem_range.1 (List.mem_of_find?_eq_some hf)
    omega
  · split at h
    · cases h
    · cases h; omega
theorem bits_sorted {W : Int} {ws : List (BitVec 64)} (hm : May W ws) {k m : Nat} (hk : (bitsOf ws)[k]? = some m) : (k = 0 ∨ (bitsOf ws).getD (k - 1) 0 < m) ∧ (m : Int) < W ∧ bit ws m = true := by
  have hp : (bitsOf ws).Pairwise (· < ·) := by rw [bitsOf_may hm]; exact List.Pairwise.filter _ List.pairwise_lt_range
  obtain ⟨hl, hv⟩ := List.getElem?_eq_some_iff.1 hk
  have hmem : m ∈ bitsOf ws := hv ▸ List.getElem_mem hl
  rw [bitsOf_may hm] at hmem
  have h2 := List.mem_filter.1 hmem
  refine ⟨?_, by have := List.mem_range.1 h2.1; omega, h2.2⟩
  rcases Nat.eq_zero_or_pos k with h | h
  · exact .inl h
  · right
    have := List.pairwise_iff_getElem.1 hp (k - 1) k (by omega) hl (by omega)
    rw [hv] at this
    rwa [List.getD_eq_getElem?_getD, List.getElem?_eq_getElem (by omega)]
end Go.BM
end

section
namespace Go.Proofs

open Go.Sh Go.BM

set_option maxRecDepth 100000

set_option linter.unusedSimpArgs false

set_option linter.unusedVariables false

/-- a row: its width, its words -/
abbrev RowD := Int × List (BitVec 64)
structure FnD where
  rows : List RowD
  ranges : List RowD
  moves : List RowD
def headW : List RowD → Int
  | [] => 0
  | x :: _ => x.1
def GoodL (l : List RowD) (most : Nat) : Prop := l.length ≤ most ∧ ∀ x ∈ l, May x.1 x.2 ∧ x.1 = headW l
def MayF (f : FnD) : Prop := GoodL f.rows 512 ∧ GoodL f.ranges 256 ∧ GoodL f.moves 256
def MayC (c : List FnD) : Prop := 1 ≤ c.length ∧ c.length ≤ 32 ∧ ∀ f ∈ c, MayF f
def b8 (l : List (BitVec 8)) : List UInt8 := l.map UInt8.ofBitVec
def two (n : Nat) : List UInt8 := [UInt8.ofNat (n / 256), UInt8.ofNat (n % 256)]
def rowB (x : RowD) : List UInt8 := b8 (bytesOf x.1 x.2)
def rowsB : List RowD → List UInt8
  | [] => []
  | x :: l => rowB x ++ rowsB l
def listB (l : List RowD) : List UInt8 := two l.length ++ (two (headW l).toNat ++ rowsB l)
def fnB (f : FnD) : List UInt8 := listB f.rows ++ (listB f.ranges ++ listB f.moves)
def fnsB : List FnD → List UInt8
  | [] => []
  | f :: c => fnB f ++ fnsB c
def certB (c : List FnD) : List UInt8 := [76, 87, 67, 1] ++ ([UInt8.ofNat c.length] ++ fnsB c)
theorem b8_bs (l : List (BitVec 8)) : bs (b8 l) = strOf l := rfl
theorem rowB_len (x : RowD) : (rowB x).length = (x.1.toNat + 7) / 8 := by rw [rowB, b8, List.length_map, bytesOf_length]
/-! ### The reader -/

def oneG (lo hi : Nat) : Gr Nat := .byte (fun c => decide (lo ≤ c.toNat) && decide (c.toNat ≤ hi)) fun c => .ret c.toNat
def numG (most : Nat) : Gr Nat := (oneG 0 (most / 256)).bind fun x => (oneG 0 (if x = most / 256 then most % 256 else 255)).bind fun y => .ret (256 * x + y)
def badAt (w i : Nat) (c : UInt8) : Bool := (List.range 8).any fun k => decide (w ≤ 8 * i + k) && c.toBitVec.getLsbD (7 - k)
def byteG (st : Bool) (w i : Nat) : Gr UInt8 := .byte (fun c => !(st && badAt w i c)) fun c => .ret c
def rowG (st : Bool) (w : Nat) : Gr (List UInt8) := repG (byteG st w) 0 ((w + 7) / 8)
structure LstR where
  n : Nat
  w : Nat
  l : List (List UInt8)
def listG (st : Bool) (most : Nat) : Gr LstR := (numG most).bind fun n => (numG (if 0 < n then 1032 else 0)).bind fun w => (repG (fun _ => rowG st w) 0 n).bind fun l => .ret ⟨n, w, l⟩
structure FnR where
  at' : Nat
  x : LstR
  y : LstR
  z : LstR
def fnG (st : Bool) : Gr FnR := .pos fun a => (listG st 512).bind fun x => (listG st 256).bind fun y => (listG st 256).bind fun z => .ret ⟨a, x, y, z⟩
def markG : Gr Unit := (oneG 76 76).bind fun _ => (oneG 87 87).bind fun _ => (oneG 67 67).bind fun _ => (oneG 1 1).bind fun _ => .ret ()
def certG (st : Bool) : Gr (List FnR) := markG.bind fun _ => (oneG 1 32).bind fun n => repG (fun _ => fnG st) 0 n
/-- the words that bytes make -/
def wordsOf (w : Nat) (l : List UInt8) : List (BitVec 64) := turnAll (fun x y => x ||| y) (List.replicate ((w + 63) / 64) 0#64) (sL (bs l) w)
def LstR.rows (x : LstR) : List RowD := x.l.map fun l => ((x.w : Int), wordsOf x.w l)
def FnR.fn (f : FnR) : FnD := ⟨f.x.rows, f.y.rows, f.z.rows⟩
/-! ### What is written is read -/

theorem u8_nat {n : Nat} (h : n < 256) : (UInt8.ofNat n).toNat = n := by rw [UInt8.toNat_ofNat']; omega
theorem takes_one {lo hi : Nat} {c : UInt8} (h1 : lo ≤ c.toNat) (h2 : c.toNat ≤ hi) : Takes (oneG lo hi) c.toNat [c] :=
  .byte (by rw [decide_eq_true h1, decide_eq_true h2]; rfl) .ret
theorem takes_num {n most : Nat} (h : n ≤ most) (hm : most < 65536) : Takes (numG most) n (two n) := by
  have h1 : (UInt8.ofNat (n / 256)).toNat = n / 256 := u8_nat (by omega)
  have h2 : (UInt8.ofNat (n % 256)).toNat = n % 256 := u8_nat (by omega)
  have a := takes_one (lo := 0) (hi := most / 256) (c := UInt8.ofNat (n / 256)) (Nat.zero_le _) (by rw [h1]; omega)
  have b := takes_one (lo := 0) (hi := if n / 256 = most / 256 then most % 256 else 255) (c := UInt8.ofNat (n % 256)) (Nat.zero_le _) (by rw [h2]; split <;> omega)
  rw [h1] at a; rw [h2] at b
  have e : 256 * (n / 256) + n % 256 = n := by omega
  have := a.bind (f := fun x => (oneG 0 (if x = most / 256 then most % 256 else 255)).bind fun y => .ret (256 * x + y)) (b.bind (f := fun y => .ret (256 * (n / 256) + y)) .ret)
  rw [e] at this
  exact this
theorem takes_bytes {st : Bool} {w : Nat} : ∀ (l : List UInt8) (i : Nat), (∀ j (hj : j < l.length), badAt w (i + j) l[j] = false) → Takes (repG (byteG st w) i l.length) l l
  | [], i, _ => .ret
  | c :: l, i, h => by
    have h0 := h 0 (by simp)
    have a : Takes (byteG st w i) c [c] := .byte (by rw [show badAt w i c = false from h0]; simp) .ret
    have := takes_bytes (st := st) (w := w) l (i + 1) fun j hj => by
      have := h (j + 1) (by simpa using hj)
      rw [show i + 1 + j = i + (j + 1) by omega]; exact this
    have := this.bind (f := fun r => .ret (c :: r)) .ret
    rw [List.append_nil] at this
    exact a.bind (f := fun x => (repG (byteG st w) (i + 1) l.length).bind fun r => .ret (x :: r)) this
theorem badAt_eq {w : Nat} {l : List UInt8} {i : Nat} (hi : i < l.length) : badAt w i l[i] = badB (w : Int) (bs l) i := by
  rw [badAt, badB]
  have hs : i < (bs l).size := by rw [bs_size]; exact hi
  have : ∀ m, m ⊆ List.range 8 → (m.any fun k => decide (w ≤ 8 * i + k) && l[i].toBitVec.getLsbD (7 - k)) = m.any fun k => decide ((w : Int) ≤ ((8 * i + k : Nat) : Int)) && sbit (bs l) (8 * i + k) := by
    intro m
    induction m with
    | nil => intro _; rfl
    | cons k m ih =>
      intro hm
      have hk := List.mem_range.1 (hm List.mem_cons_self)
      rw [List.any_cons, List.any_cons, ih fun x hx => hm (List.mem_cons_of_mem _ hx), sbit_at hs hk]
      congr 2
      exact decide_eq_decide.2 (by omega)
  exact this _ fun x hx => hx
theorem row_good {x : RowD} (hm : May x.1 x.2) {j : Nat} (hj : j < (rowB x).length) : badAt x.1.toNat j (rowB x)[j] = false := by
  rw [badAt_eq hj, rowB, b8_bs, show ((x.1.toNat : Nat) : Int) = x.1 by have := hm.1; omega]
  have hl := rowB_len x
  rw [badB, List.any_eq_false]
  intro k hk
  have hk := List.mem_range.1 hk
  rw [sbit_row hm (by omega)]
  have := hm.2.2.1; have := hm.1
  simp only [Bool.and_eq_true, decide_eq_true_eq, not_and]
  intro hW hb
  rw [hm.2.2.2 _ hW (by omega)] at hb; cases hb
theorem takes_row {st : Bool} {x : RowD} (hm : May x.1 x.2) : Takes (rowG st x.1.toNat) (rowB x) (rowB x) := by
  have := takes_bytes (st := st) (w := x.1.toNat) (rowB x) 0 fun j hj => by rw [Nat.zero_add]; exact row_good hm hj
  rw [rowB_len] at this
  exact this
theorem takes_rep {α : Type} {G : Nat → Gr α} {B : α → List UInt8} : ∀ (l : List α) (i : Nat), (∀ x ∈ l, ∀ i, Takes (G i) x (B x)) → Takes (repG G i l.length) l (l.flatMap B)
  | [], i, _ => .ret
  | x :: l, i, h => by
    have a := h x List.mem_cons_self i
    have b := takes_rep (B := B) l (i + 1) fun y hy => h y (List.mem_cons_of_mem _ hy)
    have := a.bind (f := fun x => (repG G (i + 1) l.length).bind fun r => .ret (x :: r)) (b.bind (f := fun r => .ret (x :: r)) .ret)
    rw [List.append_nil] at this
    exact this
theorem rowsB_flat (l : List RowD) : rowsB l = (l.map rowB).flatMap id := by
  induction l with
  | nil => rfl
  | cons x l ih => rw [rowsB, ih]; rfl
def lstR (l : List RowD) : LstR := ⟨l.length, (headW l).toNat, l.map rowB⟩
theorem headW_le {l : List RowD} {most : Nat} (h : GoodL l most) : (headW l).toNat ≤ (if 0 < l.length then 1032 else 0) := by
  cases l with
  | nil => exact Nat.le_refl _
  | cons x l =>
    have := (h.2 x List.mem_cons_self).1
    have h1 := this.1; have h2 := this.2.1
    simp only [headW, List.length_cons, Nat.zero_lt_succ, if_true]
    omega
theorem takes_list {st : Bool} {l : List RowD} {most : Nat} (h : GoodL l most) (hm : most < 65536) : Takes (listG st most) (lstR l) (listB l) := by
  have a := takes_num h.1 hm
  have b := takes_num (headW_le h) (by split <;> omega)
  have c : Takes (repG (fun _ => rowG st (headW l).toNat) 0 l.length) (l.map rowB) (rowsB l) := by
    rw [rowsB_flat]
    have := takes_rep (G := fun _ => rowG st (headW l).toNat) (B := id) (l.map rowB) 0 fun y hy i => by
      obtain ⟨x, hx, rfl⟩ := List.mem_map.1 hy
      obtain ⟨h1, h2⟩ := h.2 x hx
      rw [← h2]
      exact takes_row h1
    rw [List.length_map] at this
    exact this
  have := a.bind (f := fun n => (numG (if 0 < n then 1032 else 0)).bind fun w => (repG (fun _ => rowG st w) 0 n).bind fun l => .ret (⟨n, w, l⟩ : LstR))
    (b.bind (f := fun w => (repG (fun _ => rowG st w) 0 l.length).bind fun r => .ret (⟨l.length, w, r⟩ : LstR)) (c.bind (f := fun r => .ret (⟨l.length, (headW l).toNat, r⟩ : LstR)) .ret))
  rw [List.append_nil] at this
  exact this
theorem run_fn {st : Bool} {f : FnD} (h : MayF f) (m : List UInt8) (a : Nat) : (fnG st).run (fnB f ++ m) a = (a + (fnB f).length, some ⟨a, lstR f.rows, lstR f.ranges, lstR f.moves⟩) := by
  have t : Takes ((listG st 512).bind fun x => (listG st 256).bind fun y => (listG st 256).bind fun z => .ret (⟨a, x, y, z⟩ : FnR)) ⟨a, lstR f.rows, lstR f.ranges, lstR f.moves⟩ (fnB f) := by
    have := (takes_list (st := st) h.1 (by decide)).bind (f := fun x => (listG st 256).bind fun y => (listG st 256).bind fun z => .ret (⟨a, x, y, z⟩ : FnR))
      ((takes_list (st := st) h.2.1 (by decide)).bind (f := fun y => (listG st 256).bind fun z => .ret (⟨a, lstR f.rows, y, z⟩ : FnR)) ((takes_list (st := st) h.2.2 (by decide)).bind (f := fun z => .ret (⟨a, lstR f.rows, lstR f.ranges, z⟩ : FnR)) .ret))
    rw [List.append_nil] at this
    exact this
  exact t m a
/-- where each function begins -/
def fnsR : List FnD → Nat → List FnR
  | [], _ => []
  | f :: c, a => ⟨a, lstR f.rows, lstR f.ranges, lstR f.moves⟩ :: fnsR c (a + (fnB f).length)
theorem run_fns {st : Bool} : ∀ (c : List FnD) (m : List UInt8) (a i : Nat), (∀ f ∈ c, MayF f) → (repG (fun _ => fnG st) i c.length).run (fnsB c ++ m) a = (a + (fnsB c).length, some (fnsR c a))
  | [], m, a, i, _ => rfl
  | f :: c, m, a, i, h => by
    rw [List.length_cons, repG, Gr.run_bind, fnsB, List.append_assoc, run_fn (h f List.mem_cons_self)]
    simp only [bd]
    rw [Gr.run_bind, show a + (fnB f).length - a = (fnB f).length by omega, List.drop_left', run_fns c m _ _ fun g hg => h g (List.mem_cons_of_mem _ hg)]
    · simp only [bd, Gr.run, fnsR, List.length_append, Nat.add_assoc]
    · rfl
theorem run_cert {st : Bool} {c : List FnD} (h : MayC c) (m : List UInt8) : (certG st).run (certB c ++ m) 0 = ((certB c).length, some (fnsR c 5)) := by
  have hc : (UInt8.ofNat c.length).toNat = c.length := u8_nat (by have := h.2.1; omega)
  have mk : Takes markG () [76, 87, 67, 1] :=
    (takes_one (lo := 76) (hi := 76) (c := 76) (by decide) (by decide)).bind (f := fun _ => (oneG 87 87).bind fun _ => (oneG 67 67).bind fun _ => (oneG 1 1).bind fun _ => .ret ())
      ((takes_one (lo := 87) (hi := 87) (c := 87) (by decide) (by decide)).bind (f := fun _ => (oneG 67 67).bind fun _ => (oneG 1 1).bind fun _ => .ret ())
        ((takes_one (lo := 67) (hi := 67) (c := 67) (by decide) (by decide)).bind (f := fun _ => (oneG 1 1).bind fun _ => .ret ())
          ((takes_one (lo := 1) (hi := 1) (c := 1) (by decide) (by decide)).bind (f := fun _ => .ret ()) .ret)))
  have cn := takes_one (lo := 1) (hi := 32) (c := UInt8.ofNat c.length) (by rw [hc]; exact h.1) (by rw [hc]; exact h.2.1)
  rw [hc] at cn
  have hb : certB c ++ m = [76, 87, 67, 1] ++ ([UInt8.ofNat c.length] ++ (fnsB c ++ m)) := by rw [certB, List.append_assoc, List.append_assoc]
  rw [certG, hb, mk.run_bind, cn.run_bind, run_fns c m _ _ h.2.2]
  simp only [certB, List.length_append, List.length_cons, List.length_nil]
  congr 1
  omega
theorem rowsR {l : List RowD} {most : Nat} (h : GoodL l most) : (lstR l).rows = l := by
  rw [LstR.rows, lstR, List.map_map]
  have : ∀ x ∈ l, ((fun r => (((headW l).toNat : Int), wordsOf (headW l).toNat r)) ∘ rowB) x = x := by
    intro x hx
    obtain ⟨h1, h2⟩ := h.2 x hx
    have h0 := h1.1
    rw [← h2]
    refine Prod.ext ?_ ?_
    · show ((x.1.toNat : Nat) : Int) = x.1
      omega
    · show wordsOf x.1.toNat (rowB x) = x.2
      have hr := read_bytes h1
      rw [wordsOf, rowB, b8_bs]
      simp only [readR] at hr
      split at hr
      · cases hr
      · split at hr
        · exact Sum.inr.inj hr
        · cases hr
  exact (List.map_congr_left this).trans (List.map_id l)
theorem fnsR_fn : ∀ (c : List FnD) (a : Nat), (∀ f ∈ c, MayF f) → (fnsR c a).map FnR.fn = c
  | [], _, _ => rfl
  | f :: c, a, h => by
    have hf := h f List.mem_cons_self
    rw [fnsR, List.map_cons, fnsR_fn c _ fun g hg => h g (List.mem_cons_of_mem _ hg), FnR.fn]
    simp only [rowsR hf.1, rowsR hf.2.1, rowsR hf.2.2]
end Go.Proofs
end

section
namespace Go.Proofs

open Go.Sh Go.BM

set_option maxRecDepth 100000

set_option linter.unusedSimpArgs false

set_option linter.unusedVariables false

/-- what a reader tells, and of which bytes -/
def Gives {α : Type} (G : Gr α) (P : Nat → α → List UInt8 → Prop) : Prop := ∀ l a b v, G.run l a = (b, some v) → ∃ m n, l = m ++ n ∧ b = a + m.length ∧ P a v m
theorem Gives.ret {α : Type} {v : α} : Gives (.ret v) fun _ u m => u = v ∧ m = [] := fun l a b u h => by
  simp only [Gr.run, Prod.mk.injEq, Option.some.injEq] at h
  exact ⟨[], l, rfl, by rw [← h.1]; rfl, h.2.symm, rfl⟩
theorem Gives.bind {α β : Type} {G : Gr α} {f : α → Gr β} {P : Nat → α → List UInt8 → Prop} {Q : α → Nat → β → List UInt8 → Prop} (h : Gives G P) (k : ∀ u, Gives (f u) (Q u)) :
    Gives (G.bind f) fun a v m => ∃ u m1 m2, m = m1 ++ m2 ∧ P a u m1 ∧ Q u (a + m1.length) v m2 := fun l a b v hr => by
  rw [Gr.run_bind] at hr
  cases hx : G.run l a with
  | mk b1 o =>
    rw [hx] at hr
    cases o with
    | none => simp [bd] at hr
    | some u =>
      simp only [bd] at hr
      obtain ⟨m1, n1, rfl, rfl, h1⟩ := h l a b1 u hx
      rw [show a + m1.length - a = m1.length by omega, List.drop_left' rfl] at hr
      obtain ⟨m2, n2, rfl, rfl, h2⟩ := k u _ _ _ _ hr
      exact ⟨m1 ++ m2, n2, by rw [List.append_assoc], by rw [List.length_append, Nat.add_assoc], u, m1, m2, rfl, h1, h2⟩
theorem Gives.mono {α : Type} {G : Gr α} {P Q : Nat → α → List UInt8 → Prop} (h : Gives G P) (k : ∀ a v m, P a v m → Q a v m) : Gives G Q := fun l a b v hr => by
  obtain ⟨m, n, h1, h2, h3⟩ := h l a b v hr
  exact ⟨m, n, h1, h2, k _ _ _ h3⟩
theorem gives_byte {p : UInt8 → Bool} {α : Type} {f : UInt8 → α} : Gives (.byte p fun c => .ret (f c)) fun _ v m => ∃ c, p c = true ∧ v = f c ∧ m = [c] := fun l a b v h => by
  cases l with
  | nil => simp [Gr.run] at h
  | cons c l =>
    rw [Gr.run] at h
    split at h
    · rename_i hp
      simp only [Gr.run, Prod.mk.injEq, Option.some.injEq] at h
      exact ⟨[c], l, rfl, by rw [← h.1]; rfl, c, hp, h.2.symm, rfl⟩
    · simp at h
theorem gives_one {lo hi : Nat} : Gives (oneG lo hi) fun _ v m => lo ≤ v ∧ v ≤ hi ∧ v < 256 ∧ m = [UInt8.ofNat v] := gives_byte.mono fun a v m ⟨c, hp, hv, hm⟩ => by
  simp only [Bool.and_eq_true, decide_eq_true_eq] at hp
  subst hv
  exact ⟨hp.1, hp.2, c.toNat_lt, by rw [hm, UInt8.ofNat_toNat]⟩
theorem gives_num {most : Nat} (hm : most < 65536) : Gives (numG most) fun _ v m => v ≤ most ∧ m = two v :=
  (gives_one.bind fun x => gives_one.bind fun y => .ret).mono fun a v m ⟨x, m1, m2, e1, ⟨_, hx, hx2, e2⟩, y, m3, m4, e3, ⟨_, hy, hy2, e4⟩, e5, e6⟩ => by
    subst e5; subst e6; subst e4; subst e3; subst e2; subst e1
    have hyy : y ≤ if x = most / 256 then most % 256 else 255 := hy
    have h1 : (256 * x + y) / 256 = x := by omega
    have h2 : (256 * x + y) % 256 = y := by omega
    refine ⟨?_, ?_⟩
    · split at hyy <;> omega
    · rw [two, h1, h2]; rfl
theorem gives_rep {α : Type} {G : Nat → Gr α} {P : α → Prop} {B : α → List UInt8} (h : ∀ i, Gives (G i) fun _ v m => P v ∧ m = B v) : ∀ (n i : Nat), Gives (repG G i n) fun _ l m => l.length = n ∧ (∀ x ∈ l, P x) ∧ m = l.flatMap B
  | 0, i => Gives.ret.mono fun a v m ⟨e1, e2⟩ => by subst e1; subst e2; exact ⟨rfl, by simp, rfl⟩
  | n + 1, i => ((h i).bind fun x => (gives_rep h n (i + 1)).bind fun l => .ret).mono fun a v m ⟨x, m1, m2, e1, ⟨hx, e2⟩, l, m3, m4, e3, ⟨hl, hp, e4⟩, e5, e6⟩ => by
    subst e5; subst e6; subst e4; subst e3; subst e2; subst e1
    refine ⟨by rw [List.length_cons, hl], fun y hy => ?_, by simp⟩
    rcases List.mem_cons.1 hy with rfl | hy
    · exact hx
    · exact hp y hy
theorem gives_bytes {st : Bool} {w : Nat} : ∀ (n i : Nat), Gives (repG (byteG st w) i n) fun _ l m => l.length = n ∧ m = l ∧ (st = true → ∀ j (hj : j < l.length), badAt w (i + j) l[j] = false)
  | 0, i => Gives.ret.mono fun a v m ⟨e1, e2⟩ => by subst e1; subst e2; exact ⟨rfl, rfl, fun _ j hj => by simp at hj⟩
  | n + 1, i => (gives_byte.bind fun x => (gives_bytes n (i + 1)).bind fun l => .ret).mono fun a v m ⟨x, m1, m2, e1, ⟨c, hp, hx, e2⟩, l, m3, m4, e3, ⟨hl, e4, hb⟩, e5, e6⟩ => by
    subst e5; subst e6; subst hx; subst e2; subst e3; subst e1
    subst e4
    refine ⟨by rw [List.length_cons, hl], by simp, fun hs j hj => ?_⟩
    cases j with
    | zero => rw [hs] at hp; simpa using hp
    | succ j =>
      have := hb hs j (by simpa using hj)
      rw [show i + (j + 1) = i + 1 + j by omega]
      simpa using this
def RowOK (st : Bool) (w : Nat) (l : List UInt8) : Prop := l.length = (w + 7) / 8 ∧ (st = true → ∀ j (hj : j < l.length), badAt w j l[j] = false)
theorem gives_row {st : Bool} {w : Nat} : Gives (rowG st w) fun _ v m => RowOK st w v ∧ m = id v := (gives_bytes _ 0).mono fun a v m ⟨h1, h2, h3⟩ => ⟨⟨h1, fun hs j hj => by have := h3 hs j hj; rwa [Nat.zero_add] at this⟩, h2⟩
def LstOK (st : Bool) (most : Nat) (x : LstR) : Prop := x.n ≤ most ∧ x.w ≤ (if 0 < x.n then 1032 else 0) ∧ x.l.length = x.n ∧ ∀ r ∈ x.l, RowOK st x.w r
def LstR.B (x : LstR) : List UInt8 := two x.n ++ (two x.w ++ x.l.flatMap id)
theorem gives_list {st : Bool} {most : Nat} (hm : most < 65536) : Gives (listG st most) fun _ v m => LstOK st most v ∧ m = v.B :=
  ((gives_num hm).bind fun n => (gives_num (by split <;> omega)).bind fun w => (gives_rep (fun _ => gives_row) n 0).bind fun l => .ret).mono
    fun a v m ⟨n, m1, m2, e1, ⟨hn, e2⟩, w, m3, m4, e3, ⟨hw, e4⟩, l, m5, m6, e5, ⟨hl, hr, e6⟩, e7, e8⟩ => by
      subst e7; subst e8; subst e6; subst e5; subst e4; subst e3; subst e2; subst e1
      exact ⟨⟨hn, hw, hl, hr⟩, by simp [LstR.B]⟩
def FnOK (st : Bool) (a : Nat) (f : FnR) : Prop := f.at' = a ∧ LstOK st 512 f.x ∧ LstOK st 256 f.y ∧ LstOK st 256 f.z
def FnR.B (f : FnR) : List UInt8 := f.x.B ++ (f.y.B ++ f.z.B)
theorem gives_pos {α : Type} {k : Nat → Gr α} {P : Nat → α → List UInt8 → Prop} (h : ∀ a, Gives (k a) fun a' v m => a' = a → P a v m) : Gives (.pos k) P := fun l a b v hr => by
  rw [Gr.run] at hr
  obtain ⟨m, n, h1, h2, h3⟩ := h a l a b v hr
  exact ⟨m, n, h1, h2, h3 rfl⟩
theorem gives_fn {st : Bool} : Gives (fnG st) fun a v m => FnOK st a v ∧ m = v.B := gives_pos fun a =>
  ((gives_list (by decide)).bind fun x => (gives_list (by decide)).bind fun y => (gives_list (by decide)).bind fun z => .ret).mono
    fun a' v m ⟨x, m1, m2, e1, ⟨hx, e2⟩, y, m3, m4, e3, ⟨hy, e4⟩, z, m5, m6, e5, ⟨hz, e6⟩, e7, e8⟩ ha => by
      subst e7; subst e8; subst e6; subst e5; subst e4; subst e3; subst e2; subst e1
      exact ⟨⟨rfl, hx, hy, hz⟩, by simp [FnR.B]⟩
/-- functions one behind the other -/
def FnsOK (st : Bool) : Nat → List FnR → Prop
  | _, [] => True
  | a, f :: l => FnOK st a f ∧ FnsOK st (a + f.B.length) l
theorem gives_fns {st : Bool} : ∀ (n i : Nat), Gives (repG (fun _ => fnG st) i n) fun a l m => l.length = n ∧ FnsOK st a l ∧ m = l.flatMap FnR.B
  | 0, i => Gives.ret.mono fun a v m ⟨e1, e2⟩ => by subst e1; subst e2; exact ⟨rfl, trivial, rfl⟩
  | n + 1, i => (gives_fn.bind fun x => (gives_fns n (i + 1)).bind fun l => .ret).mono fun a v m ⟨x, m1, m2, e1, ⟨hx, e2⟩, l, m3, m4, e3, ⟨hl, hp, e4⟩, e5, e6⟩ => by
    subst e5; subst e6; subst e4; subst e3; subst e2; subst e1
    exact ⟨by rw [List.length_cons, hl], ⟨hx, hp⟩, by simp⟩
theorem gives_cert {st : Bool} : Gives (certG st) fun a l m => 1 ≤ l.length ∧ l.length ≤ 32 ∧ FnsOK st (a + 5) l ∧ m = [76, 87, 67, 1] ++ ([UInt8.ofNat l.length] ++ l.flatMap FnR.B) := by
  have mk : Gives markG fun _ _ m => m = [76, 87, 67, 1] :=
    (gives_one.bind fun _ => gives_one.bind fun _ => gives_one.bind fun _ => gives_one.bind fun _ => .ret).mono
      fun a v m ⟨x, m1, m2, e1, ⟨h1, h2, _, e2⟩, y, m3, m4, e3, ⟨h3, h4, _, e4⟩, z, m5, m6, e5, ⟨h5, h6, _, e6⟩, u, m7, m8, e7, ⟨h7, h8, _, e8⟩, e9, e10⟩ => by
        subst e10; subst e8; subst e7; subst e6; subst e5; subst e4; subst e3; subst e2; subst e1
        obtain rfl : x = 76 := by omega
        obtain rfl : y = 87 := by omega
        obtain rfl : z = 67 := by omega
        obtain rfl : u = 1 := by omega
        rfl
  exact (mk.bind fun _ => gives_one.bind fun n => gives_fns n 0).mono fun a l m ⟨_, m1, m2, e1, e2, n, m3, m4, e3, ⟨h1, h2, _, e4⟩, h3, h4, e5⟩ => by
    subst e5; subst e4; subst e3; subst e2; subst e1
    subst h3
    refine ⟨h1, h2, ?_, rfl⟩
    have : a + [(76 : UInt8), 87, 67, 1].length + [UInt8.ofNat l.length].length = a + 5 := by simp
    rwa [this] at h4
/-! ### Strict readers read what was written -/

theorem row_back {w : Nat} {l : List UInt8} (hw : w ≤ 1032) (h : RowOK true w l) : May (w : Int) (wordsOf w l) ∧ b8 (bytesOf (w : Int) (wordsOf w l)) = l := by
  have hsz : (bs l).size = (w + 7) / 8 := by rw [bs_size]; exact h.1
  have hr : readR (w : Int) (bs l) = .inr (wordsOf w l) := by
    have hn : (List.range (min (((w : Int).toNat + 7) / 8) (bs l).size)).find? (badB (w : Int) (bs l)) = none := find_none fun j hj => by
      have hj' : j < l.length := by rw [bs_size] at hj; omega
      rw [← badAt_eq hj']; exact h.2 rfl j hj'
    simp only [readR, hn]
    rw [if_pos (by rw [hsz, Int.toNat_natCast])]
    rfl
  obtain ⟨h1, h2⟩ := read_back (by omega) (by omega) hr
  refine ⟨h1, ?_⟩
  have : bs (b8 (bytesOf (w : Int) (wordsOf w l))) = bs l := h2
  have := congrArg (fun x : ByteArray => x.data.toList) this
  simpa [bs] using this
theorem rowsB_back {w : Nat} (hw : w ≤ 1032) : ∀ (l : List (List UInt8)), (∀ r ∈ l, RowOK true w r) → rowsB (l.map fun r => ((w : Int), wordsOf w r)) = l.flatMap id
  | [], _ => rfl
  | r :: l, h => by
    rw [List.map_cons, rowsB, rowsB_back hw l fun x hx => h x (List.mem_cons_of_mem _ hx), rowB, (row_back hw (h r List.mem_cons_self)).2]
    rfl
theorem list_back {most : Nat} {x : LstR} (h : LstOK true most x) : GoodL x.rows most ∧ listB x.rows = x.B := by
  obtain ⟨h1, h2, h3, h4⟩ := h
  have hw : x.w ≤ 1032 := by split at h2 <;> omega
  have hlen : x.rows.length = x.n := by rw [LstR.rows, List.length_map, h3]
  have hh : (headW x.rows).toNat = x.w := by
    cases hl : x.l with
    | nil =>
      rw [hl] at h3
      have : x.n = 0 := by simpa using h3.symm
      rw [this] at h2
      rw [LstR.rows, hl]
      simp at h2
      rw [h2]; rfl
    | cons r l => rw [LstR.rows, hl]; simp [headW]
  refine ⟨⟨by rw [hlen]; exact h1, fun y hy => ?_⟩, ?_⟩
  · obtain ⟨r, hr, rfl⟩ := List.mem_map.1 hy
    refine ⟨(row_back hw (h4 r hr)).1, ?_⟩
    cases hl : x.l with
    | nil => rw [hl] at hr; cases hr
    | cons r l => rw [LstR.rows, hl]; rfl
  · rw [listB, hlen, hh, LstR.B, LstR.rows, rowsB_back hw _ h4]
theorem fn_back {a : Nat} {f : FnR} (h : FnOK true a f) : MayF f.fn ∧ fnB f.fn = f.B := by
  obtain ⟨_, h1, h2, h3⟩ := h
  obtain ⟨a1, b1⟩ := list_back h1
  obtain ⟨a2, b2⟩ := list_back h2
  obtain ⟨a3, b3⟩ := list_back h3
  exact ⟨⟨a1, a2, a3⟩, by rw [fnB, FnR.B, ← b1, ← b2, ← b3]; rfl⟩
theorem fns_back : ∀ (l : List FnR) (a : Nat), FnsOK true a l → (∀ f ∈ l.map FnR.fn, MayF f) ∧ fnsB (l.map FnR.fn) = l.flatMap FnR.B
  | [], _, _ => ⟨by simp, rfl⟩
  | f :: l, a, h => by
    obtain ⟨h1, h2⟩ := fn_back h.1
    obtain ⟨h3, h4⟩ := fns_back l _ h.2
    refine ⟨fun g hg => ?_, by rw [List.map_cons, fnsB, h2, h4]; rfl⟩
    rw [List.map_cons] at hg
    rcases List.mem_cons.1 hg with rfl | hg
    · exact h1
    · exact h3 g hg
/-- all of a text -/
def certR (st : Bool) (s : List UInt8) : Rd' (List FnR) := match (certG st).run s 0 with
  | (a, some v) => if a < s.length then (a, none) else (a, some v)
  | (a, none) => (a, none)
theorem cert_back {s : List UInt8} {b : Nat} {l : List FnR} (h : certR true s = (b, some l)) : MayC (l.map FnR.fn) ∧ certB (l.map FnR.fn) = s ∧ b = s.length ∧ FnsOK true 5 l := by
  unfold certR at h
  split at h
  · rename_i a v hr
    split at h
    · cases h
    · rename_i hlt
      cases h
      have hle := Gr.run_le (certG true) s 0
      rw [hr] at hle
      obtain ⟨m, n, h1, h2, h3, h4, h5, h6⟩ := gives_cert _ _ _ _ hr
      have hn : n = [] := by
        have := congrArg List.length h1
        rw [List.length_append] at this
        exact List.eq_nil_of_length_eq_zero (by omega)
      subst hn
      rw [List.append_nil] at h1
      subst h1
      obtain ⟨a1, a2⟩ := fns_back l _ h5
      rw [Nat.zero_add] at h5
      refine ⟨⟨by rw [List.length_map]; exact h3, by rw [List.length_map]; exact h4, a1⟩, by rw [certB, List.length_map, a2, h6], by rw [h2, Nat.zero_add], h5⟩
  · cases h
theorem cert_there {st : Bool} {c : List FnD} (h : MayC c) : certR st (certB c) = ((certB c).length, some (fnsR c 5)) := by
  have := run_cert (st := st) h []
  rw [List.append_nil] at this
  rw [certR, this]
  simp
/-- of no two certificates is one's bytes the beginning of the other one's -/
theorem cert_apart {c d : List FnD} (hc : MayC c) (hd : MayC d) {m : List UInt8} (h : certB d = certB c ++ m) : m = [] := by
  have h1 := run_cert (st := true) hc m
  have h2 := run_cert (st := true) hd []
  rw [List.append_nil, h, h1] at h2
  have := congrArg Prod.fst h2
  simp only [List.length_append] at this
  exact List.eq_nil_of_length_eq_zero (by omega)
theorem cert_inj {c d : List FnD} (hc : MayC c) (hd : MayC d) (h : certB c = certB d) : c = d := by
  have h1 := cert_there (st := true) hc
  have h2 := cert_there (st := true) hd
  rw [h, h2] at h1
  have := Option.some.inj (congrArg Prod.snd h1)
  have e := congrArg (List.map FnR.fn) this
  rw [fnsR_fn d 5 hd.2.2, fnsR_fn c 5 hc.2.2] at e
  exact e.symm
theorem certR_le {st : Bool} {s : List UInt8} : (certR st s).1 ≤ s.length := by
  have := Gr.run_le (certG st) s 0
  unfold certR
  split
  · rename_i a v hr
    rw [hr] at this
    simp only at this
    split <;> simp only <;> omega
  · rename_i a hr
    rw [hr] at this
    simp only at this ⊢
    omega
/-- with the byte at which it stopped nothing behind it helps .. -/
theorem cert_goes {st : Bool} {s : List UInt8} {a : Nat} (h : certR st s = (a, none)) (ha : a < s.length) (m : List UInt8) : certR st (s.take (a + 1) ++ m) = (a, none) := by
  unfold certR at h ⊢
  have hlen : a < (s.take (a + 1) ++ m).length := by rw [List.length_append, List.length_take]; omega
  split at h
  · rename_i b v hr
    split at h
    · cases h
      have := Gr.run_some hr ((s.drop a).take 1 ++ m)
      rw [Nat.sub_zero] at this
      have e : s.take a ++ ((s.drop a).take 1 ++ m) = s.take (a + 1) ++ m := by rw [← List.append_assoc, List.take_add]
      rw [e] at this
      rw [this]
      simp only [hlen, if_true]
    · cases h
  · rename_i b hr
    cases h
    have := Gr.run_none hr (by omega) m
    rw [Nat.sub_zero] at this
    rw [this]
/-- .. and a beginning of what goes well goes well -/
theorem cert_begins {st : Bool} {s : List UInt8} (h : certR st s = (s.length, none)) {i : Nat} (hi : i < s.length) : certR st (s.take i) = (i, none) := by
  unfold certR at h ⊢
  split at h
  · rename_i b v hr
    split at h
    · rename_i hlt
      have := congrArg Prod.fst h
      simp only at this
      omega
    · cases h
  · rename_i b hr
    cases h
    have := Gr.run_cut hr i (by omega)
    rw [Nat.zero_add] at this
    rw [this]
/-! ### Strict and loose -/

def Sub {α : Type} (G H : Gr α) : Prop := ∀ l a, (∀ b v, G.run l a = (b, some v) → H.run l a = (b, some v)) ∧ (∀ b, G.run l a = (b, none) → b ≤ (H.run l a).1)
theorem Sub.refl {α : Type} (G : Gr α) : Sub G G := fun l a => ⟨fun _ _ h => h, fun b h => by rw [h]; exact Nat.le_refl _⟩
theorem Sub.bind {α β : Type} {G H : Gr α} {f g : α → Gr β} (h : Sub G H) (k : ∀ u, Sub (f u) (g u)) : Sub (G.bind f) (H.bind g) := fun l a => by
  rw [Gr.run_bind, Gr.run_bind]
  cases hx : G.run l a with
  | mk b1 o =>
    cases o with
    | some u =>
      rw [(h l a).1 b1 u hx]
      simp only [bd]
      exact k u _ _
    | none =>
      refine ⟨fun b v hv => by simp [bd] at hv, fun b hb => ?_⟩
      simp only [bd, Prod.mk.injEq, and_true] at hb
      subst hb
      have h1 := (h l a).2 b1 hx
      cases hy : H.run l a with
      | mk b2 o2 =>
        rw [hy] at h1
        cases o2 with
        | none => exact h1
        | some u =>
          simp only [bd]
          have := (Gr.run_le (g u) (l.drop (b2 - a)) b2).1
          simp only at h1
          omega
theorem Sub.rep {α : Type} {G H : Nat → Gr α} (h : ∀ i, Sub (G i) (H i)) : ∀ (n i : Nat), Sub (repG G i n) (repG H i n)
  | 0, i => .refl _
  | n + 1, i => (h i).bind fun x => (Sub.rep h n (i + 1)).bind fun l => .refl _
theorem sub_row {w : Nat} : Sub (rowG true w) (rowG false w) := Sub.rep (fun i l a => by
  cases l with
  | nil => exact ⟨fun b v h => by simp [byteG, Gr.run] at h, fun b h => by simp only [byteG, Gr.run, Prod.mk.injEq] at h ⊢; omega⟩
  | cons c l =>
    refine ⟨fun b v h => ?_, fun b h => ?_⟩
    · rw [byteG, Gr.run] at h ⊢
      split at h
      · simpa using h
      · cases h
    · rw [byteG, Gr.run] at h ⊢
      split at h
      · simp [Gr.run] at h
      · simp only [Prod.mk.injEq, and_true] at h
        subst h
        simp [Gr.run]) _ _
theorem sub_list {most : Nat} : Sub (listG true most) (listG false most) := (Sub.refl _).bind fun n => (Sub.refl _).bind fun w => (Sub.rep (fun _ => sub_row) n 0).bind fun l => .refl _
theorem sub_fn : Sub (fnG true) (fnG false) := fun l a => by
  rw [fnG, fnG, Gr.run, Gr.run]
  exact (sub_list.bind fun x => sub_list.bind fun y => sub_list.bind fun z => .refl _) l a
theorem sub_cert : Sub (certG true) (certG false) := (Sub.refl _).bind fun _ => (Sub.refl _).bind fun n => Sub.rep (fun _ => sub_fn) n 0
/-- where the loose one is stuck the strict one is, no further -/
theorem cert_loose {s : List UInt8} {p : Nat} (h : certR false s = (p, none)) : ∃ a, certR true s = (a, none) ∧ a ≤ p := by
  have hs := sub_cert s 0
  unfold certR at h ⊢
  cases hx : (certG true).run s 0 with
  | mk b1 o =>
    cases o with
    | some u =>
      rw [hs.1 b1 u hx] at h
      simp only at h ⊢
      split at h
      · cases h
        rename_i hlt
        rw [if_pos hlt]
        exact ⟨_, rfl, Nat.le_refl _⟩
      · cases h
    | none =>
      have h1 := hs.2 b1 hx
      refine ⟨b1, rfl, ?_⟩
      cases hy : (certG false).run s 0 with
      | mk b2 o2 =>
        rw [hy] at h h1
        cases o2 with
        | none => cases h; exact h1
        | some u =>
          simp only at h
          split at h
          · cases h; exact h1
          · cases h
/-- the first of them that the strict reader does not take -/
def firstBad (s : List UInt8) : List FnR → Option Nat
  | [] => none
  | f :: l => match rd (fnG true) s f.at' with
    | (k, none) => some k
    | (_, some _) => firstBad s l
theorem fns_parts {s : List UInt8} : ∀ (n i a b : Nat) (L : List FnR), a ≤ s.length → (repG (fun _ => fnG false) i n).run (s.drop a) a = (b, some L) →
    (repG (fun _ => fnG true) i n).run (s.drop a) a = (match firstBad s L with | some k => (k, none) | none => (b, some L))
  | 0, i, a, b, L, ha, h => by
    simp only [repG, Gr.run, Prod.mk.injEq, Option.some.injEq] at h
    obtain ⟨rfl, rfl⟩ := h
    rfl
  | n + 1, i, a, b, L, ha, h => by
    rw [repG, Gr.run_bind] at h ⊢
    have hle := Gr.run_le (fnG false) (s.drop a) a
    cases hx : (fnG false).run (s.drop a) a with
    | mk b1 o =>
      rw [hx] at h hle
      cases o with
      | none => simp [bd] at h
      | some f =>
        simp only [bd] at h
        rw [Gr.run_bind] at h
        simp only [List.length_drop] at hle
        have hd : (s.drop a).drop (b1 - a) = s.drop b1 := by rw [List.drop_drop, show a + (b1 - a) = b1 by omega]
        rw [hd] at h
        cases hy : (repG (fun _ => fnG false) (i + 1) n).run (s.drop b1) b1 with
        | mk b2 o2 =>
          rw [hy] at h
          cases o2 with
          | none => simp [bd] at h
          | some L' =>
            simp only [bd, Gr.run, Prod.mk.injEq, Option.some.injEq] at h
            obtain ⟨rfl, rfl⟩ := h
            obtain ⟨_, _, _, _, ⟨hat, _⟩, _⟩ := gives_fn _ _ _ _ hx
            rw [firstBad, hat, rd]
            cases hz : (fnG true).run (s.drop a) a with
            | mk b3 o3 =>
              cases o3 with
              | none => rfl
              | some f' =>
                have := (sub_fn (s.drop a) a).1 b3 f' hz
                rw [hx] at this
                cases this
                simp only [bd]
                rw [Gr.run_bind, hd, fns_parts n (i + 1) b1 b2 L' (by omega) hy]
                cases firstBad s L' with
                | none => rfl
                | some k => rfl
/-- the strict reader takes what the loose one took just if it takes each function -/
theorem cert_parts {s : List UInt8} {p : Nat} {L : List FnR} (h : certR false s = (p, some L)) : certR true s = (match firstBad s L with | some k => (k, none) | none => (p, some L)) ∧ p = s.length ∧ FnsOK false 5 L := by
  unfold certR at h
  cases hx : (certG false).run s 0 with
  | mk b o =>
    rw [hx] at h
    cases o with
    | none => cases h
    | some v =>
      simp only at h
      split at h
      · cases h
      · rename_i hlt
        cases h
        have hle := Gr.run_le (certG false) s 0
        rw [hx] at hle
        obtain ⟨m, n, h1, h2, h3, h4, h5, h6⟩ := gives_cert _ _ _ _ hx
        rw [Nat.zero_add] at h5
        refine ⟨?_, by simp only at hle; omega, h5⟩
        rw [certG, Gr.run_bind] at hx
        unfold certR
        rw [certG, Gr.run_bind]
        cases hm : markG.run s 0 with
        | mk b1 o1 =>
          rw [hm] at hx
          cases o1 with
          | none => simp [bd] at hx
          | some u =>
            simp only [bd] at hx ⊢
            have l1 := Gr.run_le markG s 0
            rw [hm] at l1
            rw [Gr.run_bind, Nat.sub_zero] at hx ⊢
            cases hn : (oneG 1 32).run (s.drop b1) b1 with
            | mk b2 o2 =>
              rw [hn] at hx
              cases o2 with
              | none => simp [bd] at hx
              | some n =>
                simp only [bd] at hx ⊢
                have l2 := Gr.run_le (oneG 1 32) (s.drop b1) b1
                rw [hn, List.length_drop] at l2
                simp only at l1 l2
                rw [List.drop_drop, show b1 + (b2 - b1) = b2 by omega] at hx ⊢
                rw [fns_parts n 0 b2 p L (by omega) hx]
                cases hf : firstBad s L with
                | none => simp only; rw [if_neg hlt]
                | some k => rfl
/-- where the strict reader stops in a function that the loose one took, it is behind the first list's numbers -/
theorem fn_stops {s : List UInt8} {a b k : Nat} {f : FnR} (h : rd (fnG false) s a = (b, some f)) (hk : rd (fnG true) s a = (k, none)) : a + 4 ≤ k := by
  rw [rd, fnG, Gr.run] at h hk
  rw [listG, Gr.run_bind] at h hk
  rw [Gr.run_bind] at h hk
  cases hn : (numG 512).run (s.drop a) a with
  | mk b1 o1 =>
    rw [hn] at h hk
    cases o1 with
    | none => simp [bd] at h
    | some n =>
      obtain ⟨m1, n1, e1, e2, _, e3⟩ := gives_num (by decide) _ _ _ _ hn
      simp only [bd] at h hk
      rw [Gr.run_bind] at h hk
      cases hw : (numG (if 0 < n then 1032 else 0)).run ((s.drop a).drop (b1 - a)) b1 with
      | mk b2 o2 =>
        rw [hw] at h hk
        cases o2 with
        | none => simp [bd] at h
        | some w =>
          obtain ⟨m2, n2, e4, e5, _, e6⟩ := gives_num (by split <;> omega) _ _ _ _ hw
          have hb2 : b2 = a + 4 := by rw [e5, e2, e3, e6]; rfl
          simp only [bd] at hk
          have key : ∀ (α β : Type) (x : Rd' α) (c : α → Nat → Rd' β), b2 ≤ x.1 → (∀ u b, b2 ≤ b → b2 ≤ (c u b).1) → b2 ≤ (bd x c).1 := by
            intro α β x c h1 h2
            obtain ⟨b, o⟩ := x
            cases o with
            | none => exact h1
            | some u => exact h2 u b h1
          have hfin : b2 ≤ k := by
            have := congrArg Prod.fst hk
            simp only at this
            rw [← this]
            refine key _ _ _ _ ?_ fun u b hb => Nat.le_trans hb (Gr.run_le _ _ _).1
            rw [Gr.run_bind]
            exact key _ _ _ _ (Gr.run_le _ _ _).1 fun u b hb => Nat.le_trans hb (Gr.run_le _ _ _).1
          omega
end Go.Proofs
end

section
namespace Go.Sh
open Go.RowKit
set_option linter.unusedSimpArgs false
set_option linter.unusedVariables false

/-- an unsigned kind, and how many numbers it has -/
class Uk (k : IntKind) (m : outParam Int) : Prop where
  h : ∀ n : Int, k.wrap n = n % m
instance : Uk .u8 256 := ⟨IntKind.wrap_u8⟩
instance : Uk .u32 4294967296 := ⟨IntKind.wrap_u32⟩
instance : Uk .u64 18446744073709551616 := ⟨IntKind.wrap_u64⟩
theorem Uk.eq {k : IntKind} {m n : Int} [h : Uk k m] (h0 : 0 ≤ n) (h1 : n < m) : k.wrap n = n := by rw [h.h]; exact Int.emod_eq_of_lt h0 h1
section
variable {P : Program} {t s : TypeId} {c : Bool} {k : IntKind} {m a b : Int}
instance (priority := low) [h : Uk k m] : PCond P (bsem .add t c (.int k a) (.int k b)) (.int k (a + b)) (0 ≤ a + b ∧ a + b < m) := .of fun x _ z =>
  p_of (fun w => by rw [bsem_int]; simp [binOp, Op.intArith, Uk.eq (k := k) x.1 x.2]) z
instance (priority := low) [h : Uk k m] : PCond P (bsem .sub t c (.int k a) (.int k b)) (.int k (a - b)) (0 ≤ a - b ∧ a - b < m) := .of fun x _ z =>
  p_of (fun w => by rw [bsem_int]; simp [binOp, Op.intArith, Uk.eq (k := k) x.1 x.2]) z
instance (priority := low) [h : Uk k m] : PCond P (bsem .mul t c (.int k a) (.int k b)) (.int k (a * b)) (0 ≤ a * b ∧ a * b < m) := .of fun x _ z =>
  p_of (fun w => by rw [bsem_int]; simp [binOp, Op.intArith, Uk.eq (k := k) x.1 x.2]) z
instance (priority := low) [h : Uk k m] : PCond P (bsem .quo t c (.int k a) (.int k b)) (.int k (a / b)) (0 ≤ a ∧ a < m ∧ 0 < b) := .of fun x _ z =>
  p_of (fun w => by
    have h1 : b ≠ 0 := by omega
    have h2 : a.tdiv b = a / b := Int.tdiv_eq_ediv_of_nonneg x.1
    have h3 : a / b ≤ a := Int.ediv_le_self _ x.1
    have h4 : 0 ≤ a / b := Int.ediv_nonneg x.1 (by omega)
    rw [bsem_int]; simp [binOp, Op.intDiv, h1, h2, Uk.eq (k := k) (m := m) (n := a / b) h4 (by omega)]) z
instance (priority := low) [h : Uk k m] : PCond P (bsem .rem t c (.int k a) (.int k b)) (.int k (a % b)) (0 ≤ a ∧ 0 < b) := .of fun x _ z =>
  p_of (fun w => by
    have h1 : b ≠ 0 := by omega
    rw [bsem_int]; simp [binOp, Op.intDiv, h1, Int.tmod_eq_emod_of_nonneg x.1]) z
instance (priority := low) {k1 k3 : IntKind} [h1 : KdT P s k1] [h2 : KdT P t k] [h : Uk k m] : PCond P (convert s t (.int k3 a)) (.int k a) (0 ≤ a ∧ a < m) := .of fun x _ z =>
  p_cvt h1.h h2.h (by rw [Uk.eq (k := k) x.1 x.2]; exact z)
/-- shifted to the right by e bits -/
theorem p_shrI {K : Value → Prop} {i : IntKind} {n : Int} (e : Nat) (he : n = e) (hb : e ≤ k.bits) (z : K (.int k (a / 2 ^ e))) : opP P (bsem .shr t c (.int k a) (.int i n)) K :=
  p_of (fun w => by
    have h1 : ¬ n < 0 := by omega
    have h2 : n.toNat = e := by omega
    have h3 : Int.fdiv a (2 ^ (min n.toNat k.bits)) = a / 2 ^ e := by
      rw [h2, Nat.min_eq_left hb, Int.fdiv_eq_ediv_of_nonneg _ (Int.pow_nonneg (by decide))]
    rw [bsem_int]
    simp only [binOp, Op.shift, h1, if_false, h3]; rfl) z
end
end Go.Sh
end

section
namespace Go.Sh
open Go.RowKit
theorem g_TT {A B : Prop} (a : A) : gIf (.bool true) true A B := a
theorem g_FF {A B : Prop} (a : A) : gIf (.bool false) false A B := a
theorem g_TF {A B : Prop} (b : B) : gIf (.bool true) false A B := b
theorem g_FT {A B : Prop} (b : B) : gIf (.bool false) true A B := b
section
variable {w : World} {A : (List Value → World → Prop) → Prop} {Z : Value → World → Prop} {b c : Bool}
/-- 'and', 'or', whose second one is reckoned only if it must be; R: what holds behind both -/
theorem j_bandR (R : World → Prop) (h0 : b = false → R w) (hA : b = true → ∀ K : List Value → World → Prop, (∀ w', R w' → K [.bool c] w') → A K) (hZ : ∀ w', R w' → Z (.bool (b && c)) w') :
    sJoin (fun K => gIf (.bool b) true (A K) (K [undef] w)) fun s _ w' => oPick (.bool b) (s.getD 0 undef) (.bool false) fun t => Z t w' := by
  intro K hK
  cases b with
  | true => exact hA rfl K fun w' e => hK _ _ fun _ => ⟨true, rfl, by simpa using hZ w' e⟩
  | false => exact hK _ _ fun _ => ⟨false, rfl, by simpa using hZ w (h0 rfl)⟩
theorem j_borR (R : World → Prop) (h0 : b = true → R w) (hA : b = false → ∀ K : List Value → World → Prop, (∀ w', R w' → K [.bool c] w') → A K) (hZ : ∀ w', R w' → Z (.bool (b || c)) w') :
    sJoin (fun K => gIf (.bool b) false (A K) (K [undef] w)) fun s _ w' => oPick (.bool b) (.bool true) (s.getD 0 undef) fun t => Z t w' := by
  intro K hK
  cases b with
  | true => exact hK _ _ fun _ => ⟨true, rfl, by simpa using hZ w (h0 rfl)⟩
  | false => exact hA rfl K fun w' e => hK _ _ fun _ => ⟨false, rfl, by simpa using hZ w' e⟩
end
theorem g_UU {want : Bool} {A B : Prop} (b : B) : gIf undef want A B := b
section
variable {P : Program} {w : World} {t e : TypeId} {size n m : Nat} {v : Value} {xs news : List Value}
theorem Que.of_row {base : Nat} (h : w.ownsRow base e size v n xs) : Que w e size v n xs := by
  refine ⟨h.1, ?_⟩
  rcases own_blk h with ⟨rfl, rfl, rfl⟩ | ⟨g, cap, c, rfl, hb, B, h1, h2, h3, h4⟩
  · exact .inl ⟨rfl, rfl⟩
  · exact .inr ⟨g, 0, cap, c, rfl, B, h1, h2, by omega, by rw [List.drop_zero]; exact h4⟩
theorem Que.shape (h : Que w e size v n xs) : ∃ p cap, v = .slice p n cap ∧ (p = none → cap = 0) ∧ n ≤ cap ∧ xs.length = n * size ∧ Sl w p xs := by
  obtain ⟨hl, ⟨rfl, rfl⟩ | ⟨g, off, cap, c, rfl, B, h1, h2, h3, h4⟩⟩ := h
  · have hx : xs = [] := by simpa using hl
    subst hx
    exact ⟨none, 0, rfl, fun _ => rfl, Nat.le_refl _, hl, Sl.nil _ _⟩
  · refine ⟨_, cap, rfl, by simp, h1, hl, fun i v hv => ⟨g, off, rfl, ?_⟩⟩
    rw [B.cell]
    rw [← h4, List.getElem?_take] at hv
    split at hv
    · rwa [List.getElem?_drop] at hv
    · cases hv
theorem w_appendQ {K : Value → World → Prop} {ty : TypeId} {bytes : Nat} {a : Addr} {c : Nat}
    (hT : apT P t = some (e, size, bytes)) (hown : Que w e size v n xs) (hs : Sl w (some a) news) (hl : news.length = m * size) (h1 : ∀ u ∈ news, u.oneCell' = true)
    (hb : (n + m) * bytes ≤ 140737488355328)
    (h : ∀ v' w', Que w' e size v' (n + m) (xs ++ news) → ExtBut (fun k => v.ownBlock = some k) w w' → (v'.ownBlock = v.ownBlock ∨ v'.ownBlock = some w.heap.size) → K v' w') :
    opW P w (Builtin.append_ #[t, t] ty #[v, .slice (some a) m c]) K := by
  rcases hown with ⟨hxl, ⟨rfl, rfl⟩ | ⟨g, off, cap, cur, rfl, B, h2, h3, h4, h5⟩⟩
  · have hx : xs = [] := by simpa using hxl
    subst hx
    exact w_append hT (World.ownsRow_nil w 0 e size) hs hl (by simp) h1 hb (Nat.zero_le _) fun v' w' h6 h7 h8 _ => h v' w' (.of_row h6) h7 h8
  unfold apT at hT
  cases hu : P.underlying t with
  | none => rw [hu] at hT; cases hT
  | some d =>
    rw [hu] at hT
    cases d <;> first | (cases hT; done) | skip
    rename_i e'
    simp only [Option.bind_eq_some_iff] at hT
    obtain ⟨i, hi, hT⟩ := hT
    cases hz : i.zero with
    | none => rw [hz] at hT; cases hT
    | some z =>
      rw [hz] at hT
      simp only at hT
      split at hT
      · rename_i hc
        obtain ⟨hzs, hsz, hbp⟩ := hc
        simp only [Option.some.injEq, Prod.mk.injEq] at hT
        obtain ⟨rfl, rfl, rfl⟩ := hT
        have hnews : ∀ j u, news[j]? = some u → w.cell? (a.add j) = some u := fun j u hj => by obtain ⟨b, off, hp, hc⟩ := hs j u hj; cases hp; rw [addr_add]; exact hc
        have hlen : (xs ++ news).length = (n + m) * i.size := by rw [List.length_append, hxl, hl, Nat.add_mul]
        by_cases hroom : n + m ≤ cap
        · have hmul : (n + m) * i.size ≤ cap * i.size := Nat.mul_le_mul_right _ hroom
          have hfit : off + n * i.size + news.length ≤ cur.length := by rw [hl]; rw [Nat.add_mul] at hmul; omega
          have hf := run_firstCells_some (P := P) w i.size m a m c news hl hnews
          have hst := run_storeCells_at P g (off + n * i.size) e' news 0 cur.toArray w B (by simpa using hfit) h1
          simp only [Nat.add_zero] at hst
          obtain ⟨f1, f2, f3⟩ := setRow_facts B (cur.take (off + n * i.size) ++ news ++ cur.drop (off + n * i.size + news.length))
          refine ⟨_, _, by simp [Builtin.append_, run_underlying hu, sizeOf, typeInfo, hi, Builtin.lenOf, hroom, hf, Addr.add_lit, hst], h _ _ ⟨hlen, .inr ⟨g, off, cap, _, rfl, f3, hroom, h3, ?_, ?_⟩⟩ (f1.mono fun k _ hk => by cases hk; rfl) (.inl rfl)⟩
          · simp only [List.length_append, List.length_take, List.length_drop]; omega
          · rw [← hlen, List.append_assoc, List.drop_append_of_le_length (by rw [List.length_take]; omega), List.drop_take, show off + n * i.size - off = n * i.size by omega, h5, ← List.append_assoc, List.take_left']
            rfl
        · have h63 : n + m ≤ maxLen := by
            have : (n + m) * 1 ≤ (n + m) * i.bytes := Nat.mul_le_mul_left _ hbp
            simp only [maxLen]; omega
          obtain ⟨v', w', hr, ho, hg⟩ := run_append_arg_grows (P := P) w t ty e' i z i.size i.bytes hu hi hz rfl rfl hzs hsz ⟨g, off, none⟩ n cap xs hxl (fun j u hj => by
            rw [addr_add, B.cell]
            rw [← h5, List.getElem?_take] at hj
            split at hj
            · rwa [List.getElem?_drop] at hj
            · cases hj) a m c news hl hnews (by omega) h63 hb
          refine ⟨v', w', hr, h v' w' (.of_row ho) ⟨hg.os, hg.tape, hg.output, hg.size, fun k hk _ => hg.block k hk (by simp)⟩ ?_⟩
          -- a new row lies in the block that was just made
          have hr2 := run_append_grow (P := P) w t ty e' i z hu hi hz ⟨g, off, none⟩ n cap xs hxl (fun j u hj => by
            rw [addr_add, B.cell]
            rw [← h5, List.getElem?_take] at hj
            split at hj
            · rwa [List.getElem?_drop] at hj
            · cases hj) a m c news hl hnews (by omega) (by simp only [maxLen] at h63; omega) (growslice_fits (by omega) hb)
          rw [hr] at hr2
          injection hr2 with e1 e2
          rw [e1]; exact .inr rfl
      · cases hT
/-- without its first ones -/
theorem Que.drop {g off cap i : Nat} (h : Que w e size (.slice (some ⟨g, off, none⟩) n cap) n xs) (hi : i ≤ n) :
    Que w e size (.slice (if cap = i then some ⟨g, off, none⟩ else (some (⟨g, off, none⟩ : Addr)).map (·.add (i * size))) (n - i) (cap - i)) (n - i) (xs.drop (i * size)) := by
  obtain ⟨hl, ⟨h0, _⟩ | ⟨g', off', cap', c, hv, B, h1, h2, h3, h4⟩⟩ := h
  · cases h0
  cases hv
  refine ⟨by rw [List.length_drop, hl, Nat.sub_mul], .inr ?_⟩
  by_cases hc : cap = i
  · rw [if_pos hc]
    have : n - i = 0 := by omega
    refine ⟨g, off, cap - i, c, rfl, B, by omega, by omega, ?_, ?_⟩
    · have : (cap - i) * size = 0 := by rw [show cap - i = 0 by omega, Nat.zero_mul]
      omega
    · rw [this, Nat.zero_mul, List.take_zero, eq_comm, List.drop_eq_nil_iff, hl]
      exact Nat.mul_le_mul_right _ (by omega)
  · rw [if_neg hc]
    refine ⟨g, off + i * size, cap - i, c, by simp only [Option.map_some, addr_add], B, by omega, by omega, ?_, ?_⟩
    · have : i * size ≤ cap * size := Nat.mul_le_mul_right _ (by omega)
      rw [Nat.sub_mul]; omega
    · rw [← h4, List.drop_take, List.drop_drop, Nat.sub_mul]
end
/-! ### Functions with what they hold -/
theorem v_f00 {P : Program} {w : World} {f : FuncId} {K : Value → World → Prop} (he : enters P f = true) (h : oCall P f #[] w K) : oCallV P (.func (.func f) #[] #[]) #[] w K := v_func he h
theorem v_f01 {P : Program} {w : World} {f : FuncId} {K : Value → World → Prop} {c0 : Value} (he : enters P f = true) (h : oCall P f #[c0] w K) : oCallV P (.func (.func f) #[] #[c0]) #[] w K := v_func he h
theorem v_f02 {P : Program} {w : World} {f : FuncId} {K : Value → World → Prop} {c0 c1 : Value} (he : enters P f = true) (h : oCall P f #[c0, c1] w K) : oCallV P (.func (.func f) #[] #[c0, c1]) #[] w K := v_func he h
theorem v_f03 {P : Program} {w : World} {f : FuncId} {K : Value → World → Prop} {c0 c1 c2 : Value} (he : enters P f = true) (h : oCall P f #[c0, c1, c2] w K) : oCallV P (.func (.func f) #[] #[c0, c1, c2]) #[] w K := v_func he h
theorem v_f04 {P : Program} {w : World} {f : FuncId} {K : Value → World → Prop} {c0 c1 c2 c3 : Value} (he : enters P f = true) (h : oCall P f #[c0, c1, c2, c3] w K) : oCallV P (.func (.func f) #[] #[c0, c1, c2, c3]) #[] w K := v_func he h
theorem v_f10 {P : Program} {w : World} {f : FuncId} {K : Value → World → Prop} {x0 : Value} (he : enters P f = true) (h : oCall P f #[x0] w K) : oCallV P (.func (.func f) #[] #[]) #[x0] w K := v_func he h
theorem v_f11 {P : Program} {w : World} {f : FuncId} {K : Value → World → Prop} {x0 c0 : Value} (he : enters P f = true) (h : oCall P f #[x0, c0] w K) : oCallV P (.func (.func f) #[] #[c0]) #[x0] w K := v_func he h
theorem v_f12 {P : Program} {w : World} {f : FuncId} {K : Value → World → Prop} {x0 c0 c1 : Value} (he : enters P f = true) (h : oCall P f #[x0, c0, c1] w K) : oCallV P (.func (.func f) #[] #[c0, c1]) #[x0] w K := v_func he h
theorem v_f13 {P : Program} {w : World} {f : FuncId} {K : Value → World → Prop} {x0 c0 c1 c2 : Value} (he : enters P f = true) (h : oCall P f #[x0, c0, c1, c2] w K) : oCallV P (.func (.func f) #[] #[c0, c1, c2]) #[x0] w K := v_func he h
theorem v_f14 {P : Program} {w : World} {f : FuncId} {K : Value → World → Prop} {x0 c0 c1 c2 c3 : Value} (he : enters P f = true) (h : oCall P f #[x0, c0, c1, c2, c3] w K) : oCallV P (.func (.func f) #[] #[c0, c1, c2, c3]) #[x0] w K := v_func he h
theorem v_f20 {P : Program} {w : World} {f : FuncId} {K : Value → World → Prop} {x0 x1 : Value} (he : enters P f = true) (h : oCall P f #[x0, x1] w K) : oCallV P (.func (.func f) #[] #[]) #[x0, x1] w K := v_func he h
theorem v_f21 {P : Program} {w : World} {f : FuncId} {K : Value → World → Prop} {x0 x1 c0 : Value} (he : enters P f = true) (h : oCall P f #[x0, x1, c0] w K) : oCallV P (.func (.func f) #[] #[c0]) #[x0, x1] w K := v_func he h
theorem v_f22 {P : Program} {w : World} {f : FuncId} {K : Value → World → Prop} {x0 x1 c0 c1 : Value} (he : enters P f = true) (h : oCall P f #[x0, x1, c0, c1] w K) : oCallV P (.func (.func f) #[] #[c0, c1]) #[x0, x1] w K := v_func he h
theorem v_f23 {P : Program} {w : World} {f : FuncId} {K : Value → World → Prop} {x0 x1 c0 c1 c2 : Value} (he : enters P f = true) (h : oCall P f #[x0, x1, c0, c1, c2] w K) : oCallV P (.func (.func f) #[] #[c0, c1, c2]) #[x0, x1] w K := v_func he h
theorem v_f24 {P : Program} {w : World} {f : FuncId} {K : Value → World → Prop} {x0 x1 c0 c1 c2 c3 : Value} (he : enters P f = true) (h : oCall P f #[x0, x1, c0, c1, c2, c3] w K) : oCallV P (.func (.func f) #[] #[c0, c1, c2, c3]) #[x0, x1] w K := v_func he h
theorem v_f30 {P : Program} {w : World} {f : FuncId} {K : Value → World → Prop} {x0 x1 x2 : Value} (he : enters P f = true) (h : oCall P f #[x0, x1, x2] w K) : oCallV P (.func (.func f) #[] #[]) #[x0, x1, x2] w K := v_func he h
theorem v_f31 {P : Program} {w : World} {f : FuncId} {K : Value → World → Prop} {x0 x1 x2 c0 : Value} (he : enters P f = true) (h : oCall P f #[x0, x1, x2, c0] w K) : oCallV P (.func (.func f) #[] #[c0]) #[x0, x1, x2] w K := v_func he h
theorem v_f32 {P : Program} {w : World} {f : FuncId} {K : Value → World → Prop} {x0 x1 x2 c0 c1 : Value} (he : enters P f = true) (h : oCall P f #[x0, x1, x2, c0, c1] w K) : oCallV P (.func (.func f) #[] #[c0, c1]) #[x0, x1, x2] w K := v_func he h
theorem v_f33 {P : Program} {w : World} {f : FuncId} {K : Value → World → Prop} {x0 x1 x2 c0 c1 c2 : Value} (he : enters P f = true) (h : oCall P f #[x0, x1, x2, c0, c1, c2] w K) : oCallV P (.func (.func f) #[] #[c0, c1, c2]) #[x0, x1, x2] w K := v_func he h
theorem v_f34 {P : Program} {w : World} {f : FuncId} {K : Value → World → Prop} {x0 x1 x2 c0 c1 c2 c3 : Value} (he : enters P f = true) (h : oCall P f #[x0, x1, x2, c0, c1, c2, c3] w K) : oCallV P (.func (.func f) #[] #[c0, c1, c2, c3]) #[x0, x1, x2] w K := v_func he h
class QueAt (v : Value) (L : List Asr) (e : outParam TypeId) (sz n : outParam Nat) (xs : outParam (List Value)) (f : outParam (Asr → List Asr)) : Prop where
  h : ∃ p q, L = p ++ .que v e sz n xs :: q ∧ ∀ y, f y = p ++ y :: q
instance {v : Value} {e : TypeId} {sz n : Nat} {xs : List Value} {L : List Asr} : QueAt v (.que v e sz n xs :: L) e sz n xs fun y => y :: L := ⟨[], L, rfl, fun _ => rfl⟩
instance (priority := low) {v : Value} {e : TypeId} {sz n : Nat} {xs : List Value} {x : Asr} {L : List Asr} {f : Asr → List Asr} [h : QueAt v L e sz n xs f] : QueAt v (x :: L) e sz n xs fun y => x :: f y := ⟨by
  obtain ⟨p, q, h1, h2⟩ := h.h
  exact ⟨x :: p, q, by rw [h1]; rfl, fun c' => by rw [h2]; rfl⟩⟩
section
variable {P : Program} {X : Nat → Prop} {w0 w : World} {r : Gh} {L : List Asr} {t e : TypeId} {sz n m : Nat} {v : Value} {xs news : List Value} {g : Asr → List Asr}
theorem StX.que (S : StX X w0 r w L) (v : Value) [h : QueAt v L e sz n xs g] : Que w e sz v n xs := by
  obtain ⟨pp, qq, h2, h3⟩ := h.h
  exact S.has (.que v e sz n xs) (by rw [h2]; simp)
theorem StX.queS (S : StX X w0 r w L) (v : Value) [h : QueAt v L e sz n xs g] : ∃ p cap, v = .slice p n cap ∧ (p = none → cap = 0) ∧ n ≤ cap ∧ xs.length = n * sz ∧ Sl w p xs :=
  (S.que v (h := h)).shape
theorem StX.toQue (S : StX X w0 r w L) (v : Value) [h : RowAt v L e sz n xs g] : StX X w0 r w (g (.que v e sz n xs)) := by
  obtain ⟨pp, qq, h2, h3⟩ := h.h
  have hr := S.has (.row v e sz n xs) (by rw [h2]; simp)
  rw [h3]
  rw [h2] at S
  exact S.turn (x := .row v e sz n xs) (y := .que v e sz n xs) (ExtBut.refl _ _) (Que.of_row hr) fun k hk => .inl hk
theorem StX.apQ (S : StX X w0 r w L) {ty : TypeId} {by' cap : Nat} {a : Addr} [h : QueAt v L e sz n xs g] [z : ApT P t e sz by'] {K : Value → World → Prop}
    (hs : Sl w (some a) news) (k : ∀ v' w', StX X w0 r w' (g (.que v' e sz (n + m) (xs ++ news))) → K v' w')
    (hb : (n + m) * by' ≤ 140737488355328) (hl : news.length = m * sz := by simp) (h1 : ∀ u ∈ news, u.oneCell' = true := by simp [Value.oneCell']) : opW P w (Builtin.append_ #[t, t] ty #[v, .slice (some a) m cap]) K := by
  obtain ⟨pp, qq, h2, h3⟩ := h.h
  have hr := S.has (.que v e sz n xs) (by rw [h2]; simp)
  refine w_appendQ z.h hr hs hl h1 hb fun v' w' h4 h5 h6 => k v' w' ?_
  rw [h3]
  rw [h2] at S
  refine S.turn (x := .que v e sz n xs) (y := .que v' e sz (n + m) (xs ++ news)) h5 h4 fun j hj => ?_
  rw [Asr.dom] at hj
  rcases h6 with h6 | h6
  · rw [h6] at hj; exact .inl hj
  · rw [h6] at hj; cases hj; exact .inr (Nat.le_refl _)
/-- v[i:] -/
theorem StX.loQ (S : StX X w0 r w L) {e' : TypeId} {kd : IntKind} {i : Int} [h : QueAt v L e sz n xs g] [z : SlT P t e' sz] {K : Value → Prop}
    (h0 : 0 ≤ i) (hi : i ≤ n) (hn : 0 < n) (k : ∀ v', StX X w0 r w (g (.que v' e sz (n - i.toNat) (xs.drop (i.toNat * sz)))) → K v') : opP P (Instr.sliceAt t v (some (.int kd i)) none none) K := by
  obtain ⟨pp, qq, h2, h3⟩ := h.h
  have hr := S.has (.que v e sz n xs) (by rw [h2]; simp)
  have hr0 := hr
  rcases hr.2 with ⟨rfl, h4⟩ | ⟨gb, off, cap, c, rfl, _⟩
  · omega
  refine p_sliceLo z.h h0 hi (k _ ?_)
  rw [h3]
  rw [h2] at S
  refine S.turn (x := .que (.slice (some ⟨gb, off, none⟩) n cap) e sz n xs) (y := .que _ e sz _ _) (ExtBut.refl _ _) (Que.drop hr0 (by omega)) fun j hj => .inl ?_
  simp only [Asr.dom] at hj ⊢
  split at hj
  · exact hj
  · simp only [Option.map_some, addr_add] at hj; exact hj
end
/-- make([]T, n), T of one cell -/
theorem StX.mkS {P : Program} {X : Nat → Prop} {w0 w : World} {r : Gh} {L : List Asr} {t e : TypeId} {bytes : Nat} {kl : IntKind} {n : Int} {z : Value} (S : StX X w0 r w L) [hT : ApT P t e 1 bytes] [hz : ZrT P e [z]] {K : Value → World → Prop} (h0 : 0 ≤ n) (hb : (bytes : Int) * n ≤ 281474976710656)
    (h : ∀ b w', StX X w0 r w' (.cell b (List.replicate n.toNat z) e :: L) → K (.slice (some ⟨b, 0, none⟩) n.toNat n.toNat) w') : opW P w (Instr.makeSlice t (.int kl n) (.int kl n)) K :=
  w_make hT.h hz.h h0 hb fun b w' hb e _ B => h b w' (S.add e (by omega) B)
/-- a cell of one's own, wherever it stands, comes to stay -/
class Pull (b : Nat) (L : List Asr) (c : outParam (List Value)) (T : outParam TypeId) (M : outParam (List Asr)) : Prop where
  h : L.Perm (.cell b c T :: M)
instance {b : Nat} {c : List Value} {T : TypeId} {L : List Asr} : Pull b (.cell b c T :: L) c T L := ⟨.refl _⟩
instance (priority := low) {b : Nat} {c : List Value} {T : TypeId} {x : Asr} {L M : List Asr} [h : Pull b L c T M] : Pull b (x :: L) c T (x :: M) := ⟨(h.h.cons x).trans (.swap _ _ _)⟩
theorem StX.permO {X : Nat → Prop} {w0 w : World} {r : Gh} {L M : List Asr} (S : StX X w0 r w L) (h : M.Perm L) : StX X w0 r w M :=
  ⟨S.x, S.holds, fun x hx => S.has x (h.subset hx), fun x hx => S.mine x (h.subset hx), h.symm.pairwise S.apart fun hab k hb ha => hab k ha hb⟩
theorem StX.frzAt {X : Nat → Prop} {w0 w : World} {r : Gh} {L M : List Asr} (S : StX X w0 r w L) (b : Nat) {c : List Value} {T : TypeId} [h : Pull b L c T M] : StX X w0 (r.or (one b c T)) w M :=
  (S.permO h.h.symm).frz
/-- .. is no more looked at -/
theorem StX.drop {X : Nat → Prop} {w0 w : World} {r : Gh} {L M : List Asr} (S : StX X w0 r w L) (b : Nat) {c : List Value} {T : TypeId} [h : Pull b L c T M] : StX X w0 r w M :=
  (S.permO h.h.symm).tl
end Go.Sh
end

section
namespace Go.Sh
open Go.RowKit
set_option linter.unusedSimpArgs false
set_option linter.unusedVariables false
theorem j_bandH {w : World} {A : (List Value → World → Prop) → Prop} {Z : Value → World → Prop} {b c : Bool} (hA : b = true → ∀ K : List Value → World → Prop, K [.bool c] w → A K) (hZ : Z (.bool (b && c)) w) :
    sJoin (fun K => gIf (.bool b) true (A K) (K [undef] w)) fun s _ w' => oPick (.bool b) (s.getD 0 undef) (.bool false) fun t => Z t w' := by
  intro K hK
  cases b with
  | true => exact hA rfl K (hK _ _ fun _ => ⟨true, rfl, by simpa using hZ⟩)
  | false => exact hK _ _ fun _ => ⟨false, rfl, by simpa using hZ⟩
theorem j_borH {w : World} {A : (List Value → World → Prop) → Prop} {Z : Value → World → Prop} {b c : Bool} (hA : b = false → ∀ K : List Value → World → Prop, K [.bool c] w → A K) (hZ : Z (.bool (b || c)) w) :
    sJoin (fun K => gIf (.bool b) false (A K) (K [undef] w)) fun s _ w' => oPick (.bool b) (.bool true) (s.getD 0 undef) fun t => Z t w' := by
  intro K hK
  cases b with
  | true => exact hK _ _ fun _ => ⟨true, rfl, by simpa using hZ⟩
  | false => exact hA rfl K (hK _ _ fun _ => ⟨false, rfl, by simpa using hZ⟩)
theorem P_of_oCall {P : Program} {f : FuncId} {args : Array Value} {w : World} {K : Value → World → Prop} {Kp : List PanicEntry → World → Prop} (h : oCall P f args w K) : oCallP P f args w K Kp :=
  Calls.mono h fun e w' he => by obtain ⟨v, rfl, hk⟩ := he; exact hk
section
variable {P : Program} {w : World} {t : TypeId} {c : Bool} {K : Value → Prop}
/-- shifted to the left by e bits, nothing running over -/
theorem p_shlI {i : IntKind} {a n : Int} (e : Nat) (he : n = e) (hb : e ≤ 64) (h0 : -9223372036854775808 ≤ a * 2 ^ e ∧ a * 2 ^ e < 9223372036854775808) (z : K (.int .i64 (a * 2 ^ e))) :
    opP P (bsem .shl t c (.int .i64 a) (.int i n)) K :=
  p_of (fun w => by
    have h1 : ¬ n < 0 := by omega
    have h2 : n.toNat = e := by omega
    have h3 : IntKind.i64.wrap (a * 2 ^ (min n.toNat 64)) = a * 2 ^ e := by rw [h2, Nat.min_eq_left hb, wrap64_eq h0]
    rw [bsem_int]
    simp only [binOp, Op.shift, h1, if_false, IntKind.bits, h3]; rfl) z
/-- joined with a number that fits below -/
theorem p_orI {a b e : Nat} (hb : b < 2 ^ e) (he : 2 ^ e * a + b < 9223372036854775808) (z : K (.int .i64 ((2 ^ e * a + b : Nat) : Int))) :
    opP P (bsem .or t c (.int .i64 ((2 ^ e * a : Nat) : Int)) (.int .i64 (b : Int))) K :=
  p_of (fun w => by
    rw [bsem_int]; simp only [binOp, Op.intBits, ne_eq, not_true, if_false, IntKind.bits]
    have ex : (BitVec.ofInt 64 ((2 ^ e * a : Nat) : Int)).toNat = 2 ^ e * a := by
      rw [BitVec.toNat_ofInt]
      have : (2 ^ 64 : Nat) = 18446744073709551616 := by decide
      omega
    have em : (BitVec.ofInt 64 (b : Int)).toNat = b := by
      rw [BitVec.toNat_ofInt]
      have : (2 ^ 64 : Nat) = 18446744073709551616 := by decide
      omega
    have ev : IntKind.i64.wrap (((BitVec.ofInt 64 ((2 ^ e * a : Nat) : Int) ||| BitVec.ofInt 64 (b : Int)).toNat : Nat) : Int) = ((2 ^ e * a + b : Nat) : Int) := by
      rw [BitVec.toNat_or, ex, em, ← Nat.two_pow_add_eq_or_of_lt hb, wrap64_eq (by omega)]
    show Result.ok (Value.int .i64 (IntKind.i64.wrap (((BitVec.ofInt 64 ((2 ^ e * a : Nat) : Int) ||| BitVec.ofInt 64 (b : Int)).toNat : Nat) : Int))) w = _
    rw [ev]) z
theorem arT_spec {l n : Nat} {e : TypeId} (h : arT P t = some (l, e, n)) : P.underlying t = some (.array l e) ∧ szT P e = some n := by
  unfold arT at h
  cases hu : P.underlying t with
  | none => rw [hu] at h; cases h
  | some d =>
    rw [hu] at h
    cases d <;> first | cases h | skip
    simp only [Option.map_eq_some_iff, Prod.mk.injEq] at h
    obtain ⟨m, hs, rfl, rfl, rfl⟩ := h
    exact ⟨rfl, hs⟩
/-- a place of an array that is a value -/
theorem p_ix {i : IntKind} {a : Int} {l n : Nat} {e : TypeId} {cs : Array Value} {v : Value} [h : ArT P t l e n] [k : Ld1 P e] (hv : cs[a.toNat * n]? = some v) (h0 : 0 ≤ a) (h1 : a < l) (z : K v) : opP P (Instr.index t (.agg cs) (.int i a)) K :=
  p_of (fun w => by
    obtain ⟨hu, hs⟩ := arT_spec h.h
    have hk := k.h
    have hag : (isAgg e).run P w = .ok false w := by
      unfold ld1 at hk
      cases hu : P.underlying e with
      | none => rw [hu] at hk; cases hk
      | some d =>
        rw [hu] at hk
        simp only [isAgg, Sem.run_bind, run_underlying' hu, Result.andThen]
        cases d <;> first | (cases hk; done) | rfl
    simp [Instr.index, Sem.run_bind, asIntOf, run_underlying' hu, Result.andThen, Sem.run, pure, h0, h1, run_sizeOf' hs, part, hag, hv]) z
def agT (P : Program) (t : TypeId) : Bool := match P.underlying t with | some (.struct _) => true | some (.array _ _) => true | _ => false
/-- .. whose things are of many cells -/
theorem p_ixA {i : IntKind} {a : Int} {l n : Nat} {e : TypeId} {cs ds : Array Value} [h : ArT P t l e n] (k : agT P e = true) (hv : cs.extract (a.toNat * n) (a.toNat * n + n) = ds) (h0 : 0 ≤ a) (h1 : a < l) (z : K (.agg ds)) : opP P (Instr.index t (.agg cs) (.int i a)) K :=
  p_of (fun w => by
    obtain ⟨hu, hs⟩ := arT_spec h.h
    have hag : (isAgg e).run P w = .ok true w := by
      unfold agT at k
      cases hu : P.underlying e with
      | none => rw [hu] at k; cases k
      | some d =>
        rw [hu] at k
        simp only [isAgg, Sem.run_bind, run_underlying' hu, Result.andThen]
        cases d <;> first | (cases k; done) | rfl
    simp [Instr.index, Sem.run_bind, asIntOf, run_underlying' hu, Result.andThen, Sem.run, pure, h0, h1, run_sizeOf' hs, part, hag, hv]) z
/-! ### Structs of numbers, compared -/
def eqFT (P : Program) : Nat → List Field → Bool
  | _, [] => true
  | n, f :: l => f.name != "_" && Nat.beq f.offset n && (match P.underlying f.type with | some (.int _) => true | _ => false) && eqFT P (n + 1) l
def eqNT (P : Program) (t : TypeId) : Bool :=
  !P.stoodInHeld t && !P.eqGuardType P.depth t && (match P.underlying t with
  | some (.struct fs) => eqFT P 0 fs.toList
  | _ => false)
abbrev numsV (l : List Int) : List Value := l.map (Value.int .i64)
theorem run_eqN {n m : List Int} (w : World) : ∀ (fs : List Field) (k : Nat), eqFT P k fs = true → fs.length + k = n.length → n.length = m.length →
    (Op.eqFields 9999 (numsV n).toArray (numsV m).toArray fs).run P w = .ok (n.drop k == m.drop k) w := by
  intro fs
  induction fs with
  | nil =>
    intro k _ h1 h2
    simp only [List.length_nil, Nat.zero_add] at h1
    rw [h1, List.drop_length, h2, List.drop_length]; rfl
  | cons f fs ih =>
    intro k h h1 h2
    simp only [eqFT, Bool.and_eq_true, bne_iff_ne, ne_eq] at h
    obtain ⟨⟨⟨h3, h4⟩, h5⟩, h6⟩ := h
    have h4 := Nat.eq_of_beq_eq_true h4
    simp only [List.length_cons] at h1
    have hk : k < n.length := by omega
    have hk2 : k < m.length := by omega
    obtain ⟨kd, h5⟩ : ∃ kd, P.underlying f.type = some (.int kd) := by
      revert h5; cases P.underlying f.type with
      | none => intro h; cases h
      | some d => cases d <;> first | (intro h; cases h; done) | (intro _; exact ⟨_, rfl⟩)
    simp only [Op.eqFields, h3, ne_eq, not_false_eq_true, if_true, Sem.run_bind, h4]
    rw [run_part h5 (x := .int .i64 n[k]) (by simp [hk]), Result.andThen_ok, run_part h5 (x := .int .i64 m[k]) (by simp [hk2]), Result.andThen_ok, run_equalIn_int w 9998 _ .i64 kd _ _ h5, Result.andThen_ok]
    rw [List.drop_eq_getElem_cons hk, List.drop_eq_getElem_cons hk2, List.cons_beq_cons]
    by_cases ha : n[k] = m[k]
    · rw [ha]
      simp only [beq_self_eq_true, Bool.not_true, Bool.false_eq_true, if_false, Bool.true_and]
      exact ih (k + 1) h6 (by omega) h2
    · simp [ha, pure]
theorem run_eqS {n m : List Int} (h : eqNT P t = true) (hn : n.length = (P.fieldsOf t).toList.length) (hm : n.length = m.length) (w : World) : (Op.equalIn 10000 t (.agg (numsV n).toArray) (.agg (numsV m).toArray)).run P w = .ok (n == m) w := by
  unfold eqNT at h
  simp only [Bool.and_eq_true, Bool.not_eq_true'] at h
  obtain ⟨⟨h1, h2⟩, h3⟩ := h
  cases hu : P.underlying t with
  | none => rw [hu] at h3; cases h3
  | some d =>
    rw [hu] at h3
    cases d <;> first | (cases h3; done) | skip
    rename_i fs
    have hf : P.fieldsOf t = fs := by rw [Program.fieldsOf, hu]
    rw [run_equalIn_struct w 9999 t _ _ (by rw [hf]; exact hu) h1, hf]
    have := run_eqN (P := P) (n := n) (m := m) w fs.toList 0 h3 (by rw [hn, hf]; rfl) hm
    rw [List.drop_zero, List.drop_zero] at this
    exact this
theorem eqN_guard (h : eqNT P t = true) : P.eqGuardType P.depth t = false := by
  unfold eqNT at h
  simp only [Bool.and_eq_true, Bool.not_eq_true'] at h
  exact h.1.2
theorem q_eqN {n m : List Int} (h : eqNT P t = true) (hn : n.length = (P.fieldsOf t).toList.length) (hm : n.length = m.length) (k : K (.bool (n == m))) : opQ P w (bsem .eql t c (.agg (numsV n).toArray) (.agg (numsV m).toArray)) K :=
  q_of_p (p_of (fun w => by rw [run_bsem (eqN_guard h), run_eql_struct, run_eqS h hn hm]; rfl) k)
theorem q_neqN {n m : List Int} (h : eqNT P t = true) (hn : n.length = (P.fieldsOf t).toList.length) (hm : n.length = m.length) (k : K (.bool (!(n == m)))) : opQ P w (bsem .neq t c (.agg (numsV n).toArray) (.agg (numsV m).toArray)) K :=
  q_of_p (p_of (fun w => by rw [run_bsem (eqN_guard h), run_neq_struct, run_eqS h hn hm]; rfl) k)
end
end Go.Sh
namespace Go.Sh
/-- a cell, told first -/
theorem StX.pull {X : Nat → Prop} {w0 w : World} {r : Gh} {L M : List Asr} (S : StX X w0 r w L) (b : Nat) {c : List Value} {T : TypeId} [h : Pull b L c T M] : StX X w0 r w (.cell b c T :: M) :=
  S.permO h.h.symm
section
variable {P : Program} {w : World} {f : FuncId} {K : Value → World → Prop} {Kp : List PanicEntry → World → Prop}
/-- closures that may panic: with what they hold ahead (h), args, behind -/
theorem vp_h1 {x0 a0 : Value} (he : enters P f = true) (h : oCallP P f #[x0, a0] w K Kp) : oCallVP P (.func (.func f) #[x0] #[]) #[a0] w K Kp := ⟨he, h⟩
theorem vp_02 {c0 c1 : Value} (he : enters P f = true) (h : oCallP P f #[c0, c1] w K Kp) : oCallVP P (.func (.func f) #[] #[c0, c1]) #[] w K Kp := ⟨he, h⟩
theorem vp_03 {c0 c1 c2 : Value} (he : enters P f = true) (h : oCallP P f #[c0, c1, c2] w K Kp) : oCallVP P (.func (.func f) #[] #[c0, c1, c2]) #[] w K Kp := ⟨he, h⟩
theorem vp_11 {a0 c0 : Value} (he : enters P f = true) (h : oCallP P f #[a0, c0] w K Kp) : oCallVP P (.func (.func f) #[] #[c0]) #[a0] w K Kp := ⟨he, h⟩
end
end Go.Sh
end

section
namespace Go.Proofs

open Go.Sh

set_option maxRecDepth 100000

set_option linter.unusedSimpArgs false

set_option linter.unusedVariables false

/-- where the taker stands -/
abbrev tkC (tb : Nat) (s : List UInt8) (a : Nat) : Asr := .cell tb [.string (bs s), .int .i64 (a : Int)] 101
abbrev tkP (tb : Nat) : Value := .pointer (some ⟨tb, 0, none⟩)
/-- what a taker that is stuck throws -/
abbrev stuckA (a : Nat) : List PanicEntry := [{ v := .iface 125 (.agg #[.int .i64 (a : Int)]), recovered := false }]
theorem rd_one {lo hi a : Nat} {s : List UInt8} : rd (oneG lo hi) s a = if (decide ((s.length : Int) ≤ a) || decide (byteAt s a < lo)) || decide ((hi : Int) < byteAt s a) then (a, none) else (a + 1, some (s.getD a 0).toNat) := by
  rw [oneG]
  by_cases h : a < s.length
  · rw [rd_byte h, byteAt, List.getD_eq_getElem?_getD, List.getElem?_eq_getElem h]
    have h0 : decide ((s.length : Int) ≤ a) = false := decide_eq_false (by omega)
    simp only [Option.getD_some, h0, Bool.false_or, rd_ret]
    by_cases h1 : lo ≤ s[a].toNat
    · by_cases h2 : s[a].toNat ≤ hi
      · rw [if_pos (by simp [h1, h2]), if_neg (by simp only [Bool.or_eq_true, decide_eq_true_eq]; omega)]
      · rw [if_neg (by simp [h2]), if_pos (by simp only [Bool.or_eq_true, decide_eq_true_eq]; omega)]
    · rw [if_neg (by simp [h1]), if_pos (by simp only [Bool.or_eq_true, decide_eq_true_eq]; omega)]
  · rw [rd_end (by omega), if_pos (by simp only [Bool.or_eq_true, decide_eq_true_eq]; omega)]
section

variable {X : Nat → Prop} {w0 w : World} {r : Gh} {L : List Asr} {tb a : Nat} {s : List UInt8} {K : Value → World → Prop} {Kp : List PanicEntry → World → Prop}

theorem c_tk_give (S : StX X w0 r w (tkC tb s a :: L)) (h : StX X w0 r w (tkC tb s a :: L) → Kp (stuckA a) w) : oCallP Tryd.prog Tryd.n_cert_taker_give #[tkP tb] w K Kp := by
  refine Tryd.ok_cert_taker_give ?_
  unfold Tryd.F_cert_taker_give
  (repeat (first | refine s_p ?_ | refine s_c (by omega) ?_ | refine S.ld ?_ | refine S.ldB ?_ | refine S.ce ?_ | refine S.ceB ?_ | refine s_q ?_ | refine s_qc (by omega) ?_ | refine n_some ?_ | rw [List.getD_cons_zero] | rw [List.getD_cons_succ]))
  exact ⟨_, _, rfl, (fun h => by cases h), h S⟩
theorem c_tk_one {lo hi : Nat} (S : StX X w0 r w (tkC tb s a :: L)) (hs : s.length ≤ 1000000000)
    (h : ∀ v w', v ≤ hi → v < 256 → a < s.length → rd (oneG lo hi) s a = (a + 1, some v) → StX X w0 r w' (tkC tb s (a + 1) :: L) → K (.int .i64 (v : Nat)) w')
    (hk : ∀ w', rd (oneG lo hi) s a = (a, none) → StX X w0 r w' (tkC tb s a :: L) → Kp (stuckA a) w') :
    oCallP Tryd.prog Tryd.n_cert_taker_one #[tkP tb, .int .i64 (lo : Nat), .int .i64 (hi : Nat)] w K Kp := by
  refine Tryd.ok_cert_taker_one ?_
  unfold Tryd.F_cert_taker_one
  rw [rd_one] at h hk
  refine j_intro (fun _ w' => ((decide ((s.length : Int) ≤ a) || decide (byteAt s a < lo)) || decide ((hi : Int) < byteAt s a)) = false ∧ StX X w0 r w' (tkC tb s a :: L)) (fun K2 hK2 => ?_) ?_
  · have S := S.go (Ext.drew _)
    (repeat (first | refine s_p ?_ | refine s_c (by omega) ?_ | refine S.ld ?_ | refine S.ldB ?_ | refine S.ce ?_ | refine S.ceB ?_ | refine s_q ?_ | refine s_qc (by omega) ?_ | refine n_some ?_ | rw [List.getD_cons_zero] | rw [List.getD_cons_succ]))
    refine j_borH (c := decide (byteAt s a < lo)) (fun hb K3 hK3 => ?_) ?_
    · have hb : ¬ (s.length : Int) ≤ a := by simpa using hb
      have hbt := byteAt_lt s (a : Int).toNat
      (repeat (first | refine s_p ?_ | refine s_c (by omega) ?_ | refine S.ld ?_ | refine S.ldB ?_ | refine S.ce ?_ | refine S.ceB ?_ | refine s_q ?_ | refine s_qc (by omega) ?_ | refine n_some ?_ | rw [List.getD_cons_zero] | rw [List.getD_cons_succ]))
      rw [Int.toNat_natCast]
      exact hK3
    refine j_borH (c := decide ((hi : Int) < byteAt s a)) (fun hb K3 hK3 => ?_) ?_
    · have hb : ¬ (s.length : Int) ≤ a := by simp only [Bool.or_eq_false_iff, decide_eq_false_iff_not] at hb; exact hb.1
      have hbt := byteAt_lt s (a : Int).toNat
      (repeat (first | refine s_p ?_ | refine s_c (by omega) ?_ | refine S.ld ?_ | refine S.ldB ?_ | refine S.ce ?_ | refine S.ceB ?_ | refine s_q ?_ | refine s_qc (by omega) ?_ | refine n_some ?_ | rw [List.getD_cons_zero] | rw [List.getD_cons_succ]))
      rw [Int.toNat_natCast]
      exact hK3
    refine c_b (fun hc => ?_) (fun hc => hK2 _ _ ⟨hc, S⟩)
    rw [if_pos hc] at hk
    exact c_tk_give S fun S => ⟨(fun h => by cases h), hk _ rfl S⟩
  · rintro _ w2 ⟨hc, S⟩ d2
    rw [if_neg (by rw [hc]; simp)] at h
    simp only [Bool.or_eq_false_iff, decide_eq_false_iff_not] at hc
    (repeat (first | refine s_p ?_ | refine s_c (by omega) ?_ | refine S.ld ?_ | refine S.ldB ?_ | refine S.ce ?_ | refine S.ceB ?_ | refine s_q ?_ | refine s_qc (by omega) ?_ | refine n_some ?_ | rw [List.getD_cons_zero] | rw [List.getD_cons_succ]))
    refine S.st fun w3 S => ?_
    have S := S.go (Ext.drew _)
    have hbt := byteAt_lt s ((a : Int) + 1 - 1).toNat
    (repeat (first | refine s_p ?_ | refine s_c (by omega) ?_ | refine S.ld ?_ | refine S.ldB ?_ | refine S.ce ?_ | refine S.ceB ?_ | refine s_q ?_ | refine s_qc (by omega) ?_ | refine n_some ?_ | rw [List.getD_cons_zero] | rw [List.getD_cons_succ]))
    have := byteAt_lt s a
    have e : ((a : Int) + 1 - 1).toNat = a := by omega
    rw [e]
    have hlt := (s.getD a 0).toNat_lt
    exact h (s.getD a 0).toNat _ (by have := hc.2; unfold byteAt at this; omega) (by omega) (by omega) rfl S
theorem c_tk_number {most : Nat} (hm : most < 65536) (S : StX X w0 r w (tkC tb s a :: L)) (hs : s.length ≤ 1000000000)
    (h : ∀ v b w', v ≤ most → b ≤ s.length → rd (numG most) s a = (b, some v) → StX X w0 r w' (tkC tb s b :: L) → K (.int .i64 (v : Nat)) w')
    (hk : ∀ b w', rd (numG most) s a = (b, none) → StX X w0 r w' (tkC tb s b :: L) → Kp (stuckA b) w') :
    oCallP Tryd.prog Tryd.n_cert_taker_number #[tkP tb, .int .i64 (most : Nat)] w K Kp := by
  refine Tryd.ok_cert_taker_number ?_
  unfold Tryd.F_cert_taker_number
  have nf : ∀ {P : Prop}, false = true → P := fun h => by cases h
  have e8 : (most : Int) / 2 ^ 8 = ((most / 256 : Nat) : Int) := by omega
  rw [numG, rd_bind] at h hk
  refine p_shrI 8 (by decide) (by decide) ?_
  rw [e8]
  refine c_tk_one (lo := 0) (hi := most / 256) S hs (fun x w1 hx hx2 ha1 e1 S => ?_) (fun w1 e1 S => ⟨nf, hk _ _ (by rw [e1]; rfl) S⟩)
  rw [e1] at h hk
  simp only [bd, rd_bind] at h hk
  have es : (x : Int) * 2 ^ 8 = ((2 ^ 8 * x : Nat) : Int) := by omega
  refine p_shlI 8 (by decide) (by decide) (by omega) ?_
  rw [es]
  refine j_intro (fun v w' => v = [.int .i64 ((if x = most / 256 then most % 256 else 255 : Nat) : Int)] ∧ StX X w0 r w' (tkC tb s (a + 1) :: L)) (fun K2 hK2 => ?_) ?_
  · refine p_shrI 8 (by decide) (by decide) ?_
    rw [show ((2 ^ 8 * x : Nat) : Int) / 2 ^ 8 = (x : Int) by omega]
    refine p_shrI 8 (by decide) (by decide) ?_
    rw [e8]
    (first | refine s_p ?_ | refine s_c (by omega) ?_)
    refine c_if (fun he => ?_) (fun hn => ?_)
    · have he : x = most / 256 := by omega
      refine p_mask (m := 255) (e := 8) (by decide) (by decide) (by omega) (by omega) ?_
      refine hK2 _ _ ⟨?_, S⟩
      rw [if_pos he, show (most : Int) % ((2 ^ 8 : Nat) : Int) = ((most % 256 : Nat) : Int) by omega]
    · have hn : ¬ x = most / 256 := by omega
      refine hK2 _ _ ⟨?_, S⟩
      rw [if_neg hn]; rfl
  rintro _ w2 ⟨rfl, S⟩ d2
  rw [List.getD_cons_zero]
  refine c_tk_one (lo := 0) (hi := if x = most / 256 then most % 256 else 255) S hs (fun y w3 hy hy2 ha2 e2 S => ?_) (fun w3 e2 S => ⟨nf, hk _ _ (by rw [e2]) S⟩)
  rw [e2] at h hk
  simp only [bd, rd_ret] at h hk
  refine p_orI (e := 8) (by omega) (by omega) ?_
  refine h (256 * x + y) (a + 1 + 1) _ ?_ (by omega) rfl S
  split at hy <;> omega
end

end Go.Proofs
end

section
namespace Go.Sh
open Go.RowKit
set_option linter.unusedVariables false
/-- a slice whose things, each of so many cells, tell these -/
def SlG {α : Type} (sz : Nat) (r : Gh) (R : List Value → α → Prop) (v : Value) (l : List α) : Prop :=
  ∃ p cap, v = .slice p l.length cap ∧ (p = none → cap = 0) ∧ l.length ≤ cap ∧ ∀ (i : Nat) (h : i < l.length), ∃ c, c.length = sz ∧ CellsAt r p (i * sz) c ∧ R c l[i]
/-- cells one thing behind the other -/
def RowOf {α : Type} (sz : Nat) (R : List Value → α → Prop) (xs : List Value) (l : List α) : Prop :=
  xs.length = l.length * sz ∧ ∀ (i : Nat) (h : i < l.length), R ((xs.drop (i * sz)).take sz) l[i]
section
variable {α : Type} {sz : Nat} {r s : Gh} {R Q : List Value → α → Prop} {v : Value} {l : List α}
theorem SlG.up' (h : SlG sz r R v l) (le : Le r s) (hR : ∀ c x, R c x → Q c x) : SlG sz s Q v l := by
  obtain ⟨p, cap, h1, h2, h3, h4⟩ := h
  refine ⟨p, cap, h1, h2, h3, fun i hi => ?_⟩
  obtain ⟨c, h5, h6, h7⟩ := h4 i hi
  exact ⟨c, h5, h6.up le, hR _ _ h7⟩
theorem SlG.mono (h : SlG sz r R v l) (hR : ∀ c x, R c x → Q c x) : SlG sz r Q v l := h.up' inferInstance hR
theorem SlG.cells (h : SlG sz r R v l) [le : Le r s] : SlG sz s R v l := h.up' le fun _ _ h => h
theorem SlG.nil : SlG sz r R (.slice none 0 0) ([] : List α) := ⟨none, 0, rfl, fun _ => rfl, Nat.le_refl _, fun i hi => absurd hi (Nat.not_lt_zero _)⟩
theorem SlG.shape (h : SlG sz r R v l) : ∃ p cap, v = .slice p l.length cap ∧ (p = none → cap = 0) ∧ l.length ≤ cap := by
  obtain ⟨p, cap, h1, h2, h3, _⟩ := h; exact ⟨p, cap, h1, h2, h3⟩
theorem SlG.len {p : Option Addr} {n cap : Nat} (h : SlG sz r R (.slice p n cap) l) : n = l.length := by
  obtain ⟨p', cap', h1, _⟩ := h; cases h1; rfl
/-- a thing of it -/
theorem SlG.get (hz : 0 < sz) {p : Option Addr} {n cap : Nat} (h : SlG sz r R (.slice p n cap) l) {i : Nat} (hi : i < l.length) :
    ∃ b off c, p = some ⟨b, off, none⟩ ∧ c.length = sz ∧ R c l[i] ∧ ∀ j v, c[j]? = some v → Ob r fun w => w.cell? ⟨b, off + i * sz + j, none⟩ = some v := by
  obtain ⟨p', cap', h1, h2, h3, h4⟩ := h
  cases h1
  obtain ⟨c, h5, h6, h7⟩ := h4 i hi
  obtain ⟨b, off, hp, _⟩ := h6 0 c[0] (List.getElem?_eq_getElem (by omega))
  subst hp
  refine ⟨b, off, c, rfl, h5, h7, fun j v hj => ?_⟩
  obtain ⟨b', off', hp, ho⟩ := h6 j v hj
  cases hp; exact ho
theorem RowOf.nil : RowOf sz R [] ([] : List α) := ⟨by simp, fun i hi => absurd hi (Nat.not_lt_zero _)⟩
theorem RowOf.mono {xs : List Value} (h : RowOf sz R xs l) (hR : ∀ c x, R c x → Q c x) : RowOf sz Q xs l := ⟨h.1, fun i hi => hR _ _ (h.2 i hi)⟩
theorem RowOf.snoc {xs c : List Value} {x : α} (h : RowOf sz R xs l) (hc : c.length = sz) (hx : R c x) : RowOf sz R (xs ++ c) (l ++ [x]) := by
  obtain ⟨h1, h2⟩ := h
  refine ⟨by rw [List.length_append, List.length_append, h1, hc, List.length_singleton, Nat.add_mul, Nat.one_mul], fun i hi => ?_⟩
  rw [List.length_append, List.length_singleton] at hi
  rcases Nat.lt_or_ge i l.length with h | h
  · have hm : i * sz + sz ≤ xs.length := by rw [h1, ← Nat.succ_mul]; exact Nat.mul_le_mul_right _ h
    rw [List.getElem_append_left h, List.drop_append_of_le_length (by omega), List.take_append_of_le_length (by rw [List.length_drop]; omega)]
    exact h2 i h
  · obtain rfl : i = l.length := by omega
    rw [List.getElem_append_right (Nat.le_refl _), ← h1, List.drop_left', List.take_of_length_le (by omega)]
    · simpa using hx
    · rfl
theorem RowOf.sl {xs : List Value} (h : RowOf sz R xs l) {p : Option Addr} {cap : Nat} (hp : p = none → cap = 0) (hc : l.length ≤ cap) (ho : Ob r fun w => Sl w p xs) (hz : 0 < sz) (hk : ∃ w, Holds r w) : SlG sz r R (.slice p l.length cap) l := by
  refine ⟨p, cap, rfl, hp, hc, fun i hi => ⟨(xs.drop (i * sz)).take sz, ?_, ?_, h.2 i hi⟩⟩
  · have : i * sz + sz ≤ xs.length := by rw [h.1, ← Nat.succ_mul]; exact Nat.mul_le_mul_right _ hi
    rw [List.length_take, List.length_drop]; omega
  · intro j v hj
    rw [List.getElem?_take] at hj
    split at hj
    · rw [List.getElem?_drop] at hj
      obtain ⟨w, hw⟩ := hk
      obtain ⟨b, off, rfl, _⟩ := ho w hw _ _ hj
      refine ⟨b, off, rfl, fun w' hw' => ?_⟩
      obtain ⟨b', off', hp', hc'⟩ := ho w' hw' _ _ hj
      cases hp'
      rw [← Nat.add_assoc] at hc'; exact hc'
    · cases hj
/-- a row of one's own that is done: its things tell these -/
theorem RowOf.own {w w' : World} {e : TypeId} {n : Nat} {xs : List Value} (h : RowOf sz R xs l) (hz : 0 < sz) (ho : w'.ownsRow w.heap.size e sz v n xs) (hn : n = l.length) :
    ∃ s, New w s w' ∧ SlG sz s R v l ∧ ∀ b o, s b o → ∃ c, o = .cells c e (0, 0) := by
  subst hn
  rcases own_blk ho with ⟨rfl, h1, h2⟩ | ⟨g, cap, c, rfl, hg, B, h1, _, h3, h4⟩
  · have hl : l = [] := List.eq_nil_of_length_eq_zero h1
    subst hl
    exact ⟨nothing, New.nothing, SlG.nil, fun b o h => h.elim⟩
  · refine ⟨one g c e, New.one B hg, ?_, fun b o h => ⟨_, h.2⟩⟩
    refine h.sl (by simp) h1 (fun w k => ?_) hz ⟨w', one_holds B⟩
    rw [← h4]; exact (Sl.blk (one_blk w k)).take _
end
section
variable {P : Program} {X : Nat → Prop} {w0 w : World} {r : Gh} {L : List Asr} {α : Type} {sz n : Nat} {R : List Value → α → Prop} {v : Value} {l : List α} {e : TypeId} {xs : List Value}
/-- the row at the head of a walk's own, done: it stays from here on -/
theorem StX.doneRow (S : StX X w0 r w (.row v e sz n xs :: L)) (h : RowOf sz R xs l) (hz : 0 < sz) (hn : n = l.length) :
    ∃ s, StX X w0 (r.or s) w L ∧ SlG sz s R v l ∧ (∀ b o, s b o → ∃ c, o = .cells c e (0, 0)) ∧ (∀ b o, s b o → w0.heap.size ≤ b ∨ X b) := by
  subst hn
  have hm := S.mine _ (List.mem_cons_self ..)
  have hr : w.ownsRow 0 e sz v l.length xs := S.has _ (List.mem_cons_self ..)
  rcases own_blk hr with ⟨rfl, h1, h2⟩ | ⟨g, cap, c, rfl, hg, B, h1, _, h3, h4⟩
  · have hl : l = [] := List.eq_nil_of_length_eq_zero h1
    subst hl
    exact ⟨nothing, S.tl.new (Ext.refl _) New.nothing, SlG.nil, fun b o h => h.elim, fun b o h => h.elim⟩
  · have S' := S.turn (p := []) (x := .row _ e sz l.length xs) (y := .cell g c e) (ExtBut.refl _ _) B fun k hk => .inl (by cases hk; rfl)
    refine ⟨one g c e, S'.frz, ?_, fun b o h => ⟨_, h.2⟩, fun b o h => (hm b (by rw [h.1]; rfl)).1⟩
    refine h.sl (by simp) h1 (fun w k => ?_) hz ⟨w, one_holds B⟩
    rw [← h4]; exact (Sl.blk (one_blk w k)).take _
/-- a literal that stays -/
theorem StX.litSl {b : Nat} (S : StX X w0 r w (.cell b xs e :: L)) (h : RowOf sz R xs l) (hz : 0 < sz) : StX X w0 (r.or (one b xs e)) w L ∧ SlG sz (one b xs e) R (.slice (some ⟨b, 0, none⟩) l.length l.length) l :=
  ⟨S.frz, h.sl (by simp) (Nat.le_refl _) (fun w k => Sl.blk (one_blk w k)) hz ⟨w, one_holds (S.has _ (List.mem_cons_self ..))⟩⟩
theorem StX.d2 {x y : Asr} (S : StX X w0 r w (x :: y :: L)) : StX X w0 r w (x :: L) := S.less (fun _ _ h => h) (.cons_cons _ (List.sublist_cons_self _ _))
theorem StX.reGh {s t : Gh} (S : StX X w0 ((r.or s).or t) w L) : StX X w0 (r.or (s.or t)) w L :=
  S.less (fun b o h => h.elim (fun h => .inl (.inl h)) fun h => h.elim (fun h => .inl (.inr h)) .inr) (List.Sublist.refl _)
theorem Above.or' {s t : Gh} (h : Above w0 s) (k : Above w0 t) : Above w0 (s.or t) := fun b o x => x.elim (h b o) (k b o)
theorem Above.no : Above w0 nothing := fun b o h => h.elim
theorem Above.fst {s t : Gh} (h : Above w0 (s.or t)) : Above w0 s := fun b o x => h b o (.inl x)
theorem Above.snd {s t : Gh} (h : Above w0 (s.or t)) : Above w0 t := fun b o x => h b o (.inr x)
theorem New.or {w' : World} {s t : Gh} (h : New w s w') (k : New w t w') : New w (s.or t) w' := ⟨h.holds.or k.holds, fun b o x => x.elim (h.fresh b o) (k.fresh b o)⟩
/-- what the walk holds and has made is new -/
theorem StX.newOf {q : Gh} (S : StX X w0 r w L) (h : Above w0 q) [Le q r] : New w0 q w := ⟨S.holds.le (h := inferInstance), h⟩
end
/-! ### A loop of few rounds, round by round -/
def Loops (body : List Value → List Value → World → (List Value → World → Prop) → Prop) : Nat → List Value → World → Prop
  | 0, _, _ => False
  | n + 1, s, w => ∀ d K, (∀ s' w', Loops body n s' w' → K s' w') → body s d w K
theorem l_unroll (n : Nat) {init : List Value} {w : World} {body : List Value → List Value → World → (List Value → World → Prop) → Prop} (h : Loops body n init w) : sLoop init w body := by
  refine l_intro (ι := List Value × World × Nat) (fun i => i.1) (fun i w' => i.2.1 = w' ∧ Loops body i.2.2 i.1 w') (fun i => i.2.2) (init, w, n) rfl ⟨rfl, h⟩ ?_
  rintro ⟨s, w0, n⟩ d w' ⟨rfl, h⟩ K hK
  cases n with
  | zero => exact h.elim
  | succ n => exact h d K fun s' w' h' => hK (s', w', n) w' ⟨rfl, h'⟩ (Nat.lt_succ_self n)
/-! ### Joined conditions, whatever the second one tells -/
section
variable {w : World} {A : (List Value → World → Prop) → Prop} {Z : Value → World → Prop} {b : Bool}
theorem j_andX (R : Bool → World → Prop) (h0 : b = false → R false w) (hA : b = true → ∀ K : List Value → World → Prop, (∀ c w', R c w' → K [.bool c] w') → A K) (hZ : ∀ x w', R x w' → Z (.bool x) w') :
    sJoin (fun K => gIf (.bool b) true (A K) (K [undef] w)) fun s _ w' => oPick (.bool b) (s.getD 0 undef) (.bool false) fun t => Z t w' := by
  intro K hK
  cases b with
  | true => exact hA rfl K fun c w' e => hK _ _ fun _ => ⟨true, rfl, by simpa using hZ c w' e⟩
  | false => exact hK _ _ fun _ => ⟨false, rfl, by simpa using hZ false w (h0 rfl)⟩
theorem j_orX (R : Bool → World → Prop) (h0 : b = true → R true w) (hA : b = false → ∀ K : List Value → World → Prop, (∀ c w', R c w' → K [.bool c] w') → A K) (hZ : ∀ x w', R x w' → Z (.bool x) w') :
    sJoin (fun K => gIf (.bool b) false (A K) (K [undef] w)) fun s _ w' => oPick (.bool b) (.bool true) (s.getD 0 undef) fun t => Z t w' := by
  intro K hK
  cases b with
  | true => exact hK _ _ fun _ => ⟨true, rfl, by simpa using hZ true w (h0 rfl)⟩
  | false => exact hA rfl K fun c w' e => hK _ _ fun _ => ⟨false, rfl, by simpa using hZ c w' e⟩
end
end Go.Sh
end

section
namespace Go.Proofs
open Go.Sh
set_option maxRecDepth 100000
/- 32: loanword/cert.mark -/
def Tryd.A_cert_mark : Ann := .s (.r (.op 0 .p (.nil))) (.s (.r (.op 0 .p (.nil))) (.n))
def Tryd.F_cert_mark (w : World) (K : Value → World → Prop) : Prop :=
 K (Value.string { data := #[76, 87, 67, 1] }) w
theorem Tryd.E_cert_mark (w : World) (K : Value → World → Prop) : sw ⟨false, false⟩ Tryd.prog (fun _ _ => False) Tryd.A_cert_mark (bodyOf Tryd.f32) [undef] w (topQ false Tryd.prog Tryd.f32 w K) = Tryd.F_cert_mark  w K := by kernel_rfl
theorem Tryd.C_cert_mark : chk ⟨false, false⟩ Tryd.prog false Tryd.A_cert_mark (bodyOf Tryd.f32) = true := by kernel_rfl
theorem Tryd.ok_cert_mark {w : World} {K : Value → World → Prop} (h : Tryd.F_cert_mark  w K) : oCall Tryd.prog Tryd.n_cert_mark #[] w K :=
  calls_of_sw (cf := ⟨false, false⟩) Tryd.mixed Tryd.func32 rfl Tryd.C_cert_mark ((Tryd.E_cert_mark  w K).mpr h)

/- 40: loanword/cert.limits -/
def Tryd.A_cert_limits : Ann := .s (.r (.op 0 .l (.nil))) (.s (.r (.op 0 .p (.op 1 .l (.nil)))) (.n))
def Tryd.F_cert_limits (w : World) (K : Value → World → Prop) : Prop :=
 opW Tryd.prog w (Instr.alloc 80 true (.tuple #[])) fun t0 w1 =>
 opP Tryd.prog (Instr.build 80 #[(0, (Value.int .i64 512)), (1, (Value.int .i64 256)), (2, (Value.int .i64 256))]) fun t1 =>
 opU Tryd.prog w1 (Instr.storeAt 80 t0 t1) fun w2 =>
 opQ Tryd.prog w2 (cellSem 80 t0) fun r3 =>
 K r3 w2
theorem Tryd.E_cert_limits (w : World) (K : Value → World → Prop) : sw ⟨false, false⟩ Tryd.prog (fun _ _ => False) Tryd.A_cert_limits (bodyOf Tryd.f40) [undef, undef] w (topQ false Tryd.prog Tryd.f40 w K) = Tryd.F_cert_limits  w K := by kernel_rfl
theorem Tryd.C_cert_limits : chk ⟨false, false⟩ Tryd.prog false Tryd.A_cert_limits (bodyOf Tryd.f40) = true := by kernel_rfl
theorem Tryd.ok_cert_limits {w : World} {K : Value → World → Prop} (h : Tryd.F_cert_limits  w K) : oCall Tryd.prog Tryd.n_cert_limits #[] w K :=
  calls_of_sw (cf := ⟨false, false⟩) Tryd.mixed Tryd.func40 rfl Tryd.C_cert_limits ((Tryd.E_cert_limits  w K).mpr h)

/- 34: loanword/cert.lists -/
def Tryd.A_cert_lists : Ann := .s (.r (.op 0 .l (.nil))) (.s (.r (.op 0 .p (.op 1 .p (.op 2 .p (.op 3 .p (.op 4 .p (.op 5 .p (.op 6 .p (.op 7 .p (.op 8 .p (.op 9 .p (.op 10 .l (.nil))))))))))))) (.n))
def Tryd.F_cert_lists (t0 : Value) (w : World) (K : Value → World → Prop) : Prop :=
 opW Tryd.prog w (Instr.alloc 74 true (.tuple #[])) fun t2 w1 =>
 oNil t0 fun t4 =>
 opP Tryd.prog (Instr.fieldAt 50 t4 0) fun t5 =>
 oNil t0 fun t7 =>
 opP Tryd.prog (Instr.fieldAt 50 t7 1) fun t8 =>
 oNil t0 fun t10 =>
 opP Tryd.prog (Instr.fieldAt 50 t10 2) fun t11 =>
 opP Tryd.prog (Instr.build 74 #[(0, t5), (1, t8), (2, t11)]) fun t12 =>
 opU Tryd.prog w1.drew (Instr.storeAt 74 t2 t12) fun w2 =>
 opQ Tryd.prog w2 (cellSem 74 t2) fun r3 =>
 K r3 w2
theorem Tryd.E_cert_lists (t0 : Value) (w : World) (K : Value → World → Prop) : sw ⟨false, false⟩ Tryd.prog (fun _ _ => False) Tryd.A_cert_lists (bodyOf Tryd.f34) [t0, undef, undef, undef, undef, undef, undef, undef, undef, undef, undef, undef, undef] w (topQ false Tryd.prog Tryd.f34 w K) = Tryd.F_cert_lists t0 w K := by kernel_rfl
theorem Tryd.C_cert_lists : chk ⟨false, false⟩ Tryd.prog false Tryd.A_cert_lists (bodyOf Tryd.f34) = true := by kernel_rfl
theorem Tryd.ok_cert_lists {t0 : Value} {w : World} {K : Value → World → Prop} (h : Tryd.F_cert_lists t0 w K) : oCall Tryd.prog Tryd.n_cert_lists #[t0] w K :=
  calls_of_sw (cf := ⟨false, false⟩) Tryd.mixed Tryd.func34 rfl Tryd.C_cert_lists ((Tryd.E_cert_lists t0 w K).mpr h)

/- 39: loanword/cert.good -/
def Tryd.A_cert_good : Ann := .s (.r (.op 0 .l (.op 1 .p (.nil)))) (.s (.r (.op 0 .q (.op 1 .p (.op 2 .p (.op 3 .p (.op 4 .p (.grp 9 true [(5, .q), (6, .p), (7, .l), (8, .p)] [13] (.op 9 .p (.op 10 .p (.nil)))))))))) (.n))
def Tryd.F_cert_good (t0 : Value) (t1 : Value) (w : World) (K : Value → World → Prop) : Prop :=
 opW Tryd.prog w (Instr.box 48 t0) fun t2 w1 =>
 opQ Tryd.prog w1 (Instr.loadAt 48 t2) fun t5 =>
 opP Tryd.prog (Builtin.len_ #[48] 3 #[t5]) fun t6 =>
 opP Tryd.prog (bsem .leq 3 false t6 t1) fun t8 =>
 sJoin (fun K2 => gIf t8 true (opQ Tryd.prog w1 (Instr.loadAt 48 t2) fun t10 =>
 opP Tryd.prog (Instr.makeFunc (.func 66) #[] #[t2]) fun t11 =>
 oCall Tryd.prog Tryd.n_slices_ContainsFunc_api_Row_api_Row #[t10, t11] w1 fun t12 w6 =>
 opP Tryd.prog (Op.unary .not t12) fun t13 =>
 K2 [t13] w6) (K2 [undef] w1)) (fun s3 _d4 w5 =>
 oPick t8 (s3.getD 0 undef) (Value.bool false) fun t14 =>
 K t14 w5)
theorem Tryd.E_cert_good (t0 t1 : Value) (w : World) (K : Value → World → Prop) : sw ⟨false, false⟩ Tryd.prog (fun _ _ => False) Tryd.A_cert_good (bodyOf Tryd.f39) [t0, t1, undef, undef, undef, undef, undef, undef, undef, undef, undef, undef, undef, undef, undef] w (topQ false Tryd.prog Tryd.f39 w K) = Tryd.F_cert_good t0 t1 w K := by kernel_rfl
theorem Tryd.C_cert_good : chk ⟨false, false⟩ Tryd.prog false Tryd.A_cert_good (bodyOf Tryd.f39) = true := by kernel_rfl
theorem Tryd.ok_cert_good {t0 t1 : Value} {w : World} {K : Value → World → Prop} (h : Tryd.F_cert_good t0 t1 w K) : oCall Tryd.prog Tryd.n_cert_good #[t0, t1] w K :=
  calls_of_sw (cf := ⟨false, false⟩) Tryd.mixed Tryd.func39 rfl Tryd.C_cert_good ((Tryd.E_cert_good t0 t1 w K).mpr h)

/- 66: loanword/cert.good$1 -/
def Tryd.A_cert_good_1 : Ann := .s (.r (.op 0 .l (.op 1 .p (.nil)))) (.s (.r (.op 0 .q (.op 1 .l (.op 2 .p (.op 3 .p (.grp 7 false [(4, .p), (5, .q), (6, .q), (7, .p), (8, .p), (9, .q), (10, .p)] [14] (.op 11 .p (.op 12 .p (.nil))))))))) (.n))
def Tryd.F_cert_good_1 (t0 : Value) (t1 : Value) (w : World) (K : Value → World → Prop) : Prop :=
 opW Tryd.prog w (Instr.box 65 t0) fun t2 w1 =>
 opQ Tryd.prog w1.drew (Instr.loadAt 65 t2) fun t4 =>
 oCall Tryd.prog Tryd.n_bits_May #[t4] w1.drew fun t5 w2 =>
 opP Tryd.prog (Op.unary .not t5) fun t6 =>
 sJoin (fun K3 => gIf t6 false (opP Tryd.prog (Instr.fieldAt 65 t2 0) fun t8 =>
 opQ Tryd.prog w2 (Instr.loadAt 3 t8) fun t9 =>
 opQ Tryd.prog w2 (Instr.loadAt 48 t1) fun t10 =>
 opP Tryd.prog (Instr.indexAt 48 t10 (Value.int .i64 0)) fun t11 =>
 opP Tryd.prog (Instr.fieldAt 65 t11 0) fun t12 =>
 opQ Tryd.prog w2 (Instr.loadAt 3 t12) fun t13 =>
 opP Tryd.prog (bsem .neq 3 false t9 t13) fun t14 =>
 K3 [t14] w2) (K3 [undef] w2)) (fun s4 _d5 w6 =>
 oPick t6 (Value.bool true) (s4.getD 0 undef) fun t15 =>
 K t15 w6)
theorem Tryd.E_cert_good_1 (t0 t1 : Value) (w : World) (K : Value → World → Prop) : sw ⟨false, false⟩ Tryd.prog (fun _ _ => False) Tryd.A_cert_good_1 (bodyOf Tryd.f66) [t0, t1, undef, undef, undef, undef, undef, undef, undef, undef, undef, undef, undef, undef, undef, undef] w (topQ false Tryd.prog Tryd.f66 w K) = Tryd.F_cert_good_1 t0 t1 w K := by kernel_rfl
theorem Tryd.C_cert_good_1 : chk ⟨false, false⟩ Tryd.prog false Tryd.A_cert_good_1 (bodyOf Tryd.f66) = true := by kernel_rfl
theorem Tryd.ok_cert_good_1 {t0 t1 : Value} {w : World} {K : Value → World → Prop} (h : Tryd.F_cert_good_1 t0 t1 w K) : oCall Tryd.prog Tryd.n_cert_good_1 #[t0, t1] w K :=
  calls_of_sw (cf := ⟨false, false⟩) Tryd.mixed Tryd.func66 rfl Tryd.C_cert_good_1 ((Tryd.E_cert_good_1 t0 t1 w K).mpr h)

/- 15: loanword/cert.May -/
def Tryd.A_cert_May : Ann := .s (.r (.op 0 .l (.op 1 .p (.nil)))) (.s (.s (.r (.op 0 .p (.op 1 .q (.op 2 .p (.op 3 .p (.op 4 .p (.grp 11 false [(5, .p), (6, .q), (7, .p), (8, .p)] [15] (.op 9 .p (.nil))))))))) (.c (.s (.r (.op 0 .p (.nil))) (.n)) (.n))) (.s (.s (.r (.op 0 .p (.op 1 .q (.op 2 .p (.op 3 .p (.nil)))))) (.b (.lp [20] (.s (.r (.op 0 .p (.nil))) (.s (.c (.n) (.n)) (.s (.b (.s (.r (.op 0 .p (.op 1 .q (.op 2 .l (.op 3 .l (.nil)))))) (.s (.r (.op 0 .l (.op 1 .p (.nil)))) (.b (.lp [25] (.s (.r (.op 0 .p (.nil))) (.s (.c (.n) (.n)) (.s (.b (.s (.r (.op 0 .p (.op 1 .p (.op 2 .p (.op 3 .p (.nil)))))) (.s (.r (.op 0 .p (.op 1 .p (.op 2 .q (.op 4 .p (.op 3 .u (.op 5 .p (.op 6 .l (.op 7 .p (.nil)))))))))) (.c (.s (.r (.op 0 .p (.nil))) (.n)) (.n))))) (.r (.op 0 .p (.op 1 .p (.nil)))))))))))) (.r (.op 0 .p (.op 1 .p (.nil)))))))))) (.s (.r (.op 0 .p (.nil))) (.n))))
def Tryd.F_cert_May (t0 : Value) (w : World) (K : Value → World → Prop) : Prop :=
 opW Tryd.prog w (Instr.box 24 t0) fun t1 w1 =>
 opP Tryd.prog (Instr.fieldAt 24 t1 0) fun t7 =>
 opQ Tryd.prog w1 (Instr.loadAt 22 t7) fun t8 =>
 opP Tryd.prog (Builtin.len_ #[22] 3 #[t8]) fun t9 =>
 opP Tryd.prog (bsem .lss 3 true t9 (Value.int .i64 1)) fun t10 =>
 sJoin (fun K2 => gIf t10 false (opP Tryd.prog (Instr.fieldAt 24 t1 0) fun t12 =>
 opQ Tryd.prog w1 (Instr.loadAt 22 t12) fun t13 =>
 opP Tryd.prog (Builtin.len_ #[22] 3 #[t13]) fun t14 =>
 opP Tryd.prog (bsem .gtr 3 true t14 (Value.int .i64 32)) fun t15 =>
 K2 [t15] w1) (K2 [undef] w1)) (fun s3 _d4 w5 =>
 oPick t10 (Value.bool true) (s3.getD 0 undef) fun t16 =>
 oCond t16 (K (Value.bool false) w5) (opP Tryd.prog (Instr.fieldAt 24 t1 0) fun t17 =>
 opQ Tryd.prog w5 (Instr.loadAt 22 t17) fun t18 =>
 opP Tryd.prog (Builtin.len_ #[22] 3 #[t18]) fun t19 =>
 sLoop [(Value.int .i64 0)] w5 (fun s7 _d8 w9 K6 =>
 opP Tryd.prog (bsem .lss 3 false (s7.getD 0 undef) t19) fun t21 =>
 oCond t21 (opP Tryd.prog (Instr.indexAt 22 t18 (s7.getD 0 undef)) fun t22 =>
 opQ Tryd.prog w9 (Instr.loadAt 50 t22) fun t23 =>
 opW Tryd.prog w9 (Instr.alloc 50 true (.tuple #[])) fun t4 w10 =>
 opU Tryd.prog w10 (Instr.storeAt 50 t4 t23) fun w11 =>
 oCall Tryd.prog Tryd.n_cert_lists #[t4] w11 fun t24 w12 =>
 sLoop [(Value.int .i64 0)] w12 (fun s14 _d15 w16 K13 =>
 opP Tryd.prog (bsem .lss 3 true (s14.getD 0 undef) (Value.int .i64 3)) fun t26 =>
 oCond t26 (opP Tryd.prog (Instr.index 74 t24 (s14.getD 0 undef)) fun t28 =>
 oNil t28 fun t30 =>
 opQ Tryd.prog w16.drew (Instr.loadAt 48 t30) fun t31 =>
 oCall Tryd.prog Tryd.n_cert_limits #[] w16.drew fun t32 w17 =>
 Ext w16.drew w17 ∧
 opP Tryd.prog (Instr.index 80 t32 (s14.getD 0 undef)) fun t34 =>
 oCall Tryd.prog Tryd.n_cert_good #[t31, t34] w17 fun t35 w18 =>
 opP Tryd.prog (Op.unary .not t35) fun t36 =>
 oCond t36 (K (Value.bool false) w18) (opP Tryd.prog (bsem .add 3 true (s14.getD 0 undef) (Value.int .i64 1)) fun t37 =>
 K13 [t37] w18)) (opP Tryd.prog (bsem .add 3 true (s7.getD 0 undef) (Value.int .i64 1)) fun t38 =>
 K6 [t38] w16))) (K (Value.bool true) w9))))
theorem Tryd.E_cert_May (t0 : Value) (w : World) (K : Value → World → Prop) : sw ⟨false, false⟩ Tryd.prog (fun _ _ => False) Tryd.A_cert_May (bodyOf Tryd.f15) [t0, undef, undef, undef, undef, undef, undef, undef, undef, undef, undef, undef, undef, undef, undef, undef, undef, undef, undef, undef, undef, undef, undef, undef, undef, undef, undef, undef, undef, undef, undef, undef, undef, undef, undef, undef, undef, undef, undef] w (topQ false Tryd.prog Tryd.f15 w K) = Tryd.F_cert_May t0 w K := by kernel_rfl
theorem Tryd.C_cert_May : chk ⟨false, false⟩ Tryd.prog false Tryd.A_cert_May (bodyOf Tryd.f15) = true := by kernel_rfl
theorem Tryd.ok_cert_May {t0 : Value} {w : World} {K : Value → World → Prop} (h : Tryd.F_cert_May t0 w K) : oCall Tryd.prog Tryd.n_cert_May #[t0] w K :=
  calls_of_sw (cf := ⟨false, false⟩) Tryd.mixed Tryd.func15 rfl Tryd.C_cert_May ((Tryd.E_cert_May t0 w K).mpr h)

/- 36: loanword/cert.mapped[loanword/api.FnCert,loanword/api.FnCert] -/
def Tryd.A_cert_mapped_api_FnCert_api_FnCert : Ann := .s (.r (.op 0 .p (.nil))) (.s (.r (.op 0 .p (.nil))) (.s (.s (.r (.op 0 .p (.op 1 .p (.op 2 .p (.nil))))) (.b (.lp [5, 10] (.s (.r (.op 0 .p (.nil))) (.s (.c (.n) (.n)) (.s (.b (.s (.r (.op 0 .p (.op 1 .q (.op 2 .l (.op 3 .l (.nil)))))) (.r (.op 0 .p (.op 1 .p (.op 2 .q (.op 3 .l (.op 4 .l (.op 5 .l (.op 6 .p (.nil))))))))))) (.r (.op 0 .p (.op 1 .p (.nil)))))))))) (.s (.r (.op 0 .p (.op 1 .p (.nil)))) (.n))))
def Tryd.F_cert_mapped_api_FnCert_api_FnCert (t0 : Value) (t1 : Value) (w : World) (K : Value → World → Prop) : Prop :=
 opP Tryd.prog (Builtin.len_ #[22] 3 #[t0]) fun t9 =>
 sLoop [(Value.slice Option.none 0 0), (Value.int .i64 0)] w (fun s2 _d3 w4 K1 =>
 opP Tryd.prog (bsem .lss 3 false (s2.getD 1 undef) t9) fun t11 =>
 oCond t11 (opP Tryd.prog (Instr.indexAt 22 t0 (s2.getD 1 undef)) fun t12 =>
 opQ Tryd.prog w4 (Instr.loadAt 50 t12) fun t13 =>
 opW Tryd.prog w4 (Instr.alloc 50 true (.tuple #[])) fun t7 w5 =>
 opU Tryd.prog w5 (Instr.storeAt 50 t7 t13) fun w6 =>
 opQ Tryd.prog w6 (Instr.loadAt 50 t7) fun t16 =>
 oCallV Tryd.prog t1 #[t16] w6 fun t17 w7 =>
 opW Tryd.prog w7 (Instr.buildSlice 22 1 #[(0, t17)]) fun t18 w8 =>
 opW Tryd.prog w8 (Builtin.append_ #[22, 22] 22 #[(s2.getD 0 undef), t18]) fun t19 w9 =>
 opP Tryd.prog (bsem .add 3 true (s2.getD 1 undef) (Value.int .i64 1)) fun t20 =>
 K1 [t19, t20] w9) (K (s2.getD 0 undef) w4))
theorem Tryd.E_cert_mapped_api_FnCert_api_FnCert (t0 t1 : Value) (w : World) (K : Value → World → Prop) : sw ⟨false, false⟩ Tryd.prog (fun _ _ => False) Tryd.A_cert_mapped_api_FnCert_api_FnCert (bodyOf Tryd.f36) [t0, t1, undef, undef, undef, undef, undef, undef, undef, undef, undef, undef, undef, undef, undef, undef, undef, undef, undef, undef, undef, undef] w (topQ false Tryd.prog Tryd.f36 w K) = Tryd.F_cert_mapped_api_FnCert_api_FnCert t0 t1 w K := by kernel_rfl
theorem Tryd.C_cert_mapped_api_FnCert_api_FnCert : chk ⟨false, false⟩ Tryd.prog false Tryd.A_cert_mapped_api_FnCert_api_FnCert (bodyOf Tryd.f36) = true := by kernel_rfl
theorem Tryd.ok_cert_mapped_api_FnCert_api_FnCert {t0 t1 : Value} {w : World} {K : Value → World → Prop} (h : Tryd.F_cert_mapped_api_FnCert_api_FnCert t0 t1 w K) : oCall Tryd.prog Tryd.n_cert_mapped_api_FnCert_api_FnCert #[t0, t1] w K :=
  calls_of_sw (cf := ⟨false, false⟩) Tryd.mixed Tryd.func36 rfl Tryd.C_cert_mapped_api_FnCert_api_FnCert ((Tryd.E_cert_mapped_api_FnCert_api_FnCert t0 t1 w K).mpr h)

/- 62: loanword/cert.mapped[loanword/api.Row,loanword/api.Row] -/
def Tryd.A_cert_mapped_api_Row_api_Row : Ann := .s (.r (.op 0 .p (.nil))) (.s (.r (.op 0 .p (.nil))) (.s (.s (.r (.op 0 .p (.op 1 .p (.op 2 .p (.nil))))) (.b (.lp [5, 10] (.s (.r (.op 0 .p (.nil))) (.s (.c (.n) (.n)) (.s (.b (.s (.r (.op 0 .p (.op 1 .q (.op 2 .l (.op 3 .l (.nil)))))) (.r (.op 0 .p (.op 1 .p (.op 2 .q (.op 3 .l (.op 4 .l (.op 5 .l (.op 6 .p (.nil))))))))))) (.r (.op 0 .p (.op 1 .p (.nil)))))))))) (.s (.r (.op 0 .p (.op 1 .p (.nil)))) (.n))))
def Tryd.F_cert_mapped_api_Row_api_Row (t0 : Value) (t1 : Value) (w : World) (K : Value → World → Prop) : Prop :=
 opP Tryd.prog (Builtin.len_ #[48] 3 #[t0]) fun t9 =>
 sLoop [(Value.slice Option.none 0 0), (Value.int .i64 0)] w (fun s2 _d3 w4 K1 =>
 opP Tryd.prog (bsem .lss 3 false (s2.getD 1 undef) t9) fun t11 =>
 oCond t11 (opP Tryd.prog (Instr.indexAt 48 t0 (s2.getD 1 undef)) fun t12 =>
 opQ Tryd.prog w4 (Instr.loadAt 65 t12) fun t13 =>
 opW Tryd.prog w4 (Instr.alloc 65 true (.tuple #[])) fun t7 w5 =>
 opU Tryd.prog w5 (Instr.storeAt 65 t7 t13) fun w6 =>
 opQ Tryd.prog w6 (Instr.loadAt 65 t7) fun t16 =>
 oCallV Tryd.prog t1 #[t16] w6 fun t17 w7 =>
 opW Tryd.prog w7 (Instr.buildSlice 48 1 #[(0, t17)]) fun t18 w8 =>
 opW Tryd.prog w8 (Builtin.append_ #[48, 48] 48 #[(s2.getD 0 undef), t18]) fun t19 w9 =>
 opP Tryd.prog (bsem .add 3 true (s2.getD 1 undef) (Value.int .i64 1)) fun t20 =>
 K1 [t19, t20] w9) (K (s2.getD 0 undef) w4))
theorem Tryd.E_cert_mapped_api_Row_api_Row (t0 t1 : Value) (w : World) (K : Value → World → Prop) : sw ⟨false, false⟩ Tryd.prog (fun _ _ => False) Tryd.A_cert_mapped_api_Row_api_Row (bodyOf Tryd.f62) [t0, t1, undef, undef, undef, undef, undef, undef, undef, undef, undef, undef, undef, undef, undef, undef, undef, undef, undef, undef, undef, undef] w (topQ false Tryd.prog Tryd.f62 w K) = Tryd.F_cert_mapped_api_Row_api_Row t0 t1 w K := by kernel_rfl
theorem Tryd.C_cert_mapped_api_Row_api_Row : chk ⟨false, false⟩ Tryd.prog false Tryd.A_cert_mapped_api_Row_api_Row (bodyOf Tryd.f62) = true := by kernel_rfl
theorem Tryd.ok_cert_mapped_api_Row_api_Row {t0 t1 : Value} {w : World} {K : Value → World → Prop} (h : Tryd.F_cert_mapped_api_Row_api_Row t0 t1 w K) : oCall Tryd.prog Tryd.n_cert_mapped_api_Row_api_Row #[t0, t1] w K :=
  calls_of_sw (cf := ⟨false, false⟩) Tryd.mixed Tryd.func62 rfl Tryd.C_cert_mapped_api_Row_api_Row ((Tryd.E_cert_mapped_api_Row_api_Row t0 t1 w K).mpr h)

/- 38: loanword/cert.own -/
def Tryd.A_cert_own : Ann := .s (.r (.op 0 .p (.nil))) (.s (.r (.op 0 .p (.op 1 .l (.op 2 .p (.nil))))) (.n))
def Tryd.F_cert_own (t0 : Value) (w : World) (K : Value → World → Prop) : Prop :=
 oCall Tryd.prog Tryd.n_cert_mapped_api_Row_api_Row #[t0, (Value.func (.func 63) #[] #[])] w fun t4 w1 =>
 K t4 w1
theorem Tryd.E_cert_own (t0 : Value) (w : World) (K : Value → World → Prop) : sw ⟨false, false⟩ Tryd.prog (fun _ _ => False) Tryd.A_cert_own (bodyOf Tryd.f38) [t0, undef, undef, undef, undef] w (topQ false Tryd.prog Tryd.f38 w K) = Tryd.F_cert_own t0 w K := by kernel_rfl
theorem Tryd.C_cert_own : chk ⟨false, false⟩ Tryd.prog false Tryd.A_cert_own (bodyOf Tryd.f38) = true := by kernel_rfl
theorem Tryd.ok_cert_own {t0 : Value} {w : World} {K : Value → World → Prop} (h : Tryd.F_cert_own t0 w K) : oCall Tryd.prog Tryd.n_cert_own #[t0] w K :=
  calls_of_sw (cf := ⟨false, false⟩) Tryd.mixed Tryd.func38 rfl Tryd.C_cert_own ((Tryd.E_cert_own t0 w K).mpr h)

/- 63: loanword/cert.own$1 -/
def Tryd.A_cert_own_1 : Ann := .s (.r (.op 0 .l (.op 1 .l (.nil)))) (.s (.r (.op 0 .q (.op 1 .l (.op 2 .p (.op 3 .p (.op 4 .p (.op 5 .l (.nil)))))))) (.s (.r (.op 0 .q (.op 1 .l (.nil)))) (.n)))
def Tryd.F_cert_own_1 (t0 : Value) (w : World) (K : Value → World → Prop) : Prop :=
 opW Tryd.prog w (Instr.box 65 t0) fun t1 w1 =>
 opW Tryd.prog w1 (Instr.alloc 65 true (.tuple #[])) fun t2 w2 =>
 opQ Tryd.prog w2 (Instr.loadAt 65 t1) fun t4 =>
 oCall Tryd.prog Tryd.n_bits_Own #[t4] w2 fun t5 w3 =>
 opP Tryd.prog (Instr.extract t5 0) fun t6 =>
 opP Tryd.prog (Instr.extract t5 1) fun _t7 =>
 opU Tryd.prog w3 (Instr.storeAt 65 t1 t6) fun w4 =>
 opQ Tryd.prog w4 (Instr.loadAt 65 t1) fun t8 =>
 opU Tryd.prog w4 (Instr.storeAt 65 t2 t8) fun w5 =>
 opQ Tryd.prog w5 (cellSem 65 t2) fun r6 =>
 K r6 w5
theorem Tryd.E_cert_own_1 (t0 : Value) (w : World) (K : Value → World → Prop) : sw ⟨false, false⟩ Tryd.prog (fun _ _ => False) Tryd.A_cert_own_1 (bodyOf Tryd.f63) [t0, undef, undef, undef, undef, undef, undef, undef, undef] w (topQ false Tryd.prog Tryd.f63 w K) = Tryd.F_cert_own_1 t0 w K := by kernel_rfl
theorem Tryd.C_cert_own_1 : chk ⟨false, false⟩ Tryd.prog false Tryd.A_cert_own_1 (bodyOf Tryd.f63) = true := by kernel_rfl
theorem Tryd.ok_cert_own_1 {t0 : Value} {w : World} {K : Value → World → Prop} (h : Tryd.F_cert_own_1 t0 w K) : oCall Tryd.prog Tryd.n_cert_own_1 #[t0] w K :=
  calls_of_sw (cf := ⟨false, false⟩) Tryd.mixed Tryd.func63 rfl Tryd.C_cert_own_1 ((Tryd.E_cert_own_1 t0 w K).mpr h)

/- 14: loanword/cert.Own -/
def Tryd.A_cert_Own : Ann := .s (.r (.op 0 .l (.op 1 .l (.op 2 .p (.nil))))) (.s (.s (.r (.op 0 .q (.op 1 .l (.op 2 .p (.nil))))) (.c (.s (.r (.op 0 .p (.op 1 .l (.op 2 .p (.nil))))) (.n)) (.n))) (.s (.r (.op 0 .p (.op 1 .q (.op 2 .l (.op 3 .p (.op 4 .l (.op 5 .p (.nil)))))))) (.n)))
def Tryd.F_cert_Own (t0 : Value) (w : World) (K : Value → World → Prop) : Prop :=
 opW Tryd.prog w (Instr.box 24 t0) fun t1 w1 =>
 opW Tryd.prog w1 (Instr.alloc 24 true (.tuple #[])) fun t2 w2 =>
 opQ Tryd.prog w2 (Instr.loadAt 24 t1) fun t4 =>
 oCall Tryd.prog Tryd.n_cert_May #[t4] w2 fun t5 w3 =>
 opP Tryd.prog (Op.unary .not t5) fun t6 =>
 oCond t6 (opP Tryd.prog (Instr.build 24 #[]) fun t7 =>
 opU Tryd.prog w3 (Instr.storeAt 24 t2 t7) fun w4 =>
 opQ Tryd.prog w4 (cellSem 24 t2) fun r5 =>
 K (.tuple #[r5, (Value.int .i64 2)]) w4) (opP Tryd.prog (Instr.fieldAt 24 t1 0) fun t8 =>
 opQ Tryd.prog w3 (Instr.loadAt 22 t8) fun t9 =>
 oCall Tryd.prog Tryd.n_cert_mapped_api_FnCert_api_FnCert #[t9, (Value.func (.func 37) #[] #[])] w3 fun t10 w6 =>
 opP Tryd.prog (Instr.build 24 #[(0, t10)]) fun t11 =>
 opU Tryd.prog w6 (Instr.storeAt 24 t2 t11) fun w7 =>
 opQ Tryd.prog w7 (cellSem 24 t2) fun r8 =>
 K (.tuple #[r8, (Value.int .i64 0)]) w7)
theorem Tryd.E_cert_Own (t0 : Value) (w : World) (K : Value → World → Prop) : sw ⟨false, false⟩ Tryd.prog (fun _ _ => False) Tryd.A_cert_Own (bodyOf Tryd.f14) [t0, undef, undef, undef, undef, undef, undef, undef, undef, undef, undef, undef] w (topQ false Tryd.prog Tryd.f14 w K) = Tryd.F_cert_Own t0 w K := by kernel_rfl
theorem Tryd.C_cert_Own : chk ⟨false, false⟩ Tryd.prog false Tryd.A_cert_Own (bodyOf Tryd.f14) = true := by kernel_rfl
theorem Tryd.ok_cert_Own {t0 : Value} {w : World} {K : Value → World → Prop} (h : Tryd.F_cert_Own t0 w K) : oCall Tryd.prog Tryd.n_cert_Own #[t0] w K :=
  calls_of_sw (cf := ⟨false, false⟩) Tryd.mixed Tryd.func14 rfl Tryd.C_cert_Own ((Tryd.E_cert_Own t0 w K).mpr h)

/- 37: loanword/cert.Own$1 -/
def Tryd.A_cert_Own_1 : Ann := .s (.r (.op 0 .l (.op 1 .l (.nil)))) (.s (.r (.op 0 .p (.op 1 .q (.op 3 .p (.op 4 .q (.op 6 .p (.op 7 .q (.op 2 .u (.op 5 .u (.op 8 .l (.op 9 .p (.op 10 .l (.nil))))))))))))) (.n))
def Tryd.F_cert_Own_1 (t0 : Value) (w : World) (K : Value → World → Prop) : Prop :=
 opW Tryd.prog w (Instr.box 50 t0) fun t1 w1 =>
 opW Tryd.prog w1 (Instr.alloc 50 true (.tuple #[])) fun t2 w2 =>
 opP Tryd.prog (Instr.fieldAt 50 t1 0) fun t3 =>
 opQ Tryd.prog w2.drew (Instr.loadAt 48 t3) fun t4 =>
 opP Tryd.prog (Instr.fieldAt 50 t1 1) fun t6 =>
 opQ Tryd.prog w2.drew (Instr.loadAt 48 t6) fun t7 =>
 opP Tryd.prog (Instr.fieldAt 50 t1 2) fun t9 =>
 opQ Tryd.prog w2.drew (Instr.loadAt 48 t9) fun t10 =>
 oCall Tryd.prog Tryd.n_cert_own #[t4] w2.drew fun t5 w3 =>
 Ext w2.drew w3 ∧
 oCall Tryd.prog Tryd.n_cert_own #[t7] w3 fun t8 w4 =>
 Ext w3 w4 ∧
 oCall Tryd.prog Tryd.n_cert_own #[t10] w4 fun t11 w5 =>
 opP Tryd.prog (Instr.build 50 #[(0, t5), (1, t8), (2, t11)]) fun t12 =>
 opU Tryd.prog w5 (Instr.storeAt 50 t2 t12) fun w6 =>
 opQ Tryd.prog w6 (cellSem 50 t2) fun r7 =>
 K r7 w6
theorem Tryd.E_cert_Own_1 (t0 : Value) (w : World) (K : Value → World → Prop) : sw ⟨false, false⟩ Tryd.prog (fun _ _ => False) Tryd.A_cert_Own_1 (bodyOf Tryd.f37) [t0, undef, undef, undef, undef, undef, undef, undef, undef, undef, undef, undef, undef] w (topQ false Tryd.prog Tryd.f37 w K) = Tryd.F_cert_Own_1 t0 w K := by kernel_rfl
theorem Tryd.C_cert_Own_1 : chk ⟨false, false⟩ Tryd.prog false Tryd.A_cert_Own_1 (bodyOf Tryd.f37) = true := by kernel_rfl
theorem Tryd.ok_cert_Own_1 {t0 : Value} {w : World} {K : Value → World → Prop} (h : Tryd.F_cert_Own_1 t0 w K) : oCall Tryd.prog Tryd.n_cert_Own_1 #[t0] w K :=
  calls_of_sw (cf := ⟨false, false⟩) Tryd.mixed Tryd.func37 rfl Tryd.C_cert_Own_1 ((Tryd.E_cert_Own_1 t0 w K).mpr h)

/- 16: loanword/cert.Same -/
def Tryd.A_cert_Same : Ann := .s (.r (.op 0 .l (.op 1 .l (.op 2 .p (.nil))))) (.s (.r (.op 0 .q (.op 1 .l (.op 2 .p (.op 3 .p (.op 4 .p (.op 5 .p (.op 6 .p (.nil))))))))) (.s (.r (.op 0 .q (.op 1 .l (.op 2 .p (.op 3 .p (.op 4 .p (.op 5 .p (.op 6 .p (.nil))))))))) (.s (.r (.op 0 .p (.op 1 .p (.op 2 .p (.grp 21 true [(3, .p), (4, .p)] [23] (.op 5 .p (.op 6 .p (.grp 25 true [(7, .p), (8, .p), (9, .p)] [28] (.op 10 .p (.op 11 .p (.nil))))))))))) (.n))))
def Tryd.F_cert_Same (t0 : Value) (t1 : Value) (w : World) (K : Value → World → Prop) : Prop :=
 opW Tryd.prog w (Instr.box 24 t0) fun t2 w1 =>
 opW Tryd.prog w1 (Instr.box 24 t1) fun t3 w2 =>
 opQ Tryd.prog w2 (Instr.loadAt 24 t2) fun t10 =>
 oCall Tryd.prog Tryd.n_cert_Bytes #[t10] w2 fun t11 w3 =>
 opP Tryd.prog (Instr.extract t11 0) fun t12 =>
 opP Tryd.prog (Instr.extract t11 1) fun t13 =>
 opQ Tryd.prog w3 (Instr.loadAt 24 t3) fun t15 =>
 oCall Tryd.prog Tryd.n_cert_Bytes #[t15] w3 fun t16 w4 =>
 opP Tryd.prog (Instr.extract t16 0) fun t17 =>
 opP Tryd.prog (Instr.extract t16 1) fun t18 =>
 opP Tryd.prog (bsem .eql 28 true t13 (Value.int .i64 0)) fun t20 =>
 sJoin (fun K5 => gIf t20 true (opP Tryd.prog (bsem .eql 28 true t18 (Value.int .i64 0)) fun t23 =>
 K5 [t23] w4) (K5 [undef] w4)) (fun s6 _d7 w8 =>
 oPick t20 (s6.getD 0 undef) (Value.bool false) fun t24 =>
 sJoin (fun K9 => gIf t24 true (opP Tryd.prog (bsem .eql 9 false t12 t17) fun t28 =>
 K9 [t28] w8) (K9 [undef] w8)) (fun s10 _d11 w12 =>
 oPick t24 (s10.getD 0 undef) (Value.bool false) fun t29 =>
 K t29 w12))
theorem Tryd.E_cert_Same (t0 t1 : Value) (w : World) (K : Value → World → Prop) : sw ⟨false, false⟩ Tryd.prog (fun _ _ => False) Tryd.A_cert_Same (bodyOf Tryd.f16) [t0, t1, undef, undef, undef, undef, undef, undef, undef, undef, undef, undef, undef, undef, undef, undef, undef, undef, undef, undef, undef, undef, undef, undef, undef, undef, undef, undef, undef, undef] w (topQ false Tryd.prog Tryd.f16 w K) = Tryd.F_cert_Same t0 t1 w K := by kernel_rfl
theorem Tryd.C_cert_Same : chk ⟨false, false⟩ Tryd.prog false Tryd.A_cert_Same (bodyOf Tryd.f16) = true := by kernel_rfl
theorem Tryd.ok_cert_Same {t0 t1 : Value} {w : World} {K : Value → World → Prop} (h : Tryd.F_cert_Same t0 t1 w K) : oCall Tryd.prog Tryd.n_cert_Same #[t0, t1] w K :=
  calls_of_sw (cf := ⟨false, false⟩) Tryd.mixed Tryd.func16 rfl Tryd.C_cert_Same ((Tryd.E_cert_Same t0 t1 w K).mpr h)

/- 18: loanword/cert.Size -/
def Tryd.A_cert_Size : Ann := .s (.r (.op 0 .l (.op 1 .p (.nil)))) (.s (.s (.r (.op 0 .q (.op 1 .l (.op 2 .p (.nil))))) (.c (.s (.r (.op 0 .p (.nil))) (.n)) (.n))) (.s (.r (.op 0 .l (.op 1 .p (.op 2 .p (.op 3 .p (.nil)))))) (.s (.s (.r (.op 0 .p (.op 1 .q (.op 2 .p (.op 3 .p (.nil)))))) (.b (.lp [3, 19] (.s (.r (.op 0 .p (.nil))) (.s (.c (.n) (.n)) (.s (.b (.s (.r (.op 0 .p (.op 1 .q (.op 2 .l (.op 3 .l (.nil)))))) (.s (.r (.op 0 .l (.op 1 .p (.nil)))) (.b (.lp [3, 24] (.s (.r (.op 0 .p (.nil))) (.s (.c (.n) (.n)) (.s (.b (.s (.r (.op 0 .p (.op 1 .p (.nil)))) (.s (.r (.op 0 .p (.op 1 .p (.op 2 .p (.nil))))) (.s (.r (.op 0 .p (.op 1 .p (.op 2 .q (.op 3 .p (.op 4 .p (.nil))))))) (.b (.lp [3, 33] (.s (.r (.op 0 .p (.nil))) (.s (.c (.n) (.n)) (.s (.b (.s (.r (.op 0 .p (.op 1 .q (.op 2 .l (.op 3 .l (.nil)))))) (.r (.op 0 .p (.op 1 .p (.op 2 .q (.op 3 .p (.op 4 .p (.op 5 .p (.op 6 .p (.nil))))))))))) (.r (.op 0 .p (.op 1 .p (.nil))))))))))))) (.r (.op 0 .p (.op 1 .p (.nil)))))))))))) (.r (.op 0 .p (.op 1 .p (.nil)))))))))) (.s (.r (.op 0 .p (.op 1 .p (.nil)))) (.n)))))
def Tryd.F_cert_Size (t0 : Value) (w : World) (K : Value → World → Prop) : Prop :=
 opW Tryd.prog w (Instr.box 24 t0) fun t1 w1 =>
 opQ Tryd.prog w1 (Instr.loadAt 24 t1) fun t10 =>
 oCall Tryd.prog Tryd.n_cert_May #[t10] w1 fun t11 w2 =>
 opP Tryd.prog (Op.unary .not t11) fun t12 =>
 oCond t12 (K (Value.int .i64 0) w2) (oCall Tryd.prog Tryd.n_cert_mark #[] w2 fun t13 w3 =>
 opP Tryd.prog (Builtin.len_ #[9] 3 #[t13]) fun t14 =>
 opP Tryd.prog (bsem .add 3 true t14 (Value.int .i64 1)) fun t15 =>
 opP Tryd.prog (Instr.fieldAt 24 t1 0) fun t16 =>
 opQ Tryd.prog w3 (Instr.loadAt 22 t16) fun t17 =>
 opP Tryd.prog (Builtin.len_ #[22] 3 #[t17]) fun t18 =>
 sLoop [t15, (Value.int .i64 0)] w3 (fun s5 _d6 w7 K4 =>
 opP Tryd.prog (bsem .lss 3 false (s5.getD 1 undef) t18) fun t20 =>
 oCond t20 (opP Tryd.prog (Instr.indexAt 22 t17 (s5.getD 1 undef)) fun t21 =>
 opQ Tryd.prog w7 (Instr.loadAt 50 t21) fun t22 =>
 opW Tryd.prog w7 (Instr.alloc 50 true (.tuple #[])) fun t5 w8 =>
 opU Tryd.prog w8 (Instr.storeAt 50 t5 t22) fun w9 =>
 oCall Tryd.prog Tryd.n_cert_lists #[t5] w9 fun t23 w10 =>
 sLoop [(s5.getD 0 undef), (Value.int .i64 0)] w10 (fun s12 _d13 w14 K11 =>
 opP Tryd.prog (bsem .lss 3 true (s12.getD 1 undef) (Value.int .i64 3)) fun t25 =>
 oCond t25 (opP Tryd.prog (Instr.index 74 t23 (s12.getD 1 undef)) fun t26 =>
 opP Tryd.prog (bsem .add 3 true (s12.getD 0 undef) (Value.int .i64 4)) fun t28 =>
 oNil t26 fun t30 =>
 opQ Tryd.prog w14 (Instr.loadAt 48 t30) fun t31 =>
 opP Tryd.prog (Builtin.len_ #[48] 3 #[t31]) fun t32 =>
 sLoop [t28, (Value.int .i64 0)] w14 (fun s16 _d17 w18 K15 =>
 opP Tryd.prog (bsem .lss 3 false (s16.getD 1 undef) t32) fun t34 =>
 oCond t34 (opP Tryd.prog (Instr.indexAt 48 t31 (s16.getD 1 undef)) fun t35 =>
 opQ Tryd.prog w18 (Instr.loadAt 65 t35) fun t36 =>
 opW Tryd.prog w18 (Instr.alloc 65 true (.tuple #[])) fun t9 w19 =>
 opU Tryd.prog w19 (Instr.storeAt 65 t9 t36) fun w20 =>
 opP Tryd.prog (Instr.fieldAt 65 t9 0) fun t38 =>
 opQ Tryd.prog w20 (Instr.loadAt 3 t38) fun t39 =>
 opP Tryd.prog (bsem .add 3 true t39 (Value.int .i64 7)) fun t40 =>
 opP Tryd.prog (bsem .quo 3 true t40 (Value.int .i64 8)) fun t41 =>
 opP Tryd.prog (bsem .add 3 false (s16.getD 0 undef) t41) fun t42 =>
 opP Tryd.prog (bsem .add 3 true (s16.getD 1 undef) (Value.int .i64 1)) fun t43 =>
 K15 [t42, t43] w20) (opP Tryd.prog (bsem .add 3 true (s12.getD 1 undef) (Value.int .i64 1)) fun t44 =>
 K11 [(s16.getD 0 undef), t44] w18))) (opP Tryd.prog (bsem .add 3 true (s5.getD 1 undef) (Value.int .i64 1)) fun t45 =>
 K4 [(s12.getD 0 undef), t45] w14))) (K (s5.getD 0 undef) w7)))
theorem Tryd.E_cert_Size (t0 : Value) (w : World) (K : Value → World → Prop) : sw ⟨false, false⟩ Tryd.prog (fun _ _ => False) Tryd.A_cert_Size (bodyOf Tryd.f18) [t0, undef, undef, undef, undef, undef, undef, undef, undef, undef, undef, undef, undef, undef, undef, undef, undef, undef, undef, undef, undef, undef, undef, undef, undef, undef, undef, undef, undef, undef, undef, undef, undef, undef, undef, undef, undef, undef, undef, undef, undef, undef, undef, undef, undef, undef, undef] w (topQ false Tryd.prog Tryd.f18 w K) = Tryd.F_cert_Size t0 w K := by kernel_rfl
theorem Tryd.C_cert_Size : chk ⟨false, false⟩ Tryd.prog false Tryd.A_cert_Size (bodyOf Tryd.f18) = true := by kernel_rfl
theorem Tryd.ok_cert_Size {t0 : Value} {w : World} {K : Value → World → Prop} (h : Tryd.F_cert_Size t0 w K) : oCall Tryd.prog Tryd.n_cert_Size #[t0] w K :=
  calls_of_sw (cf := ⟨false, false⟩) Tryd.mixed Tryd.func18 rfl Tryd.C_cert_Size ((Tryd.E_cert_Size t0 w K).mpr h)

/- 13: loanword/cert.Bytes -/
def Tryd.A_cert_Bytes : Ann := .s (.r (.op 0 .l (.op 1 .p (.op 2 .p (.nil))))) (.s (.s (.r (.op 0 .q (.op 1 .l (.op 2 .p (.nil))))) (.c (.s (.r (.op 0 .p (.op 1 .p (.nil)))) (.n)) (.n))) (.j [4] (.r (.op 2 .p (.op 3 .q (.op 4 .p (.op 5 .p (.alt 0 .u (.alt 1 .u (.alt 6 .l (.alt 7 .l (.op 8 .u (.op 9 .l (.nil))) (.op 8 .u (.op 7 .l (.op 9 .l (.nil))))) (.op 8 .u (.op 6 .l (.op 7 .l (.op 9 .l (.nil)))))) (.alt 6 .l (.alt 1 .u (.alt 7 .l (.op 8 .u (.op 9 .l (.nil))) (.op 8 .u (.op 7 .l (.op 9 .l (.nil))))) (.op 8 .u (.op 1 .u (.op 7 .l (.op 9 .l (.nil)))))) (.op 8 .u (.alt 1 .u (.op 6 .l (.op 7 .l (.op 9 .l (.nil)))) (.op 6 .l (.op 1 .u (.op 7 .l (.op 9 .l (.nil))))))))) (.alt 6 .l (.alt 0 .u (.alt 1 .u (.alt 7 .l (.op 8 .u (.op 9 .l (.nil))) (.op 8 .u (.op 7 .l (.op 9 .l (.nil))))) (.op 8 .u (.op 1 .u (.op 7 .l (.op 9 .l (.nil)))))) (.op 8 .u (.op 0 .u (.op 1 .u (.op 7 .l (.op 9 .l (.nil))))))) (.op 8 .u (.alt 0 .u (.alt 1 .u (.op 6 .l (.op 7 .l (.op 9 .l (.nil)))) (.op 6 .l (.op 1 .u (.op 7 .l (.op 9 .l (.nil)))))) (.op 6 .l (.op 0 .u (.op 1 .u (.op 7 .l (.op 9 .l (.nil))))))))))))))) (.s (.r (.op 0 .p (.op 1 .p (.nil)))) (.s (.s (.r (.op 0 .p (.op 1 .q (.op 2 .p (.op 3 .p (.nil)))))) (.b (.lp [30] (.s (.r (.op 0 .p (.nil))) (.s (.c (.n) (.n)) (.s (.b (.s (.r (.op 0 .p (.op 1 .q (.op 2 .l (.op 3 .l (.nil)))))) (.s (.r (.op 0 .l (.op 1 .p (.nil)))) (.b (.lp [35] (.s (.r (.op 0 .p (.nil))) (.s (.c (.n) (.n)) (.s (.b (.s (.r (.op 0 .p (.op 1 .p (.nil)))) (.s (.r (.op 0 .p (.op 1 .p (.op 2 .p (.op 3 .q (.op 4 .p (.op 5 .l (.nil)))))))) (.s (.r (.op 0 .p (.nil))) (.j [10] (.s (.r (.op 0 .p (.op 1 .p (.op 2 .q (.op 3 .p (.op 4 .p (.nil))))))) (.c (.r (.op 0 .p (.op 1 .p (.op 2 .q (.op 3 .p (.op 4 .p (.op 5 .q (.op 6 .p (.nil))))))))) (.n))) (.s (.r (.op 0 .p (.op 1 .p (.op 2 .l (.nil))))) (.s (.r (.op 0 .p (.op 1 .p (.op 2 .q (.op 3 .p (.op 4 .p (.nil))))))) (.b (.lp [62] (.s (.r (.op 0 .p (.nil))) (.s (.c (.n) (.n)) (.s (.b (.s (.r (.op 0 .p (.op 1 .q (.op 2 .l (.op 3 .l (.nil)))))) (.s (.r (.op 0 .q (.op 1 .l (.op 2 .p (.op 3 .p (.op 4 .p (.op 5 .p (.op 6 .p (.nil))))))))) (.r (.op 0 .q (.op 1 .p (.op 2 .l (.op 3 .l (.nil))))))))) (.r (.op 0 .p (.op 1 .p (.nil)))))))))))))))) (.r (.op 0 .p (.op 1 .p (.nil)))))))))))) (.r (.op 0 .p (.op 1 .p (.nil)))))))))) (.s (.r (.op 0 .q (.op 1 .q (.op 2 .p (.op 3 .p (.nil)))))) (.n))))))
def Tryd.F_cert_Bytes (t0 : Value) (w : World) (K : Value → World → Prop) : Prop :=
 opW Tryd.prog w (Instr.box 24 t0) fun t1 w1 =>
 opQ Tryd.prog w1 (Instr.loadAt 24 t1) fun t15 =>
 oCall Tryd.prog Tryd.n_cert_May #[t15] w1 fun t16 w2 =>
 opP Tryd.prog (Op.unary .not t16) fun t17 =>
 oCond t17 (K (.tuple #[(Value.string { data := #[] }), (Value.int .i64 2)]) w2) (sJoin (fun K3 =>
 opP Tryd.prog (Instr.fieldAt 24 t1 0) fun t20 =>
 opQ Tryd.prog w2.drew (Instr.loadAt 22 t20) fun t21 =>
 opP Tryd.prog (Builtin.len_ #[22] 3 #[t21]) fun t22 =>
 opP Tryd.prog (convert 3 5 t22) fun t23 =>
 ((oCall Tryd.prog Tryd.n_cert_mark #[] w2.drew fun t18 w7 =>
 Ext w2.drew w7 ∧
 ((opW Tryd.prog w7 (convert 9 57 t18) fun t19 w8 =>
 Ext w7 w8 ∧
 ((opW Tryd.prog w8 (Instr.buildSlice 57 1 #[(0, t23)]) fun t24 w9 =>
 ((opW Tryd.prog w9 (Builtin.append_ #[57, 57] 57 #[t19, t24]) fun t25 w10 =>
 opW Tryd.prog w10 (Instr.alloc 57 true (.tuple #[])) fun t4 w11 =>
 Ext w10 w11 ∧
 opU Tryd.prog w11 (Instr.storeAt 57 t4 t25) fun w12 =>
 K3 [t4] w12) ∧
 (opW Tryd.prog w9 (Instr.alloc 57 true (.tuple #[])) fun t4_14 w13 =>
 Ext w9 w13 ∧
 opW Tryd.prog w13 (Builtin.append_ #[57, 57] 57 #[t19, t24]) fun t25_16 w15 =>
 opU Tryd.prog w15 (Instr.storeAt 57 t4_14 t25_16) fun w17 =>
 K3 [t4_14] w17))) ∧
 (opW Tryd.prog w8 (Instr.alloc 57 true (.tuple #[])) fun t4_19 w18 =>
 Ext w8 w18 ∧
 opW Tryd.prog w18 (Instr.buildSlice 57 1 #[(0, t23)]) fun t24_21 w20 =>
 opW Tryd.prog w20 (Builtin.append_ #[57, 57] 57 #[t19, t24_21]) fun t25_23 w22 =>
 opU Tryd.prog w22 (Instr.storeAt 57 t4_19 t25_23) fun w24 =>
 K3 [t4_19] w24))) ∧
 (((opW Tryd.prog w7 (Instr.buildSlice 57 1 #[(0, t23)]) fun t24_26 w25 =>
 ((opW Tryd.prog w25 (convert 9 57 t18) fun t19_28 w27 =>
 Ext w25 w27 ∧
 ((opW Tryd.prog w27 (Builtin.append_ #[57, 57] 57 #[t19_28, t24_26]) fun t25_30 w29 =>
 opW Tryd.prog w29 (Instr.alloc 57 true (.tuple #[])) fun t4_32 w31 =>
 Ext w29 w31 ∧
 opU Tryd.prog w31 (Instr.storeAt 57 t4_32 t25_30) fun w33 =>
 K3 [t4_32] w33) ∧
 (opW Tryd.prog w27 (Instr.alloc 57 true (.tuple #[])) fun t4_35 w34 =>
 Ext w27 w34 ∧
 opW Tryd.prog w34 (Builtin.append_ #[57, 57] 57 #[t19_28, t24_26]) fun t25_37 w36 =>
 opU Tryd.prog w36 (Instr.storeAt 57 t4_35 t25_37) fun w38 =>
 K3 [t4_35] w38))) ∧
 (opW Tryd.prog w25 (Instr.alloc 57 true (.tuple #[])) fun t4_40 w39 =>
 Ext w25 w39 ∧
 opW Tryd.prog w39 (convert 9 57 t18) fun t19_42 w41 =>
 Ext w39 w41 ∧
 opW Tryd.prog w41 (Builtin.append_ #[57, 57] 57 #[t19_42, t24_26]) fun t25_44 w43 =>
 opU Tryd.prog w43 (Instr.storeAt 57 t4_40 t25_44) fun w45 =>
 K3 [t4_40] w45))) ∧
 (opW Tryd.prog w7 (Instr.alloc 57 true (.tuple #[])) fun t4_47 w46 =>
 Ext w7 w46 ∧
 ((opW Tryd.prog w46 (convert 9 57 t18) fun t19_49 w48 =>
 Ext w46 w48 ∧
 opW Tryd.prog w48 (Instr.buildSlice 57 1 #[(0, t23)]) fun t24_51 w50 =>
 opW Tryd.prog w50 (Builtin.append_ #[57, 57] 57 #[t19_49, t24_51]) fun t25_53 w52 =>
 opU Tryd.prog w52 (Instr.storeAt 57 t4_47 t25_53) fun w54 =>
 K3 [t4_47] w54) ∧
 (opW Tryd.prog w46 (Instr.buildSlice 57 1 #[(0, t23)]) fun t24_56 w55 =>
 opW Tryd.prog w55 (convert 9 57 t18) fun t19_58 w57 =>
 Ext w55 w57 ∧
 opW Tryd.prog w57 (Builtin.append_ #[57, 57] 57 #[t19_58, t24_56]) fun t25_60 w59 =>
 opU Tryd.prog w59 (Instr.storeAt 57 t4_47 t25_60) fun w61 =>
 K3 [t4_47] w61))))))) ∧
 (((opW Tryd.prog w2.drew (Instr.buildSlice 57 1 #[(0, t23)]) fun t24_63 w62 =>
 ((oCall Tryd.prog Tryd.n_cert_mark #[] w62 fun t18_65 w64 =>
 Ext w62 w64 ∧
 ((opW Tryd.prog w64 (convert 9 57 t18_65) fun t19_67 w66 =>
 Ext w64 w66 ∧
 ((opW Tryd.prog w66 (Builtin.append_ #[57, 57] 57 #[t19_67, t24_63]) fun t25_69 w68 =>
 opW Tryd.prog w68 (Instr.alloc 57 true (.tuple #[])) fun t4_71 w70 =>
 Ext w68 w70 ∧
 opU Tryd.prog w70 (Instr.storeAt 57 t4_71 t25_69) fun w72 =>
 K3 [t4_71] w72) ∧
 (opW Tryd.prog w66 (Instr.alloc 57 true (.tuple #[])) fun t4_74 w73 =>
 Ext w66 w73 ∧
 opW Tryd.prog w73 (Builtin.append_ #[57, 57] 57 #[t19_67, t24_63]) fun t25_76 w75 =>
 opU Tryd.prog w75 (Instr.storeAt 57 t4_74 t25_76) fun w77 =>
 K3 [t4_74] w77))) ∧
 (opW Tryd.prog w64 (Instr.alloc 57 true (.tuple #[])) fun t4_79 w78 =>
 Ext w64 w78 ∧
 opW Tryd.prog w78 (convert 9 57 t18_65) fun t19_81 w80 =>
 Ext w78 w80 ∧
 opW Tryd.prog w80 (Builtin.append_ #[57, 57] 57 #[t19_81, t24_63]) fun t25_83 w82 =>
 opU Tryd.prog w82 (Instr.storeAt 57 t4_79 t25_83) fun w84 =>
 K3 [t4_79] w84))) ∧
 (opW Tryd.prog w62 (Instr.alloc 57 true (.tuple #[])) fun t4_86 w85 =>
 Ext w62 w85 ∧
 oCall Tryd.prog Tryd.n_cert_mark #[] w85 fun t18_88 w87 =>
 Ext w85 w87 ∧
 opW Tryd.prog w87 (convert 9 57 t18_88) fun t19_90 w89 =>
 Ext w87 w89 ∧
 opW Tryd.prog w89 (Builtin.append_ #[57, 57] 57 #[t19_90, t24_63]) fun t25_92 w91 =>
 opU Tryd.prog w91 (Instr.storeAt 57 t4_86 t25_92) fun w93 =>
 K3 [t4_86] w93))) ∧
 (opW Tryd.prog w2.drew (Instr.alloc 57 true (.tuple #[])) fun t4_95 w94 =>
 Ext w2.drew w94 ∧
 ((oCall Tryd.prog Tryd.n_cert_mark #[] w94 fun t18_97 w96 =>
 Ext w94 w96 ∧
 ((opW Tryd.prog w96 (convert 9 57 t18_97) fun t19_99 w98 =>
 Ext w96 w98 ∧
 opW Tryd.prog w98 (Instr.buildSlice 57 1 #[(0, t23)]) fun t24_101 w100 =>
 opW Tryd.prog w100 (Builtin.append_ #[57, 57] 57 #[t19_99, t24_101]) fun t25_103 w102 =>
 opU Tryd.prog w102 (Instr.storeAt 57 t4_95 t25_103) fun w104 =>
 K3 [t4_95] w104) ∧
 (opW Tryd.prog w96 (Instr.buildSlice 57 1 #[(0, t23)]) fun t24_106 w105 =>
 opW Tryd.prog w105 (convert 9 57 t18_97) fun t19_108 w107 =>
 Ext w105 w107 ∧
 opW Tryd.prog w107 (Builtin.append_ #[57, 57] 57 #[t19_108, t24_106]) fun t25_110 w109 =>
 opU Tryd.prog w109 (Instr.storeAt 57 t4_95 t25_110) fun w111 =>
 K3 [t4_95] w111))) ∧
 (opW Tryd.prog w94 (Instr.buildSlice 57 1 #[(0, t23)]) fun t24_113 w112 =>
 oCall Tryd.prog Tryd.n_cert_mark #[] w112 fun t18_115 w114 =>
 Ext w112 w114 ∧
 opW Tryd.prog w114 (convert 9 57 t18_115) fun t19_117 w116 =>
 Ext w114 w116 ∧
 opW Tryd.prog w116 (Builtin.append_ #[57, 57] 57 #[t19_117, t24_113]) fun t25_119 w118 =>
 opU Tryd.prog w118 (Instr.storeAt 57 t4_95 t25_119) fun w120 =>
 K3 [t4_95] w120))))))) (fun s4 _d5 w6 =>
 opP Tryd.prog (Instr.makeFunc (.func 33) #[] #[(s4.getD 0 undef)]) fun t26 =>
 opP Tryd.prog (Instr.fieldAt 24 t1 0) fun t27 =>
 opQ Tryd.prog w6 (Instr.loadAt 22 t27) fun t28 =>
 opP Tryd.prog (Builtin.len_ #[22] 3 #[t28]) fun t29 =>
 sLoop [(Value.int .i64 0)] w6 (fun s122 _d123 w124 K121 =>
 opP Tryd.prog (bsem .lss 3 false (s122.getD 0 undef) t29) fun t31 =>
 oCond t31 (opP Tryd.prog (Instr.indexAt 22 t28 (s122.getD 0 undef)) fun t32 =>
 opQ Tryd.prog w124 (Instr.loadAt 50 t32) fun t33 =>
 opW Tryd.prog w124 (Instr.alloc 50 true (.tuple #[])) fun t7 w125 =>
 opU Tryd.prog w125 (Instr.storeAt 50 t7 t33) fun w126 =>
 oCall Tryd.prog Tryd.n_cert_lists #[t7] w126 fun t34 w127 =>
 sLoop [(Value.int .i64 0)] w127 (fun s129 _d130 w131 K128 =>
 opP Tryd.prog (bsem .lss 3 true (s129.getD 0 undef) (Value.int .i64 3)) fun t36 =>
 oCond t36 (opP Tryd.prog (Instr.index 74 t34 (s129.getD 0 undef)) fun t37 =>
 oNil t37 fun t40 =>
 opQ Tryd.prog w131 (Instr.loadAt 48 t40) fun t41 =>
 opP Tryd.prog (Builtin.len_ #[48] 3 #[t41]) fun t42 =>
 oCallV Tryd.prog t26 #[t42] w131 fun _t43 w132 =>
 sJoin (fun K133 =>
 oNil t37 fun t45 =>
 opQ Tryd.prog w132 (Instr.loadAt 48 t45) fun t46 =>
 opP Tryd.prog (Builtin.len_ #[48] 3 #[t46]) fun t47 =>
 opP Tryd.prog (bsem .gtr 3 true t47 (Value.int .i64 0)) fun t48 =>
 oCond t48 (oNil t37 fun t50 =>
 opQ Tryd.prog w132 (Instr.loadAt 48 t50) fun t51 =>
 opP Tryd.prog (Instr.indexAt 48 t51 (Value.int .i64 0)) fun t52 =>
 opP Tryd.prog (Instr.fieldAt 65 t52 0) fun t53 =>
 opQ Tryd.prog w132 (Instr.loadAt 3 t53) fun t54 =>
 K133 [t54] w132) (K133 [(Value.int .i64 0)] w132)) (fun s134 _d135 w136 =>
 oCallV Tryd.prog t26 #[(s134.getD 0 undef)] w136 fun _t57 w137 =>
 oNil t37 fun t59 =>
 opQ Tryd.prog w137 (Instr.loadAt 48 t59) fun t60 =>
 opP Tryd.prog (Builtin.len_ #[48] 3 #[t60]) fun t61 =>
 sLoop [(Value.int .i64 0)] w137 (fun s139 _d140 w141 K138 =>
 opP Tryd.prog (bsem .lss 3 false (s139.getD 0 undef) t61) fun t63 =>
 oCond t63 (opP Tryd.prog (Instr.indexAt 48 t60 (s139.getD 0 undef)) fun t64 =>
 opQ Tryd.prog w141 (Instr.loadAt 65 t64) fun t65 =>
 opW Tryd.prog w141 (Instr.alloc 65 true (.tuple #[])) fun t12 w142 =>
 opU Tryd.prog w142 (Instr.storeAt 65 t12 t65) fun w143 =>
 opQ Tryd.prog w143 (Instr.loadAt 65 t12) fun t67 =>
 oCall Tryd.prog Tryd.n_bits_Bytes #[t67] w143 fun t68 w144 =>
 opP Tryd.prog (Instr.extract t68 0) fun t69 =>
 opP Tryd.prog (Instr.extract t68 1) fun _t70 =>
 opQ Tryd.prog w144 (Instr.loadAt 57 (s4.getD 0 undef)) fun t71 =>
 opW Tryd.prog w144 (Builtin.append_ #[57, 9] 57 #[t71, t69]) fun t73 w145 =>
 opU Tryd.prog w145 (Instr.storeAt 57 (s4.getD 0 undef) t73) fun w146 =>
 opP Tryd.prog (bsem .add 3 true (s139.getD 0 undef) (Value.int .i64 1)) fun t74 =>
 K138 [t74] w146) (opP Tryd.prog (bsem .add 3 true (s129.getD 0 undef) (Value.int .i64 1)) fun t75 =>
 K128 [t75] w141)))) (opP Tryd.prog (bsem .add 3 true (s122.getD 0 undef) (Value.int .i64 1)) fun t76 =>
 K121 [t76] w131))) (opQ Tryd.prog w124 (Instr.loadAt 57 (s4.getD 0 undef)) fun t77 =>
 opQ Tryd.prog w124 (convert 57 9 t77) fun t78 =>
 K (.tuple #[t78, (Value.int .i64 0)]) w124))))
theorem Tryd.E_cert_Bytes (t0 : Value) (w : World) (K : Value → World → Prop) : sw ⟨false, false⟩ Tryd.prog (fun _ _ => False) Tryd.A_cert_Bytes (bodyOf Tryd.f13) [t0, undef, undef, undef, undef, undef, undef, undef, undef, undef, undef, undef, undef, undef, undef, undef, undef, undef, undef, undef, undef, undef, undef, undef, undef, undef, undef, undef, undef, undef, undef, undef, undef, undef, undef, undef, undef, undef, undef, undef, undef, undef, undef, undef, undef, undef, undef, undef, undef, undef, undef, undef, undef, undef, undef, undef, undef, undef, undef, undef, undef, undef, undef, undef, undef, undef, undef, undef, undef, undef, undef, undef, undef, undef, undef, undef, undef, undef, undef] w (topQ false Tryd.prog Tryd.f13 w K) = Tryd.F_cert_Bytes t0 w K := by kernel_rfl
theorem Tryd.C_cert_Bytes : chk ⟨false, false⟩ Tryd.prog false Tryd.A_cert_Bytes (bodyOf Tryd.f13) = true := by kernel_rfl
theorem Tryd.ok_cert_Bytes {t0 : Value} {w : World} {K : Value → World → Prop} (h : Tryd.F_cert_Bytes t0 w K) : oCall Tryd.prog Tryd.n_cert_Bytes #[t0] w K :=
  calls_of_sw (cf := ⟨false, false⟩) Tryd.mixed Tryd.func13 rfl Tryd.C_cert_Bytes ((Tryd.E_cert_Bytes t0 w K).mpr h)

/- 33: loanword/cert.Bytes$1 -/
def Tryd.A_cert_Bytes_1 : Ann := .r (.op 0 .q (.op 1 .p (.op 2 .p (.op 3 .p (.op 4 .p (.op 5 .p (.op 6 .l (.op 7 .l (.op 8 .l (.nil))))))))))
def Tryd.F_cert_Bytes_1 (t0 : Value) (t1 : Value) (w : World) (K : Value → World → Prop) : Prop :=
 opQ Tryd.prog w (Instr.loadAt 57 t1) fun t3 =>
 opP Tryd.prog (bsem .shr 3 true t0 (Value.int .u64 8)) fun t5 =>
 opP Tryd.prog (convert 3 5 t5) fun t6 =>
 opP Tryd.prog (convert 3 5 t0) fun t8 =>
 opW Tryd.prog w (Instr.buildSlice 57 2 #[(0, t6), (1, t8)]) fun t9 w1 =>
 opW Tryd.prog w1 (Builtin.append_ #[57, 57] 57 #[t3, t9]) fun t10 w2 =>
 opU Tryd.prog w2 (Instr.storeAt 57 t1 t10) fun w3 =>
 K (.tuple #[]) w3
theorem Tryd.E_cert_Bytes_1 (t0 t1 : Value) (w : World) (K : Value → World → Prop) : sw ⟨false, false⟩ Tryd.prog (fun _ _ => False) Tryd.A_cert_Bytes_1 (bodyOf Tryd.f33) [t0, t1, undef, undef, undef, undef, undef, undef, undef, undef, undef] w (topQ false Tryd.prog Tryd.f33 w K) = Tryd.F_cert_Bytes_1 t0 t1 w K := by kernel_rfl
theorem Tryd.C_cert_Bytes_1 : chk ⟨false, false⟩ Tryd.prog false Tryd.A_cert_Bytes_1 (bodyOf Tryd.f33) = true := by kernel_rfl
theorem Tryd.ok_cert_Bytes_1 {t0 t1 : Value} {w : World} {K : Value → World → Prop} (h : Tryd.F_cert_Bytes_1 t0 t1 w K) : oCall Tryd.prog Tryd.n_cert_Bytes_1 #[t0, t1] w K :=
  calls_of_sw (cf := ⟨false, false⟩) Tryd.mixed Tryd.func33 rfl Tryd.C_cert_Bytes_1 ((Tryd.E_cert_Bytes_1 t0 t1 w K).mpr h)

/- 50: slices.Contains[[]loanword/api.CertHead,loanword/api.CertHead] -/
def Tryd.A_slices_Contains_api_CertHead_api_CertHead : Ann := .s (.r (.op 0 .l (.op 1 .p (.nil)))) (.s (.r (.op 0 .p (.op 1 .q (.op 2 .l (.op 3 .p (.op 4 .p (.nil))))))) (.n))
def Tryd.F_slices_Contains_api_CertHead_api_CertHead (t0 : Value) (t1 : Value) (w : World) (K : Value → World → Prop) : Prop :=
 opW Tryd.prog w (Instr.box 38 t1) fun t3 w1 =>
 opQ Tryd.prog w1 (Instr.loadAt 38 t3) fun t6 =>
 oCall Tryd.prog Tryd.n_slices_Index_api_CertHead_api_CertHead #[t0, t6] w1 fun t7 w2 =>
 opP Tryd.prog (bsem .geq 3 true t7 (Value.int .i64 0)) fun t8 =>
 K t8 w2
theorem Tryd.E_slices_Contains_api_CertHead_api_CertHead (t0 t1 : Value) (w : World) (K : Value → World → Prop) : sw ⟨false, false⟩ Tryd.prog (fun _ _ => False) Tryd.A_slices_Contains_api_CertHead_api_CertHead (bodyOf Tryd.f50) [t0, t1, undef, undef, undef, undef, undef, undef, undef] w (topQ false Tryd.prog Tryd.f50 w K) = Tryd.F_slices_Contains_api_CertHead_api_CertHead t0 t1 w K := by kernel_rfl
theorem Tryd.C_slices_Contains_api_CertHead_api_CertHead : chk ⟨false, false⟩ Tryd.prog false Tryd.A_slices_Contains_api_CertHead_api_CertHead (bodyOf Tryd.f50) = true := by kernel_rfl
theorem Tryd.ok_slices_Contains_api_CertHead_api_CertHead {t0 t1 : Value} {w : World} {K : Value → World → Prop} (h : Tryd.F_slices_Contains_api_CertHead_api_CertHead t0 t1 w K) : oCall Tryd.prog Tryd.n_slices_Contains_api_CertHead_api_CertHead #[t0, t1] w K :=
  calls_of_sw (cf := ⟨false, false⟩) Tryd.mixed Tryd.func50 rfl Tryd.C_slices_Contains_api_CertHead_api_CertHead ((Tryd.E_slices_Contains_api_CertHead_api_CertHead t0 t1 w K).mpr h)

/- 75: slices.Index[[]loanword/api.CertHead,loanword/api.CertHead] -/
def Tryd.A_slices_Index_api_CertHead_api_CertHead : Ann := .s (.r (.op 0 .l (.op 1 .p (.nil)))) (.s (.s (.r (.op 0 .p (.op 1 .p (.op 2 .p (.nil))))) (.b (.lp [8] (.s (.r (.op 0 .p (.nil))) (.s (.c (.n) (.n)) (.s (.b (.s (.r (.op 0 .p (.op 1 .p (.nil)))) (.s (.r (.op 0 .q (.op 1 .p (.op 2 .p (.op 3 .p (.op 4 .q (.op 5 .q (.nil)))))))) (.c (.s (.r (.op 0 .p (.op 1 .p (.nil)))) (.n)) (.n))))) (.r (.op 0 .p (.op 1 .p (.nil)))))))))) (.s (.r (.op 0 .p (.nil))) (.n)))
def Tryd.F_slices_Index_api_CertHead_api_CertHead (t0 : Value) (t1 : Value) (w : World) (K : Value → World → Prop) : Prop :=
 opW Tryd.prog w (Instr.box 38 t1) fun t3 w1 =>
 opP Tryd.prog (Builtin.len_ #[43] 3 #[t0]) fun t7 =>
 sLoop [(Value.int .i64 0)] w1 (fun s3 _d4 w5 K2 =>
 opP Tryd.prog (bsem .lss 3 false (s3.getD 0 undef) t7) fun t9 =>
 oCond t9 (opQ Tryd.prog w5.drew (Instr.loadAt 38 t3) fun t11 =>
 opP Tryd.prog (Instr.indexAt 43 t0 (s3.getD 0 undef)) fun t14 =>
 opQ Tryd.prog w5.drew (Instr.loadAt 38 t14) fun t15 =>
 opQ Tryd.prog w5.drew (bsem .eql 38 false t11 t15) fun t16 =>
 oCond t16 (K (s3.getD 0 undef) w5.drew) (opP Tryd.prog (bsem .add 3 true (s3.getD 0 undef) (Value.int .i64 1)) fun t18 =>
 K2 [t18] w5.drew)) (K (Value.int .i64 (-1)) w5))
theorem Tryd.E_slices_Index_api_CertHead_api_CertHead (t0 t1 : Value) (w : World) (K : Value → World → Prop) : sw ⟨false, false⟩ Tryd.prog (fun _ _ => False) Tryd.A_slices_Index_api_CertHead_api_CertHead (bodyOf Tryd.f75) [t0, t1, undef, undef, undef, undef, undef, undef, undef, undef, undef, undef, undef, undef, undef, undef, undef, undef, undef] w (topQ false Tryd.prog Tryd.f75 w K) = Tryd.F_slices_Index_api_CertHead_api_CertHead t0 t1 w K := by kernel_rfl
theorem Tryd.C_slices_Index_api_CertHead_api_CertHead : chk ⟨false, false⟩ Tryd.prog false Tryd.A_slices_Index_api_CertHead_api_CertHead (bodyOf Tryd.f75) = true := by kernel_rfl
theorem Tryd.ok_slices_Index_api_CertHead_api_CertHead {t0 t1 : Value} {w : World} {K : Value → World → Prop} (h : Tryd.F_slices_Index_api_CertHead_api_CertHead t0 t1 w K) : oCall Tryd.prog Tryd.n_slices_Index_api_CertHead_api_CertHead #[t0, t1] w K :=
  calls_of_sw (cf := ⟨false, false⟩) Tryd.mixed Tryd.func75 rfl Tryd.C_slices_Index_api_CertHead_api_CertHead ((Tryd.E_slices_Index_api_CertHead_api_CertHead t0 t1 w K).mpr h)

/- 65: slices.ContainsFunc[[]loanword/api.Row,loanword/api.Row] -/
def Tryd.A_slices_ContainsFunc_api_Row_api_Row : Ann := .s (.r (.op 0 .p (.nil))) (.s (.r (.op 0 .p (.op 1 .p (.op 2 .l (.op 3 .p (.op 4 .p (.nil))))))) (.n))
def Tryd.F_slices_ContainsFunc_api_Row_api_Row (t0 : Value) (t1 : Value) (w : World) (K : Value → World → Prop) : Prop :=
 oCall Tryd.prog Tryd.n_slices_IndexFunc_api_Row_api_Row #[t0, t1] w fun t7 w1 =>
 opP Tryd.prog (bsem .geq 3 true t7 (Value.int .i64 0)) fun t8 =>
 K t8 w1
theorem Tryd.E_slices_ContainsFunc_api_Row_api_Row (t0 t1 : Value) (w : World) (K : Value → World → Prop) : sw ⟨false, false⟩ Tryd.prog (fun _ _ => False) Tryd.A_slices_ContainsFunc_api_Row_api_Row (bodyOf Tryd.f65) [t0, t1, undef, undef, undef, undef, undef, undef, undef] w (topQ false Tryd.prog Tryd.f65 w K) = Tryd.F_slices_ContainsFunc_api_Row_api_Row t0 t1 w K := by kernel_rfl
theorem Tryd.C_slices_ContainsFunc_api_Row_api_Row : chk ⟨false, false⟩ Tryd.prog false Tryd.A_slices_ContainsFunc_api_Row_api_Row (bodyOf Tryd.f65) = true := by kernel_rfl
theorem Tryd.ok_slices_ContainsFunc_api_Row_api_Row {t0 t1 : Value} {w : World} {K : Value → World → Prop} (h : Tryd.F_slices_ContainsFunc_api_Row_api_Row t0 t1 w K) : oCall Tryd.prog Tryd.n_slices_ContainsFunc_api_Row_api_Row #[t0, t1] w K :=
  calls_of_sw (cf := ⟨false, false⟩) Tryd.mixed Tryd.func65 rfl Tryd.C_slices_ContainsFunc_api_Row_api_Row ((Tryd.E_slices_ContainsFunc_api_Row_api_Row t0 t1 w K).mpr h)

/- 84: slices.IndexFunc[[]loanword/api.Row,loanword/api.Row] -/
def Tryd.A_slices_IndexFunc_api_Row_api_Row : Ann := .s (.r (.op 0 .p (.nil))) (.s (.s (.r (.op 0 .p (.op 1 .p (.op 2 .p (.nil))))) (.b (.lp [8] (.s (.r (.op 0 .p (.nil))) (.s (.c (.n) (.n)) (.s (.b (.s (.r (.op 0 .p (.op 1 .p (.nil)))) (.s (.r (.op 0 .p (.op 1 .p (.op 2 .p (.op 3 .p (.op 4 .q (.op 5 .l (.nil)))))))) (.c (.s (.r (.op 0 .p (.op 1 .p (.nil)))) (.n)) (.n))))) (.r (.op 0 .p (.op 1 .p (.nil)))))))))) (.s (.r (.op 0 .p (.nil))) (.n)))
def Tryd.F_slices_IndexFunc_api_Row_api_Row (t0 : Value) (t1 : Value) (w : World) (K : Value → World → Prop) : Prop :=
 opP Tryd.prog (Builtin.len_ #[48] 3 #[t0]) fun t7 =>
 sLoop [(Value.int .i64 0)] w (fun s2 _d3 w4 K1 =>
 opP Tryd.prog (bsem .lss 3 false (s2.getD 0 undef) t7) fun t9 =>
 oCond t9 (opP Tryd.prog (Instr.indexAt 48 t0 (s2.getD 0 undef)) fun t14 =>
 opQ Tryd.prog w4 (Instr.loadAt 65 t14) fun t15 =>
 oCallV Tryd.prog t1 #[t15] w4 fun t16 w5 =>
 oCond t16 (K (s2.getD 0 undef) w5) (opP Tryd.prog (bsem .add 3 true (s2.getD 0 undef) (Value.int .i64 1)) fun t18 =>
 K1 [t18] w5)) (K (Value.int .i64 (-1)) w4))
theorem Tryd.E_slices_IndexFunc_api_Row_api_Row (t0 t1 : Value) (w : World) (K : Value → World → Prop) : sw ⟨false, false⟩ Tryd.prog (fun _ _ => False) Tryd.A_slices_IndexFunc_api_Row_api_Row (bodyOf Tryd.f84) [t0, t1, undef, undef, undef, undef, undef, undef, undef, undef, undef, undef, undef, undef, undef, undef, undef, undef, undef] w (topQ false Tryd.prog Tryd.f84 w K) = Tryd.F_slices_IndexFunc_api_Row_api_Row t0 t1 w K := by kernel_rfl
theorem Tryd.C_slices_IndexFunc_api_Row_api_Row : chk ⟨false, false⟩ Tryd.prog false Tryd.A_slices_IndexFunc_api_Row_api_Row (bodyOf Tryd.f84) = true := by kernel_rfl
theorem Tryd.ok_slices_IndexFunc_api_Row_api_Row {t0 t1 : Value} {w : World} {K : Value → World → Prop} (h : Tryd.F_slices_IndexFunc_api_Row_api_Row t0 t1 w K) : oCall Tryd.prog Tryd.n_slices_IndexFunc_api_Row_api_Row #[t0, t1] w K :=
  calls_of_sw (cf := ⟨false, false⟩) Tryd.mixed Tryd.func84 rfl Tryd.C_slices_IndexFunc_api_Row_api_Row ((Tryd.E_slices_IndexFunc_api_Row_api_Row t0 t1 w K).mpr h)

/- 53: strings.Clone -/
def Tryd.A_strings_Clone : Ann := .s (.r (.op 0 .p (.nil))) (.s (.r (.op 0 .p (.op 1 .l (.op 2 .p (.nil))))) (.n))
def Tryd.F_strings_Clone (t0 : Value) (w : World) (K : Value → World → Prop) : Prop :=
 oCall Tryd.prog Tryd.n_internal_stringslite_Clone #[t0] w fun t4 w1 =>
 K t4 w1
theorem Tryd.E_strings_Clone (t0 : Value) (w : World) (K : Value → World → Prop) : sw ⟨false, false⟩ Tryd.prog (fun _ _ => False) Tryd.A_strings_Clone (bodyOf Tryd.f53) [t0, undef, undef, undef, undef] w (topQ false Tryd.prog Tryd.f53 w K) = Tryd.F_strings_Clone t0 w K := by kernel_rfl
theorem Tryd.C_strings_Clone : chk ⟨false, false⟩ Tryd.prog false Tryd.A_strings_Clone (bodyOf Tryd.f53) = true := by kernel_rfl
theorem Tryd.ok_strings_Clone {t0 : Value} {w : World} {K : Value → World → Prop} (h : Tryd.F_strings_Clone t0 w K) : oCall Tryd.prog Tryd.n_strings_Clone #[t0] w K :=
  calls_of_sw (cf := ⟨false, false⟩) Tryd.mixed Tryd.func53 rfl Tryd.C_strings_Clone ((Tryd.E_strings_Clone t0 w K).mpr h)

/- 77: internal/stringslite.Clone -/
def Tryd.A_internal_stringslite_Clone : Ann := .s (.r (.op 0 .p (.nil))) (.s (.s (.r (.op 0 .p (.op 1 .p (.op 2 .p (.nil))))) (.c (.s (.r (.op 0 .p (.nil))) (.n)) (.n))) (.s (.r (.op 0 .p (.op 1 .p (.op 2 .l (.op 3 .p (.nil)))))) (.s (.r (.op 0 .p (.op 1 .p (.op 2 .l (.nil))))) (.s (.r (.op 0 .p (.op 1 .p (.op 2 .p (.op 3 .p (.op 4 .l (.op 5 .p (.nil)))))))) (.n)))))
def Tryd.F_internal_stringslite_Clone (t0 : Value) (w : World) (K : Value → World → Prop) : Prop :=
 opP Tryd.prog (Builtin.len_ #[9] 3 #[t0]) fun t5 =>
 opP Tryd.prog (bsem .eql 3 true t5 (Value.int .i64 0)) fun t6 =>
 oCond t6 (K (Value.string { data := #[] }) w) (opP Tryd.prog (Builtin.len_ #[9] 3 #[t0]) fun t8 =>
 opW Tryd.prog w (Instr.makeSlice 57 t8 t8) fun t9 w1 =>
 opW Tryd.prog w1 (Builtin.copy_ #[57, 9] 3 #[t9, t0]) fun _t12 w2 =>
 opP Tryd.prog (Instr.indexAt 57 t9 (Value.int .i64 0)) fun t14 =>
 opP Tryd.prog (Builtin.len_ #[57] 3 #[t9]) fun t16 =>
 opW Tryd.prog w2 (Builtin.unsafeString_ #[134, 3] 9 #[t14, t16]) fun t17 w3 =>
 K t17 w3)
theorem Tryd.E_internal_stringslite_Clone (t0 : Value) (w : World) (K : Value → World → Prop) : sw ⟨false, false⟩ Tryd.prog (fun _ _ => False) Tryd.A_internal_stringslite_Clone (bodyOf Tryd.f77) [t0, undef, undef, undef, undef, undef, undef, undef, undef, undef, undef, undef, undef, undef, undef, undef, undef, undef] w (topQ false Tryd.prog Tryd.f77 w K) = Tryd.F_internal_stringslite_Clone t0 w K := by kernel_rfl
theorem Tryd.C_internal_stringslite_Clone : chk ⟨false, false⟩ Tryd.prog false Tryd.A_internal_stringslite_Clone (bodyOf Tryd.f77) = true := by kernel_rfl
theorem Tryd.ok_internal_stringslite_Clone {t0 : Value} {w : World} {K : Value → World → Prop} (h : Tryd.F_internal_stringslite_Clone t0 w K) : oCall Tryd.prog Tryd.n_internal_stringslite_Clone #[t0] w K :=
  calls_of_sw (cf := ⟨false, false⟩) Tryd.mixed Tryd.func77 rfl Tryd.C_internal_stringslite_Clone ((Tryd.E_internal_stringslite_Clone t0 w K).mpr h)

end Go.Proofs
end

section
namespace Go.Proofs
open Go.Sh
set_option maxRecDepth 100000
/- 58: loanword/loanwordref01.May -/
def Tryd.A_ref01_May : Ann := .s (.r (.op 0 .l (.op 1 .p (.nil)))) (.s (.s (.r (.op 0 .p (.op 1 .q (.op 2 .p (.op 3 .p (.grp 7 false [(4, .p), (5, .q), (6, .p)] [10] (.op 7 .p (.op 8 .p (.grp 12 false [(9, .p), (10, .q), (11, .p), (12, .p), (13, .q), (14, .p), (15, .p), (16, .p)] [20] (.op 17 .p (.nil))))))))))) (.c (.s (.r (.op 0 .p (.nil))) (.n)) (.n))) (.s (.s (.r (.op 0 .p (.op 1 .q (.op 2 .p (.nil))))) (.b (.lp [3] (.s (.s (.r (.op 0 .p (.op 1 .p (.op 2 .q (.op 3 .p (.op 4 .p (.op 5 .p (.nil)))))))) (.c (.n) (.n))) (.s (.b (.s (.r (.op 0 .p (.op 1 .q (.op 2 .p (.op 3 .p (.op 4 .p (.op 5 .q (.op 6 .p (.op 7 .p (.op 8 .p (.op 9 .p (.op 10 .p (.nil))))))))))))) (.c (.s (.r (.op 0 .p (.nil))) (.n)) (.n)))) (.r (.op 0 .p (.op 1 .p (.op 2 .p (.nil)))))))))) (.s (.r (.op 0 .p (.nil))) (.n))))
def Tryd.F_ref01_May (t0 : Value) (w : World) (K : Value → World → Prop) : Prop :=
 opW Tryd.prog w (Instr.box 65 t0) fun t1 w1 =>
 opP Tryd.prog (Instr.fieldAt 65 t1 0) fun t4 =>
 opQ Tryd.prog w1 (Instr.loadAt 3 t4) fun t5 =>
 opP Tryd.prog (bsem .lss 3 true t5 (Value.int .i64 0)) fun t6 =>
 sJoin (fun K2 => gIf t6 false (opP Tryd.prog (Instr.fieldAt 65 t1 0) fun t8 =>
 opQ Tryd.prog w1 (Instr.loadAt 3 t8) fun t9 =>
 opP Tryd.prog (bsem .gtr 3 true t9 (Value.int .i64 1032)) fun t10 =>
 K2 [t10] w1) (K2 [undef] w1)) (fun s3 _d4 w5 =>
 oPick t6 (Value.bool true) (s3.getD 0 undef) fun t11 =>
 sJoin (fun K6 => gIf t11 false (opP Tryd.prog (Instr.fieldAt 65 t1 1) fun t13 =>
 opQ Tryd.prog w5 (Instr.loadAt 63 t13) fun t14 =>
 opP Tryd.prog (Builtin.len_ #[63] 3 #[t14]) fun t15 =>
 opP Tryd.prog (Instr.fieldAt 65 t1 0) fun t16 =>
 opQ Tryd.prog w5 (Instr.loadAt 3 t16) fun t17 =>
 opP Tryd.prog (bsem .add 3 true t17 (Value.int .i64 63)) fun t18 =>
 opP Tryd.prog (bsem .quo 3 true t18 (Value.int .i64 64)) fun t19 =>
 opP Tryd.prog (bsem .neq 3 false t15 t19) fun t20 =>
 K6 [t20] w5) (K6 [undef] w5)) (fun s7 _d8 w9 =>
 oPick t11 (Value.bool true) (s7.getD 0 undef) fun t21 =>
 oCond t21 (K (Value.bool false) w9) (opP Tryd.prog (Instr.fieldAt 65 t1 0) fun t22 =>
 opQ Tryd.prog w9 (Instr.loadAt 3 t22) fun t23 =>
 sLoop [t23] w9 (fun s11 _d12 w13 K10 =>
 opP Tryd.prog (Instr.fieldAt 65 t1 1) fun t25 =>
 opQ Tryd.prog w13 (Instr.loadAt 63 t25) fun t26 =>
 opP Tryd.prog (Builtin.len_ #[63] 3 #[t26]) fun t27 =>
 opP Tryd.prog (bsem .mul 3 true (Value.int .i64 64) t27) fun t28 =>
 opP Tryd.prog (bsem .lss 3 false (s11.getD 0 undef) t28) fun t29 =>
 oCond t29 (opP Tryd.prog (Instr.fieldAt 65 t1 1) fun t32 =>
 opQ Tryd.prog w13 (Instr.loadAt 63 t32) fun t33 =>
 opP Tryd.prog (bsem .quo 3 true (s11.getD 0 undef) (Value.int .i64 64)) fun t35 =>
 opP Tryd.prog (Instr.indexAt 63 t33 t35) fun t36 =>
 opQ Tryd.prog w13 (Instr.loadAt 108 t36) fun t37 =>
 opP Tryd.prog (bsem .rem 3 true (s11.getD 0 undef) (Value.int .i64 64)) fun t39 =>
 opP Tryd.prog (bsem .shr 108 false t37 t39) fun t40 =>
 opP Tryd.prog (bsem .and 108 true t40 (Value.int .u64 1)) fun t41 =>
 opP Tryd.prog (bsem .eql 108 true t41 (Value.int .u64 1)) fun t42 =>
 oCond t42 (K (Value.bool false) w13) (opP Tryd.prog (bsem .add 3 true (s11.getD 0 undef) (Value.int .i64 1)) fun t31 =>
 K10 [t31] w13)) (K (Value.bool true) w13)))))
theorem Tryd.E_ref01_May (t0 : Value) (w : World) (K : Value → World → Prop) : sw ⟨false, false⟩ Tryd.prog (fun _ _ => False) Tryd.A_ref01_May (bodyOf Tryd.f58) [t0, undef, undef, undef, undef, undef, undef, undef, undef, undef, undef, undef, undef, undef, undef, undef, undef, undef, undef, undef, undef, undef, undef, undef, undef, undef, undef, undef, undef, undef, undef, undef, undef, undef, undef, undef, undef, undef, undef, undef, undef, undef, undef] w (topQ false Tryd.prog Tryd.f58 w K) = Tryd.F_ref01_May t0 w K := by kernel_rfl
theorem Tryd.C_ref01_May : chk ⟨false, false⟩ Tryd.prog false Tryd.A_ref01_May (bodyOf Tryd.f58) = true := by kernel_rfl
theorem Tryd.ok_ref01_May {t0 : Value} {w : World} {K : Value → World → Prop} (h : Tryd.F_ref01_May t0 w K) : oCall Tryd.prog Tryd.n_ref01_May #[t0] w K :=
  calls_of_sw (cf := ⟨false, false⟩) Tryd.mixed Tryd.func58 rfl Tryd.C_ref01_May ((Tryd.E_ref01_May t0 w K).mpr h)

/- 68: loanword/loanwordref01.Bytes -/
def Tryd.A_ref01_Bytes : Ann := .s (.r (.op 0 .l (.op 1 .p (.nil)))) (.s (.r (.op 0 .p (.op 1 .q (.op 2 .p (.op 3 .p (.op 4 .l (.op 5 .p (.nil)))))))) (.s (.s (.r (.op 0 .p (.nil))) (.b (.lp [4] (.s (.s (.r (.op 0 .p (.op 1 .p (.op 2 .q (.op 3 .p (.nil)))))) (.c (.n) (.n))) (.j [] (.b (.s (.r (.op 0 .q (.op 1 .p (.op 2 .l (.nil))))) (.c (.r (.op 0 .p (.op 1 .p (.op 2 .p (.op 3 .p (.op 4 .p (.op 5 .p (.op 6 .p (.op 7 .q (.op 8 .p (.op 9 .p (.op 10 .p (.op 11 .p (.op 12 .p (.op 13 .l (.nil)))))))))))))))) (.n)))) (.r (.op 0 .p (.op 1 .p (.op 2 .p (.nil)))))))))) (.s (.r (.op 0 .p (.op 1 .q (.op 2 .p (.nil))))) (.n))))
def Tryd.F_ref01_Bytes (t0 : Value) (w : World) (K : Value → World → Prop) : Prop :=
 opW Tryd.prog w (Instr.box 65 t0) fun t1 w1 =>
 opP Tryd.prog (Instr.fieldAt 65 t1 0) fun t5 =>
 opQ Tryd.prog w1 (Instr.loadAt 3 t5) fun t6 =>
 opP Tryd.prog (bsem .add 3 true t6 (Value.int .i64 7)) fun t7 =>
 opP Tryd.prog (bsem .quo 3 true t7 (Value.int .i64 8)) fun t8 =>
 opW Tryd.prog w1 (Instr.makeSlice 57 t8 t8) fun t9 w2 =>
 sLoop [(Value.int .i64 0)] w2 (fun s4 _d5 w6 K3 =>
 opP Tryd.prog (Instr.fieldAt 65 t1 0) fun t11 =>
 opQ Tryd.prog w6 (Instr.loadAt 3 t11) fun t12 =>
 opP Tryd.prog (bsem .lss 3 false (s4.getD 0 undef) t12) fun t13 =>
 oCond t13 (sJoin (fun K7 =>
 opQ Tryd.prog w6 (Instr.loadAt 65 t1) fun t16 =>
 oCall Tryd.prog Tryd.n_ref01_Is #[t16, (s4.getD 0 undef)] w6 fun t18 w11 =>
 oCond t18 (opP Tryd.prog (bsem .quo 3 true (s4.getD 0 undef) (Value.int .i64 8)) fun t21 =>
 opP Tryd.prog (bsem .quo 3 true (s4.getD 0 undef) (Value.int .i64 8)) fun t24 =>
 opP Tryd.prog (Instr.indexAt 57 t9 t24) fun t25 =>
 opQ Tryd.prog w11.drew (Instr.loadAt 5 t25) fun t26 =>
 opP Tryd.prog (bsem .rem 3 true (s4.getD 0 undef) (Value.int .i64 8)) fun t28 =>
 opP Tryd.prog (bsem .shr 5 true (Value.int .u8 128) t28) fun t29 =>
 opP Tryd.prog (bsem .or 5 false t26 t29) fun t30 =>
 opP Tryd.prog (Instr.indexAt 57 t9 t21) fun t31 =>
 opU Tryd.prog w11.drew (Instr.storeAt 5 t31 t30) fun w12 =>
 K7 [] w12) (K7 [] w11)) (fun _s8 _d9 w10 =>
 opP Tryd.prog (bsem .add 3 true (s4.getD 0 undef) (Value.int .i64 1)) fun t15 =>
 K3 [t15] w10)) (opQ Tryd.prog w6 (convert 57 9 t9) fun t33 =>
 K t33 w6))
theorem Tryd.E_ref01_Bytes (t0 : Value) (w : World) (K : Value → World → Prop) : sw ⟨false, false⟩ Tryd.prog (fun _ _ => False) Tryd.A_ref01_Bytes (bodyOf Tryd.f68) [t0, undef, undef, undef, undef, undef, undef, undef, undef, undef, undef, undef, undef, undef, undef, undef, undef, undef, undef, undef, undef, undef, undef, undef, undef, undef, undef, undef, undef, undef, undef, undef, undef, undef] w (topQ false Tryd.prog Tryd.f68 w K) = Tryd.F_ref01_Bytes t0 w K := by kernel_rfl
theorem Tryd.C_ref01_Bytes : chk ⟨false, false⟩ Tryd.prog false Tryd.A_ref01_Bytes (bodyOf Tryd.f68) = true := by kernel_rfl
theorem Tryd.ok_ref01_Bytes {t0 : Value} {w : World} {K : Value → World → Prop} (h : Tryd.F_ref01_Bytes t0 w K) : oCall Tryd.prog Tryd.n_ref01_Bytes #[t0] w K :=
  calls_of_sw (cf := ⟨false, false⟩) Tryd.mixed Tryd.func68 rfl Tryd.C_ref01_Bytes ((Tryd.E_ref01_Bytes t0 w K).mpr h)

/- 85: loanword/loanwordref01.Is -/
def Tryd.A_ref01_Is : Ann := .s (.r (.op 0 .l (.op 1 .p (.nil)))) (.s (.r (.op 0 .p (.op 1 .q (.op 2 .p (.op 3 .p (.op 4 .p (.op 5 .q (.op 6 .p (.op 7 .p (.op 8 .p (.op 9 .p (.op 10 .p (.op 11 .p (.nil)))))))))))))) (.n))
def Tryd.F_ref01_Is (t0 : Value) (t1 : Value) (w : World) (K : Value → World → Prop) : Prop :=
 opW Tryd.prog w (Instr.box 65 t0) fun t2 w1 =>
 opP Tryd.prog (Instr.fieldAt 65 t2 1) fun t5 =>
 opQ Tryd.prog w1 (Instr.loadAt 63 t5) fun t6 =>
 opP Tryd.prog (bsem .quo 3 true t1 (Value.int .i64 64)) fun t8 =>
 opP Tryd.prog (Instr.indexAt 63 t6 t8) fun t9 =>
 opQ Tryd.prog w1 (Instr.loadAt 108 t9) fun t10 =>
 opP Tryd.prog (bsem .rem 3 true t1 (Value.int .i64 64)) fun t12 =>
 opP Tryd.prog (bsem .shr 108 false t10 t12) fun t13 =>
 opP Tryd.prog (bsem .and 108 true t13 (Value.int .u64 1)) fun t14 =>
 opP Tryd.prog (bsem .eql 108 true t14 (Value.int .u64 1)) fun t15 =>
 K t15 w1
theorem Tryd.E_ref01_Is (t0 t1 : Value) (w : World) (K : Value → World → Prop) : sw ⟨false, false⟩ Tryd.prog (fun _ _ => False) Tryd.A_ref01_Is (bodyOf Tryd.f85) [t0, t1, undef, undef, undef, undef, undef, undef, undef, undef, undef, undef, undef, undef, undef, undef] w (topQ false Tryd.prog Tryd.f85 w K) = Tryd.F_ref01_Is t0 t1 w K := by kernel_rfl
theorem Tryd.C_ref01_Is : chk ⟨false, false⟩ Tryd.prog false Tryd.A_ref01_Is (bodyOf Tryd.f85) = true := by kernel_rfl
theorem Tryd.ok_ref01_Is {t0 t1 : Value} {w : World} {K : Value → World → Prop} (h : Tryd.F_ref01_Is t0 t1 w K) : oCall Tryd.prog Tryd.n_ref01_Is #[t0, t1] w K :=
  calls_of_sw (cf := ⟨false, false⟩) Tryd.mixed Tryd.func85 rfl Tryd.C_ref01_Is ((Tryd.E_ref01_Is t0 t1 w K).mpr h)

/- 56: loanword/loanwordref01.None -/
def Tryd.A_ref01_None : Ann := .s (.r (.op 0 .l (.nil))) (.s (.r (.op 0 .p (.op 1 .p (.op 2 .p (.op 3 .p (.op 4 .l (.op 5 .p (.op 6 .l (.nil))))))))) (.n))
def Tryd.F_ref01_None (t0 : Value) (w : World) (K : Value → World → Prop) : Prop :=
 opW Tryd.prog w (Instr.alloc 65 true (.tuple #[])) fun t2 w1 =>
 opP Tryd.prog (bsem .add 3 true t0 (Value.int .i64 63)) fun t5 =>
 opP Tryd.prog (bsem .quo 3 true t5 (Value.int .i64 64)) fun t6 =>
 opW Tryd.prog w1 (Instr.makeSlice 63 t6 t6) fun t7 w2 =>
 opP Tryd.prog (Instr.build 65 #[(0, t0), (1, t7)]) fun t8 =>
 opU Tryd.prog w2 (Instr.storeAt 65 t2 t8) fun w3 =>
 opQ Tryd.prog w3 (cellSem 65 t2) fun r4 =>
 K r4 w3
theorem Tryd.E_ref01_None (t0 : Value) (w : World) (K : Value → World → Prop) : sw ⟨false, false⟩ Tryd.prog (fun _ _ => False) Tryd.A_ref01_None (bodyOf Tryd.f56) [t0, undef, undef, undef, undef, undef, undef, undef, undef] w (topQ false Tryd.prog Tryd.f56 w K) = Tryd.F_ref01_None t0 w K := by kernel_rfl
theorem Tryd.C_ref01_None : chk ⟨false, false⟩ Tryd.prog false Tryd.A_ref01_None (bodyOf Tryd.f56) = true := by kernel_rfl
theorem Tryd.ok_ref01_None {t0 : Value} {w : World} {K : Value → World → Prop} (h : Tryd.F_ref01_None t0 w K) : oCall Tryd.prog Tryd.n_ref01_None #[t0] w K :=
  calls_of_sw (cf := ⟨false, false⟩) Tryd.mixed Tryd.func56 rfl Tryd.C_ref01_None ((Tryd.E_ref01_None t0 w K).mpr h)

/- 79: loanword/loanwordref01.Same -/
def Tryd.A_ref01_Same : Ann := .s (.r (.op 0 .l (.op 1 .l (.op 2 .p (.nil))))) (.s (.s (.r (.op 0 .p (.op 1 .q (.op 2 .p (.op 3 .q (.op 4 .p (.op 5 .p (.grp 11 false [(6, .p), (7, .q), (8, .p), (9, .p), (10, .q), (11, .p), (12, .p)] [18] (.op 13 .p (.nil)))))))))) (.c (.s (.r (.op 0 .p (.nil))) (.n)) (.n))) (.s (.s (.r (.op 0 .p (.nil))) (.b (.lp [5] (.s (.s (.r (.op 0 .p (.op 1 .p (.op 2 .q (.op 3 .p (.op 4 .p (.nil))))))) (.c (.n) (.n))) (.s (.b (.s (.r (.op 0 .p (.op 1 .q (.op 2 .p (.op 3 .p (.op 4 .q (.op 5 .p (.op 6 .q (.op 7 .p (.op 8 .p (.op 9 .q (.op 10 .p (.nil))))))))))))) (.c (.s (.r (.op 0 .p (.nil))) (.n)) (.n)))) (.r (.op 0 .p (.op 1 .p (.op 2 .p (.nil)))))))))) (.s (.r (.op 0 .p (.nil))) (.n))))
def Tryd.F_ref01_Same (t0 : Value) (t1 : Value) (w : World) (K : Value → World → Prop) : Prop :=
 opW Tryd.prog w (Instr.box 65 t0) fun t2 w1 =>
 opW Tryd.prog w1 (Instr.box 65 t1) fun t3 w2 =>
 opP Tryd.prog (Instr.fieldAt 65 t2 0) fun t6 =>
 opQ Tryd.prog w2 (Instr.loadAt 3 t6) fun t7 =>
 opP Tryd.prog (Instr.fieldAt 65 t3 0) fun t8 =>
 opQ Tryd.prog w2 (Instr.loadAt 3 t8) fun t9 =>
 opP Tryd.prog (bsem .neq 3 false t7 t9) fun t10 =>
 sJoin (fun K3 => gIf t10 false (opP Tryd.prog (Instr.fieldAt 65 t2 1) fun t12 =>
 opQ Tryd.prog w2 (Instr.loadAt 63 t12) fun t13 =>
 opP Tryd.prog (Builtin.len_ #[63] 3 #[t13]) fun t14 =>
 opP Tryd.prog (Instr.fieldAt 65 t3 1) fun t15 =>
 opQ Tryd.prog w2 (Instr.loadAt 63 t15) fun t16 =>
 opP Tryd.prog (Builtin.len_ #[63] 3 #[t16]) fun t17 =>
 opP Tryd.prog (bsem .neq 3 false t14 t17) fun t18 =>
 K3 [t18] w2) (K3 [undef] w2)) (fun s4 _d5 w6 =>
 oPick t10 (Value.bool true) (s4.getD 0 undef) fun t19 =>
 oCond t19 (K (Value.bool false) w6) (sLoop [(Value.int .i64 0)] w6 (fun s8 _d9 w10 K7 =>
 opP Tryd.prog (Instr.fieldAt 65 t2 1) fun t21 =>
 opQ Tryd.prog w10 (Instr.loadAt 63 t21) fun t22 =>
 opP Tryd.prog (Builtin.len_ #[63] 3 #[t22]) fun t23 =>
 opP Tryd.prog (bsem .lss 3 false (s8.getD 0 undef) t23) fun t24 =>
 oCond t24 (opP Tryd.prog (Instr.fieldAt 65 t2 1) fun t27 =>
 opQ Tryd.prog w10.drew (Instr.loadAt 63 t27) fun t28 =>
 opP Tryd.prog (Instr.indexAt 63 t28 (s8.getD 0 undef)) fun t30 =>
 opQ Tryd.prog w10.drew (Instr.loadAt 108 t30) fun t31 =>
 opP Tryd.prog (Instr.fieldAt 65 t3 1) fun t32 =>
 opQ Tryd.prog w10.drew (Instr.loadAt 63 t32) fun t33 =>
 opP Tryd.prog (Instr.indexAt 63 t33 (s8.getD 0 undef)) fun t35 =>
 opQ Tryd.prog w10.drew (Instr.loadAt 108 t35) fun t36 =>
 opP Tryd.prog (bsem .neq 108 false t31 t36) fun t37 =>
 oCond t37 (K (Value.bool false) w10.drew) (opP Tryd.prog (bsem .add 3 true (s8.getD 0 undef) (Value.int .i64 1)) fun t26 =>
 K7 [t26] w10.drew)) (K (Value.bool true) w10))))
theorem Tryd.E_ref01_Same (t0 t1 : Value) (w : World) (K : Value → World → Prop) : sw ⟨false, false⟩ Tryd.prog (fun _ _ => False) Tryd.A_ref01_Same (bodyOf Tryd.f79) [t0, t1, undef, undef, undef, undef, undef, undef, undef, undef, undef, undef, undef, undef, undef, undef, undef, undef, undef, undef, undef, undef, undef, undef, undef, undef, undef, undef, undef, undef, undef, undef, undef, undef, undef, undef, undef, undef] w (topQ false Tryd.prog Tryd.f79 w K) = Tryd.F_ref01_Same t0 t1 w K := by kernel_rfl
theorem Tryd.C_ref01_Same : chk ⟨false, false⟩ Tryd.prog false Tryd.A_ref01_Same (bodyOf Tryd.f79) = true := by kernel_rfl
theorem Tryd.ok_ref01_Same {t0 t1 : Value} {w : World} {K : Value → World → Prop} (h : Tryd.F_ref01_Same t0 t1 w K) : oCall Tryd.prog Tryd.n_ref01_Same #[t0, t1] w K :=
  calls_of_sw (cf := ⟨false, false⟩) Tryd.mixed Tryd.func79 rfl Tryd.C_ref01_Same ((Tryd.E_ref01_Same t0 t1 w K).mpr h)

/- 80: loanword/loanwordref01.Own -/
def Tryd.A_ref01_Own : Ann := .s (.r (.op 0 .l (.op 1 .l (.nil)))) (.s (.r (.op 0 .p (.op 1 .q (.op 2 .p (.op 3 .l (.op 4 .l (.nil))))))) (.s (.r (.op 0 .p (.op 1 .q (.op 2 .p (.op 3 .q (.op 4 .l (.op 5 .p (.op 6 .l (.nil))))))))) (.s (.r (.op 0 .q (.op 1 .l (.nil)))) (.n))))
def Tryd.F_ref01_Own (t0 : Value) (w : World) (K : Value → World → Prop) : Prop :=
 opW Tryd.prog w (Instr.box 65 t0) fun t1 w1 =>
 opW Tryd.prog w1 (Instr.alloc 65 true (.tuple #[])) fun t2 w2 =>
 opP Tryd.prog (Instr.fieldAt 65 t1 0) fun t4 =>
 opQ Tryd.prog w2 (Instr.loadAt 3 t4) fun t5 =>
 opP Tryd.prog (Instr.build 65 #[(0, t5)]) fun t6 =>
 opW Tryd.prog w2 (Instr.alloc 65 true (.tuple #[])) fun t3 w3 =>
 opU Tryd.prog w3 (Instr.storeAt 65 t3 t6) fun w4 =>
 opP Tryd.prog (Instr.fieldAt 65 t3 1) fun t7 =>
 opQ Tryd.prog w4 (Instr.loadAt 63 t7) fun t8 =>
 opP Tryd.prog (Instr.fieldAt 65 t1 1) fun t9 =>
 opQ Tryd.prog w4 (Instr.loadAt 63 t9) fun t10 =>
 opW Tryd.prog w4 (Builtin.append_ #[63, 63] 63 #[t8, t10]) fun t11 w5 =>
 opP Tryd.prog (Instr.fieldAt 65 t3 1) fun t12 =>
 opU Tryd.prog w5 (Instr.storeAt 63 t12 t11) fun w6 =>
 opQ Tryd.prog w6 (Instr.loadAt 65 t3) fun t13 =>
 opU Tryd.prog w6 (Instr.storeAt 65 t2 t13) fun w7 =>
 opQ Tryd.prog w7 (cellSem 65 t2) fun r8 =>
 K r8 w7
theorem Tryd.E_ref01_Own (t0 : Value) (w : World) (K : Value → World → Prop) : sw ⟨false, false⟩ Tryd.prog (fun _ _ => False) Tryd.A_ref01_Own (bodyOf Tryd.f80) [t0, undef, undef, undef, undef, undef, undef, undef, undef, undef, undef, undef, undef, undef] w (topQ false Tryd.prog Tryd.f80 w K) = Tryd.F_ref01_Own t0 w K := by kernel_rfl
theorem Tryd.C_ref01_Own : chk ⟨false, false⟩ Tryd.prog false Tryd.A_ref01_Own (bodyOf Tryd.f80) = true := by kernel_rfl
theorem Tryd.ok_ref01_Own {t0 : Value} {w : World} {K : Value → World → Prop} (h : Tryd.F_ref01_Own t0 w K) : oCall Tryd.prog Tryd.n_ref01_Own #[t0] w K :=
  calls_of_sw (cf := ⟨false, false⟩) Tryd.mixed Tryd.func80 rfl Tryd.C_ref01_Own ((Tryd.E_ref01_Own t0 w K).mpr h)

/- 29: loanword/loanwordref01.Of -/
def Tryd.A_ref01_Of : Ann := .s (.r (.op 0 .l (.nil))) (.s (.r (.op 0 .p (.op 1 .l (.op 2 .l (.op 3 .l (.nil)))))) (.s (.s (.r (.op 0 .p (.nil))) (.b (.lp [6] (.s (.s (.r (.op 0 .p (.op 1 .p (.op 2 .p (.op 3 .p (.nil)))))) (.c (.n) (.n))) (.s (.b (.r (.op 0 .p (.op 1 .q (.op 2 .p (.op 3 .p (.op 4 .p (.op 5 .q (.op 6 .p (.op 7 .p (.op 8 .q (.op 9 .p (.op 10 .p (.op 11 .p (.op 12 .q (.op 13 .p (.op 14 .p (.op 15 .q (.op 16 .p (.op 17 .p (.op 18 .p (.op 19 .q (.op 20 .p (.op 21 .p (.op 22 .p (.op 23 .p (.op 24 .l (.nil)))))))))))))))))))))))))))) (.r (.op 0 .p (.op 1 .p (.op 2 .p (.nil)))))))))) (.s (.r (.op 0 .q (.op 1 .l (.nil)))) (.n))))
def Tryd.F_ref01_Of (t0 : Value) (t1 : Value) (w : World) (K : Value → World → Prop) : Prop :=
 opW Tryd.prog w (Instr.alloc 65 true (.tuple #[])) fun t4 w1 =>
 oCall Tryd.prog Tryd.n_ref01_None #[t0] w1 fun t8 w2 =>
 opW Tryd.prog w2 (Instr.alloc 65 true (.tuple #[])) fun t5 w3 =>
 opU Tryd.prog w3 (Instr.storeAt 65 t5 t8) fun w4 =>
 sLoop [(Value.int .i64 0)] w4 (fun s6 _d7 w8 K5 =>
 opP Tryd.prog (Builtin.len_ #[67] 3 #[t1]) fun t11 =>
 opP Tryd.prog (bsem .lss 3 false (s6.getD 0 undef) t11) fun t12 =>
 oCond t12 (opP Tryd.prog (Instr.fieldAt 65 t5 1) fun t15 =>
 opQ Tryd.prog w8.drew (Instr.loadAt 63 t15) fun t16 =>
 opP Tryd.prog (Instr.indexAt 67 t1 (s6.getD 0 undef)) fun t19 =>
 opQ Tryd.prog w8.drew (Instr.loadAt 3 t19) fun t20 =>
 opP Tryd.prog (bsem .quo 3 true t20 (Value.int .i64 64)) fun t21 =>
 opP Tryd.prog (Instr.fieldAt 65 t5 1) fun t22 =>
 opQ Tryd.prog w8.drew (Instr.loadAt 63 t22) fun t23 =>
 opP Tryd.prog (Instr.indexAt 67 t1 (s6.getD 0 undef)) fun t26 =>
 opQ Tryd.prog w8.drew (Instr.loadAt 3 t26) fun t27 =>
 opP Tryd.prog (bsem .quo 3 true t27 (Value.int .i64 64)) fun t28 =>
 opP Tryd.prog (Instr.indexAt 63 t23 t28) fun t29 =>
 opQ Tryd.prog w8.drew (Instr.loadAt 108 t29) fun t30 =>
 opP Tryd.prog (Instr.indexAt 67 t1 (s6.getD 0 undef)) fun t33 =>
 opQ Tryd.prog w8.drew (Instr.loadAt 3 t33) fun t34 =>
 opP Tryd.prog (bsem .rem 3 true t34 (Value.int .i64 64)) fun t35 =>
 opP Tryd.prog (bsem .shl 108 true (Value.int .u64 1) t35) fun t36 =>
 opP Tryd.prog (bsem .or 108 false t30 t36) fun t37 =>
 opP Tryd.prog (Instr.indexAt 63 t16 t21) fun t38 =>
 opU Tryd.prog w8.drew (Instr.storeAt 108 t38 t37) fun w9 =>
 opP Tryd.prog (bsem .add 3 true (s6.getD 0 undef) (Value.int .i64 1)) fun t14 =>
 K5 [t14] w9) (opQ Tryd.prog w8 (Instr.loadAt 65 t5) fun t39 =>
 opU Tryd.prog w8 (Instr.storeAt 65 t4 t39) fun w10 =>
 opQ Tryd.prog w10 (cellSem 65 t4) fun r11 =>
 K r11 w10))
theorem Tryd.E_ref01_Of (t0 t1 : Value) (w : World) (K : Value → World → Prop) : sw ⟨false, false⟩ Tryd.prog (fun _ _ => False) Tryd.A_ref01_Of (bodyOf Tryd.f29) [t0, t1, undef, undef, undef, undef, undef, undef, undef, undef, undef, undef, undef, undef, undef, undef, undef, undef, undef, undef, undef, undef, undef, undef, undef, undef, undef, undef, undef, undef, undef, undef, undef, undef, undef, undef, undef, undef, undef, undef] w (topQ false Tryd.prog Tryd.f29 w K) = Tryd.F_ref01_Of t0 t1 w K := by kernel_rfl
theorem Tryd.C_ref01_Of : chk ⟨false, false⟩ Tryd.prog false Tryd.A_ref01_Of (bodyOf Tryd.f29) = true := by kernel_rfl
theorem Tryd.ok_ref01_Of {t0 t1 : Value} {w : World} {K : Value → World → Prop} (h : Tryd.F_ref01_Of t0 t1 w K) : oCall Tryd.prog Tryd.n_ref01_Of #[t0, t1] w K :=
  calls_of_sw (cf := ⟨false, false⟩) Tryd.mixed Tryd.func29 rfl Tryd.C_ref01_Of ((Tryd.E_ref01_Of t0 t1 w K).mpr h)

/- 55: loanword/loanwordref01.SameAll -/
def Tryd.A_ref01_SameAll : Ann := .s (.r (.op 0 .p (.nil))) (.s (.s (.r (.op 0 .p (.op 1 .p (.op 2 .p (.op 3 .p (.op 4 .p (.nil))))))) (.c (.s (.r (.op 0 .p (.nil))) (.n)) (.n))) (.s (.s (.r (.op 0 .p (.nil))) (.b (.lp [5] (.s (.s (.r (.op 0 .p (.op 1 .p (.op 2 .p (.op 3 .p (.nil)))))) (.c (.n) (.n))) (.s (.b (.s (.r (.op 0 .p (.op 1 .p (.op 2 .p (.op 3 .q (.op 4 .p (.op 5 .p (.op 6 .p (.op 7 .q (.op 8 .l (.op 9 .p (.nil)))))))))))) (.c (.s (.r (.op 0 .p (.nil))) (.n)) (.n)))) (.r (.op 0 .p (.op 1 .p (.op 2 .p (.nil)))))))))) (.s (.r (.op 0 .p (.nil))) (.n))))
def Tryd.F_ref01_SameAll (t0 : Value) (t1 : Value) (w : World) (K : Value → World → Prop) : Prop :=
 opP Tryd.prog (Builtin.len_ #[48] 3 #[t0]) fun t7 =>
 opP Tryd.prog (Builtin.len_ #[48] 3 #[t1]) fun t9 =>
 opP Tryd.prog (bsem .neq 3 false t7 t9) fun t10 =>
 oCond t10 (K (Value.bool false) w) (sLoop [(Value.int .i64 0)] w (fun s2 _d3 w4 K1 =>
 opP Tryd.prog (Builtin.len_ #[48] 3 #[t0]) fun t13 =>
 opP Tryd.prog (bsem .lss 3 false (s2.getD 0 undef) t13) fun t14 =>
 oCond t14 (opP Tryd.prog (Instr.indexAt 48 t0 (s2.getD 0 undef)) fun t19 =>
 opQ Tryd.prog w4.drew (Instr.loadAt 65 t19) fun t20 =>
 opP Tryd.prog (Instr.indexAt 48 t1 (s2.getD 0 undef)) fun t23 =>
 opQ Tryd.prog w4.drew (Instr.loadAt 65 t23) fun t24 =>
 oCall Tryd.prog Tryd.n_ref01_Same #[t20, t24] w4.drew fun t25 w5 =>
 opP Tryd.prog (Op.unary .not t25) fun t26 =>
 oCond t26 (K (Value.bool false) w5) (opP Tryd.prog (bsem .add 3 true (s2.getD 0 undef) (Value.int .i64 1)) fun t16 =>
 K1 [t16] w5)) (K (Value.bool true) w4)))
theorem Tryd.E_ref01_SameAll (t0 t1 : Value) (w : World) (K : Value → World → Prop) : sw ⟨false, false⟩ Tryd.prog (fun _ _ => False) Tryd.A_ref01_SameAll (bodyOf Tryd.f55) [t0, t1, undef, undef, undef, undef, undef, undef, undef, undef, undef, undef, undef, undef, undef, undef, undef, undef, undef, undef, undef, undef, undef, undef, undef, undef, undef] w (topQ false Tryd.prog Tryd.f55 w K) = Tryd.F_ref01_SameAll t0 t1 w K := by kernel_rfl
theorem Tryd.C_ref01_SameAll : chk ⟨false, false⟩ Tryd.prog false Tryd.A_ref01_SameAll (bodyOf Tryd.f55) = true := by kernel_rfl
theorem Tryd.ok_ref01_SameAll {t0 t1 : Value} {w : World} {K : Value → World → Prop} (h : Tryd.F_ref01_SameAll t0 t1 w K) : oCall Tryd.prog Tryd.n_ref01_SameAll #[t0, t1] w K :=
  calls_of_sw (cf := ⟨false, false⟩) Tryd.mixed Tryd.func55 rfl Tryd.C_ref01_SameAll ((Tryd.E_ref01_SameAll t0 t1 w K).mpr h)

end Go.Proofs
end
