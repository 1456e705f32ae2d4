/-
  Steps of the shallow reading: what each operation asks of known values, in worlds told by facts.
-/
import Derived.Test.YtajllnahceaipaaDoorSh6
import Derived.Laws.AppendOwn
import Derived.Laws.MakeOwn
import Derived.Laws.Bits64
import Derived.Laws.BitsLemmas
namespace Go.Sh
open Go.RowKit

section
variable {P : Program} {w : World} {K : Value → Prop} {t : TypeId} {c : Bool}

theorem p_of {s : Sem Value} {v : Value} (h : ∀ w, s.run P w = .ok v w) (k : K v) : opP P s K := ⟨v, h, k⟩
theorem q_of {s : Sem Value} {v : Value} (h : ∀ w', Ext w w' → s.run P w' = .ok v w') (k : K v) : opQ P w s K := ⟨v, h, k⟩

/-! ### Numbers -/
theorem bsem_int {op : BinOp} {k : IntKind} {a b : Int} {k' : IntKind} (w : World) : (bsem op t c (.int k a) (.int k' b)).run P w = (binOp op t (.int k a) (.int k' b)).run P w := by
  cases op <;> rfl
theorem bsem_str {op : BinOp} {a b : ByteArray} (w : World) : (bsem op t c (.string a) (.string b)).run P w = (binOp op t (.string a) (.string b)).run P w := by
  cases op <;> rfl
theorem wrap64_eq {n : Int} (h : -9223372036854775808 ≤ n ∧ n < 9223372036854775808) : IntKind.i64.wrap n = n := by
  rw [IntKind.wrap_i64]; omega

theorem p_add {a b : Int} (h : -9223372036854775808 ≤ a + b ∧ a + b < 9223372036854775808) (k : K (.int .i64 (a + b))) : opP P (bsem .add t c (.int .i64 a) (.int .i64 b)) K :=
  p_of (fun w => by rw [bsem_int]; simp [binOp, Op.intArith, wrap64_eq h]) k
theorem p_sub {a b : Int} (h : -9223372036854775808 ≤ a - b ∧ a - b < 9223372036854775808) (k : K (.int .i64 (a - b))) : opP P (bsem .sub t c (.int .i64 a) (.int .i64 b)) K :=
  p_of (fun w => by rw [bsem_int]; simp [binOp, Op.intArith, wrap64_eq h]) k
theorem p_mul {a b : Int} (h : -9223372036854775808 ≤ a * b ∧ a * b < 9223372036854775808) (k : K (.int .i64 (a * b))) : opP P (bsem .mul t c (.int .i64 a) (.int .i64 b)) K :=
  p_of (fun w => by rw [bsem_int]; simp [binOp, Op.intArith, wrap64_eq h]) k
theorem p_quo {a b : Int} (ha : 0 ≤ a) (ha' : a < 9223372036854775808) (hb : 0 < b) (k : K (.int .i64 (a / b))) : opP P (bsem .quo t c (.int .i64 a) (.int .i64 b)) K :=
  p_of (fun w => by
    have h1 : ¬ b = 0 := by omega
    have h2 : a.tdiv b = a / b := Int.tdiv_eq_ediv_of_nonneg ha
    have h3 : a / b ≤ a := Int.ediv_le_self b ha
    have h4 : 0 ≤ a / b := Int.ediv_nonneg ha (by omega)
    rw [bsem_int]; simp [binOp, Op.intDiv, h1, h2, wrap64_eq (n := a / b) (by omega)]) k
theorem p_rem {a b : Int} (ha : 0 ≤ a) (hb : 0 < b) (k : K (.int .i64 (a % b))) : opP P (bsem .rem t c (.int .i64 a) (.int .i64 b)) K :=
  p_of (fun w => by
    have h1 : ¬ b = 0 := by omega
    rw [bsem_int]; simp [binOp, Op.intDiv, h1, Int.tmod_eq_emod_of_nonneg ha]) k
theorem p_lss {i : IntKind} {a b : Int} (k : K (.bool (decide (a < b)))) : opP P (bsem .lss t c (.int i a) (.int i b)) K := p_of (fun w => by rw [bsem_int]; simp [binOp, Op.intCmp]) k
theorem p_leq {i : IntKind} {a b : Int} (k : K (.bool (decide (a ≤ b)))) : opP P (bsem .leq t c (.int i a) (.int i b)) K := p_of (fun w => by rw [bsem_int]; simp [binOp, Op.intCmp]) k
theorem p_gtr {i : IntKind} {a b : Int} (k : K (.bool (decide (b < a)))) : opP P (bsem .gtr t c (.int i a) (.int i b)) K := p_of (fun w => by rw [bsem_int]; simp [binOp, Op.intCmp]) k
theorem p_geq {i : IntKind} {a b : Int} (k : K (.bool (decide (b ≤ a)))) : opP P (bsem .geq t c (.int i a) (.int i b)) K := p_of (fun w => by rw [bsem_int]; simp [binOp, Op.intCmp]) k
theorem p_eql {i : IntKind} {a b : Int} (k : K (.bool (decide (a = b)))) : opP P (bsem .eql t c (.int i a) (.int i b)) K :=
  p_of (fun w => by rw [bsem_int]; simp [binOp, Op.intCmp]; rfl) k
theorem p_neq {i : IntKind} {a b : Int} (k : K (.bool (decide (a ≠ b)))) : opP P (bsem .neq t c (.int i a) (.int i b)) K :=
  p_of (fun w => by rw [bsem_int]; simp [binOp, Op.intCmp, bne]; rfl) k
theorem p_not {b : Bool} (k : K (.bool (!b))) : opP P (Op.unary .not (.bool b)) K := p_of (fun _ => rfl) k
theorem p_neg {a : Int} (h : -9223372036854775808 ≤ -a ∧ -a < 9223372036854775808) (k : K (.int .i64 (-a))) : opP P (Op.unary .neg (.int .i64 a)) K :=
  p_of (fun w => by simp [Op.unary, Op.intArith, wrap64_eq h]) k

/-! ### Words of bits -/
abbrev u64 (x : BitVec 64) : Value := .int .u64 (x.toNat : Int)
abbrev u8 (x : BitVec 8) : Value := .int .u8 (x.toNat : Int)
theorem back64 (x : BitVec 64) : IntKind.u64.wrap (x.toNat : Int) = x.toNat := by
  rw [IntKind.wrap_u64]; have := x.isLt; omega
theorem back8 (x : BitVec 8) : IntKind.u8.wrap (x.toNat : Int) = x.toNat := by
  rw [IntKind.wrap_u8]; have := x.isLt; omega
theorem of64 (x : BitVec 64) : BitVec.ofInt 64 (x.toNat : Int) = x := by
  rw [BitVec.ofInt_natCast, BitVec.ofNat_toNat]; simp
theorem of8 (x : BitVec 8) : BitVec.ofInt 8 (x.toNat : Int) = x := by
  rw [BitVec.ofInt_natCast, BitVec.ofNat_toNat]; simp

theorem sub_mod {M : Nat} (X : Nat) (n : Int) (hM : 0 < M) : ((X : Int) - n) % (M : Int) = (((M - (n % (M : Int)).toNat + X) % M : Nat) : Int) := by
  have h0 := Int.emod_nonneg n (b := (M : Int)) (by omega)
  have h1 := Int.emod_lt_of_pos n (b := (M : Int)) (by omega)
  have h2 : ((M - (n % (M : Int)).toNat + X : Nat) : Int) = (M : Int) - n % (M : Int) + X := by omega
  rw [Int.natCast_emod, h2]
  have h3 := Int.mul_ediv_add_emod n (M : Int)
  have h4 : (M : Int) - n % (M : Int) + X = ((X : Int) - n) + (M : Int) * (n / M + 1) := by
    rw [Int.mul_add]; omega
  rw [h4, Int.add_mul_emod_self_left]
theorem shl_mod {M : Nat} (m : Int) (s b : Nat) (hM : 0 < M) (hb : M = 2 ^ b) : (m * 2 ^ (min s b)) % (M : Int) = ((((m % (M : Int)).toNat * 2 ^ s) % M : Nat) : Int) := by
  have h0 := Int.emod_nonneg m (b := (M : Int)) (by omega)
  rw [Int.natCast_emod, Int.natCast_mul, Int.toNat_of_nonneg h0, Int.natCast_pow]
  have h1 : ∀ x : Int, m % (M : Int) * x % (M : Int) = m * x % (M : Int) := fun x => by rw [Int.mul_emod, Int.emod_emod, ← Int.mul_emod]
  rw [h1]
  by_cases hs : s ≤ b
  · rw [Nat.min_eq_left hs]; rfl
  · rw [Nat.min_eq_right (by omega)]
    obtain ⟨d, rfl⟩ : ∃ d, s = b + d := ⟨s - b, by omega⟩
    have e : ((2 : Nat) : Int) ^ (b + d) = (M : Int) * ((2 : Nat) : Int) ^ d := by rw [Int.pow_add, hb, Int.natCast_pow]
    have e2 : (2 : Int) ^ b = (M : Int) := by rw [hb, Int.natCast_pow]; rfl
    rw [e, e2, Int.mul_emod_left, Int.mul_comm m, Int.mul_assoc, Int.mul_emod_right]

theorem p_and64 {x : BitVec 64} {n : Int} (k : K (u64 (x &&& BitVec.ofInt 64 n))) : opP P (bsem .and t c (u64 x) (.int .u64 n)) K :=
  p_of (fun w => by rw [bsem_int]; simp only [binOp, Op.intBits]; simp only [ne_eq, not_true, if_false, IntKind.bits, of64]; rw [back64]; rfl) k
theorem p_or64 {x : BitVec 64} {n : Int} (k : K (u64 (x ||| BitVec.ofInt 64 n))) : opP P (bsem .or t c (u64 x) (.int .u64 n)) K :=
  p_of (fun w => by rw [bsem_int]; simp only [binOp, Op.intBits]; simp only [ne_eq, not_true, if_false, IntKind.bits, of64]; rw [back64]; rfl) k
theorem p_xor64 {x : BitVec 64} {n : Int} (k : K (u64 (x ^^^ BitVec.ofInt 64 n))) : opP P (bsem .xor t c (u64 x) (.int .u64 n)) K :=
  p_of (fun w => by rw [bsem_int]; simp only [binOp, Op.intBits]; simp only [ne_eq, not_true, if_false, IntKind.bits, of64]; rw [back64]; rfl) k
theorem p_andNot64 {x : BitVec 64} {n : Int} (k : K (u64 (x &&& ~~~ BitVec.ofInt 64 n))) : opP P (bsem .andNot t c (u64 x) (.int .u64 n)) K :=
  p_of (fun w => by rw [bsem_int]; simp only [binOp, Op.intBits]; simp only [ne_eq, not_true, if_false, IntKind.bits, of64]; rw [back64]; rfl) k
theorem p_not64 {x : BitVec 64} (k : K (u64 (~~~ x))) : opP P (Op.unary .xor (u64 x)) K :=
  p_of (fun w => by
    have h : BitVec.ofInt 64 (IntKind.u64.max) = BitVec.allOnes 64 := by decide
    have h3 : BitVec.allOnes 64 ^^^ x = ~~~ x := BitVec.allOnes_xor
    simp only [Op.unary, Op.intBits, IntKind.signed, IntKind.bits, Bool.false_eq_true, if_false, of64, h]
    show Result.ok (Value.int .u64 (IntKind.u64.wrap ((BitVec.allOnes 64 ^^^ x).toNat : Int))) w = _
    rw [h3, back64]) k
theorem p_sub64 {x : BitVec 64} {n : Int} (k : K (u64 (x - BitVec.ofInt 64 n))) : opP P (bsem .sub t c (u64 x) (.int .u64 n)) K :=
  p_of (fun w => by
    rw [bsem_int]
    have h : IntKind.u64.wrap ((x.toNat : Int) - n) = ((x - BitVec.ofInt 64 n).toNat : Int) := by
      have := sub_mod (M := 18446744073709551616) x.toNat n (by decide)
      rw [IntKind.wrap_u64, BitVec.toNat_sub, BitVec.toNat_ofInt]
      exact this
    simp only [binOp, Op.intArith, ne_eq, not_true, if_false, h]; rfl) k
theorem p_shr64 {x : BitVec 64} {i : IntKind} {n : Int} (h : 0 ≤ n) (k : K (u64 (x >>> n.toNat))) : opP P (bsem .shr t c (u64 x) (.int i n)) K :=
  p_of (fun w => by
    rw [bsem_int]
    have h1 : ¬ n < 0 := by omega
    have h2 : Int.fdiv (x.toNat : Int) (2 ^ (min n.toNat 64)) = ((x >>> n.toNat).toNat : Int) := by
      rw [Int.fdiv_eq_ediv_of_nonneg _ (Int.pow_nonneg (by decide)), BitVec.toNat_ushiftRight, Nat.shiftRight_eq_div_pow]
      have e : ((2 : Int) ^ (min n.toNat 64)) = ((2 ^ (min n.toNat 64) : Nat) : Int) := by simp
      rw [e]
      norm_cast
      by_cases hn : n.toNat ≤ 64
      · rw [Nat.min_eq_left hn]
      · rw [Nat.min_eq_right (by omega), Nat.div_eq_of_lt x.isLt, Nat.div_eq_of_lt]
        exact Nat.lt_of_lt_of_le x.isLt (Nat.pow_le_pow_right (by decide) (by omega))
    simp only [binOp, Op.shift, h1, if_false, IntKind.bits, h2]; rfl) k
theorem p_shl64 {m : Int} {i : IntKind} {n : Int} (h : 0 ≤ n) (k : K (u64 (BitVec.ofInt 64 m <<< n.toNat))) : opP P (bsem .shl t c (.int .u64 m) (.int i n)) K :=
  p_of (fun w => by
    rw [bsem_int]
    have h1 : ¬ n < 0 := by omega
    have h2 : IntKind.u64.wrap (m * 2 ^ (min n.toNat 64)) = ((BitVec.ofInt 64 m <<< n.toNat).toNat : Int) := by
      rw [IntKind.wrap_u64, BitVec.toNat_shiftLeft, BitVec.toNat_ofInt, Nat.shiftLeft_eq]
      exact shl_mod (M := 18446744073709551616) m n.toNat 64 (by decide) (by decide)
    simp only [binOp, Op.shift, h1, if_false, IntKind.bits, h2]; rfl) k

/-! ### The model's types, reckoned -/
def ld1 (P : Program) (t : TypeId) : Bool :=
  match P.underlying t with | some (.struct _) => false | some (.array _ _) => false | some _ => true | none => false
def ldN (P : Program) (t : TypeId) : Option Nat :=
  match P.underlying t with | some (.struct _) => (P.info? t).map (·.size) | some (.array _ _) => (P.info? t).map (·.size) | _ => none
def szT (P : Program) (t : TypeId) : Option Nat := (P.info? t).map (·.size)
def fldT (P : Program) (t : TypeId) (i : Nat) : Option Nat :=
  match P.underlying t with
  | some (.struct fs) => (fs[i]?).bind fun f => match szT P f.type with | some (_ + 1) => some f.offset | _ => none
  | _ => none
def slT (P : Program) (t : TypeId) : Option (TypeId × Nat) :=
  match P.underlying t with | some (.slice e) => (szT P e).map fun n => (e, n) | _ => none
def kdT (P : Program) (t : TypeId) : Option IntKind := match P.underlying t with | some (.int k) => some k | _ => none
def zrT (P : Program) (t : TypeId) : Option (List Value) := (P.info? t).bind fun i => i.zero.map (·.cells.toList)

theorem run_underlying' {d : TypeDesc} (h : P.underlying t = some d) (w : World) : (underlying t).run P w = .ok d w := by
  simp [underlying, program, Sem.run_bind, Sem.run, pure, Result.andThen, h]
theorem run_sizeOf' {n : Nat} (h : szT P t = some n) (w : World) : (sizeOf t).run P w = .ok n w := by
  unfold szT at h
  cases hi : P.info? t with
  | none => rw [hi] at h; cases h
  | some i =>
    rw [hi] at h; simp only [Option.map_some, Option.some.injEq] at h
    simp [sizeOf, typeInfo, program, Sem.run_bind, Sem.run, pure, Result.andThen, hi, h]

/-! ### Places -/
theorem p_field {b off n i : Nat} (h : fldT P t i = some n) (k : K (.pointer (some ⟨b, off + n, none⟩))) : opP P (Instr.fieldAt t (.pointer (some ⟨b, off, none⟩)) i) K := by
  refine p_of (fun w => ?_) k
  unfold fldT at h
  cases hu : P.underlying t with
  | none => rw [hu] at h; cases h
  | some d =>
    rw [hu] at h
    cases d <;> first | cases h | skip
    rename_i fs
    simp only at h
    cases hf : fs[i]? with
    | none => rw [hf] at h; cases h
    | some f =>
      rw [hf] at h
      simp only [Option.bind_some] at h
      cases hs : szT P f.type with
      | none => rw [hs] at h; cases h
      | some m =>
        rw [hs] at h
        cases m with
        | zero => cases h
        | succ m =>
          simp only [Option.some.injEq] at h
          subst h
          have hadd : (⟨b, off, none⟩ : Addr).add f.offset = ⟨b, off + f.offset, none⟩ := by
            unfold Addr.add; split
            · rename_i h0; rw [h0]; rfl
            · rfl
          simp [Instr.fieldAt, Sem.run_bind, run_underlying' hu, Result.andThen, hf, Instr.sureAddr, fieldPlace, run_sizeOf' hs, Sem.run, pure, hadd]
theorem p_index {b off len cap : Nat} {k : IntKind} {i : Int} {e : TypeId} {n : Nat} (h : slT P t = some (e, n)) (h0 : 0 ≤ i) (h1 : i < len)
    (hk : K (.pointer (some ⟨b, off + i.toNat * n, none⟩))) : opP P (Instr.indexAt t (.slice (some ⟨b, off, none⟩) len cap) (.int k i)) K := by
  refine p_of (fun w => ?_) hk
  unfold slT at h
  cases hu : P.underlying t with
  | none => rw [hu] at h; cases h
  | some d =>
    rw [hu] at h
    cases d <;> first | cases h | skip
    rename_i e'
    simp only [Option.map_eq_some_iff, Prod.mk.injEq] at h
    obtain ⟨m, hs, rfl, rfl⟩ := h
    have hadd : (⟨b, off, none⟩ : Addr).add (i.toNat * m) = ⟨b, off + i.toNat * m, none⟩ := by
      unfold Addr.add; split
      · rename_i h0; rw [h0]; rfl
      · rfl
    simp [Instr.indexAt, Sem.run_bind, asIntOf, run_underlying' hu, Result.andThen, Sem.run, pure, h0, h1, run_sizeOf' hs, hadd]
end
end Go.Sh
