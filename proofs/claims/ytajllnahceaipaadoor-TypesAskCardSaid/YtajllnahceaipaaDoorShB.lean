/-
  Further steps of the shallow reading: rows of a fixed length, conversions of numbers, bytes.
-/
import Derived.Test.YtajllnahceaipaaDoorShA
import Derived.Laws.IdiomStrings
import Derived.Laws.BytesArg
namespace Go.Sh
open Go.RowKit
section
variable {P : Program} {w : World} {t : TypeId} {c : Bool} {K : Value → Prop}
def arT (P : Program) (t : TypeId) : Option (Nat × TypeId × Nat) :=
  match P.underlying t with | some (.array l e) => (szT P e).map fun n => (l, e, n) | _ => none
theorem addr_add' (b off n : Nat) : (⟨b, off, none⟩ : Addr).add n = ⟨b, off + n, none⟩ := by
  unfold Addr.add; split
  · rename_i h0; rw [h0]; rfl
  · rfl
/-- a place of an array -/
theorem p_indexA {b off : Nat} {k : IntKind} {i : Int} {l : Nat} {e : TypeId} {n : Nat} (h : arT P t = some (l, e, n)) (h0 : 0 ≤ i) (h1 : i < l)
    (hk : K (.pointer (some ⟨b, off + i.toNat * n, none⟩))) : opP P (Instr.indexAt t (.pointer (some ⟨b, off, none⟩)) (.int k i)) K := by
  refine p_of (fun w => ?_) hk
  unfold arT at h
  cases hu : P.underlying t with
  | none => rw [hu] at h; cases h
  | some d =>
    rw [hu] at h
    cases d <;> first | cases h | skip
    simp only [Option.map_eq_some_iff, Prod.mk.injEq] at h
    obtain ⟨m, hs, rfl, rfl, rfl⟩ := h
    simp [Instr.indexAt, Sem.run_bind, asIntOf, run_underlying' hu, Result.andThen, Sem.run, pure, h0, h1, run_sizeOf' hs, Instr.sureAddr, addr_add']
theorem kdT_spec {k : IntKind} (h : kdT P t = some k) : P.underlying t = some (.int k) := by
  unfold kdT at h
  cases hu : P.underlying t with
  | none => rw [hu] at h; cases h
  | some d => rw [hu] at h; cases d <;> first | (cases h; rfl) | cases h
/-- a number of one kind as one of another -/
theorem p_cvt {s d : TypeId} {k1 k2 k3 : IntKind} {n : Int} (hs : kdT P s = some k1) (hd : kdT P d = some k2) (k : K (.int k2 (k2.wrap n))) : opP P (convert s d (.int k3 n)) K :=
  p_of (fun w => by
    simp [convert, Sem.run_bind, run_underlying' (kdT_spec hs), run_underlying' (kdT_spec hd), Result.andThen, Conv.intToInt, Sem.run, pure]) k
theorem p_cvt64 {s d : TypeId} {k1 k3 : IntKind} {n : Int} (hs : kdT P s = some k1) (hd : kdT P d = some .i64) (h : -9223372036854775808 ≤ n ∧ n < 9223372036854775808) (k : K (.int .i64 n)) :
    opP P (convert s d (.int k3 n)) K := p_cvt hs hd (by rw [wrap64_eq h]; exact k)
theorem p_mask {x : Int} {m e : Nat} (he : m = 2 ^ e - 1) (hm : m < 2 ^ 64) (h0 : 0 ≤ x) (h1 : x < 9223372036854775808) (k : K (.int .i64 (x % ((2 ^ e : Nat) : Int)))) : opP P (bsem .and t c (.int .i64 x) (.int .i64 (m : Int))) K :=
  p_of (fun w => by
    rw [bsem_int]; simp only [binOp, Op.intBits, ne_eq, not_true, if_false, IntKind.bits]
    have ex : (BitVec.ofInt 64 x).toNat = x.toNat := by
      rw [BitVec.toNat_ofInt]
      have : (2 ^ 64 : Nat) = 18446744073709551616 := by decide
      omega
    have em : (BitVec.ofInt 64 (m : Int)).toNat = m := by
      rw [BitVec.toNat_ofInt]
      omega
    have ev : IntKind.i64.wrap (((BitVec.ofInt 64 x &&& BitVec.ofInt 64 (m : Int)).toNat : Nat) : Int) = x % ((2 ^ e : Nat) : Int) := by
      rw [BitVec.toNat_and, ex, em, he, Nat.and_two_pow_sub_one_eq_mod]
      have h2 : x.toNat % 2 ^ e ≤ x.toNat := Nat.mod_le _ _
      rw [wrap64_eq (by omega), Int.natCast_emod, Int.toNat_of_nonneg h0]
    show Result.ok (Value.int .i64 (IntKind.i64.wrap (((BitVec.ofInt 64 x &&& BitVec.ofInt 64 (m : Int)).toNat : Nat) : Int))) w = _
    rw [ev]) k

theorem p_shrN {x : BitVec 64} {i : IntKind} (n : Nat) {m : Int} (h : m = (n : Int)) (k : K (u64 (x >>> n))) : opP P (bsem .shr t c (u64 x) (.int i m)) K := by
  subst h; exact p_shr64 (by omega) (by rw [Int.toNat_natCast]; exact k)
theorem p_mulN {x : BitVec 64} (n : Nat) {m : Int} (h : m = (n : Int)) (k : K (u64 (x * BitVec.ofNat 64 n))) : opP P (bsem .mul t c (u64 x) (.int .u64 m)) K := by
  subst h; exact p_mul64 k
/-! ### Bytes -/
theorem u8_one (x : BitVec 8) : (u8 x).oneCell' = true := rfl
theorem p_and8 {x : BitVec 8} {n : Int} (k : K (u8 (x &&& BitVec.ofInt 8 n))) : opP P (bsem .and t c (u8 x) (.int .u8 n)) K :=
  p_of (fun w => by
    rw [bsem_int]; simp only [binOp, Op.intBits]; simp only [ne_eq, not_true, if_false, IntKind.bits, of8]; rw [back8]; rfl) k
theorem p_or8 {x : BitVec 8} {n : Int} (k : K (u8 (x ||| BitVec.ofInt 8 n))) : opP P (bsem .or t c (u8 x) (.int .u8 n)) K :=
  p_of (fun w => by
    rw [bsem_int]; simp only [binOp, Op.intBits]; simp only [ne_eq, not_true, if_false, IntKind.bits, of8]; rw [back8]; rfl) k
theorem p_and88 {x y : BitVec 8} (k : K (u8 (x &&& y))) : opP P (bsem .and t c (u8 x) (u8 y)) K := p_and8 (by rw [of8]; exact k)
theorem p_or88 {x y : BitVec 8} (k : K (u8 (x ||| y))) : opP P (bsem .or t c (u8 x) (u8 y)) K := p_or8 (by rw [of8]; exact k)
theorem p_shr8 {x : BitVec 8} {i : IntKind} {n : Int} (h : 0 ≤ n) (k : K (u8 (x >>> n.toNat))) : opP P (bsem .shr t c (u8 x) (.int i n)) K :=
  p_of (fun w => by
    rw [bsem_int]
    have h1 : ¬ n < 0 := by omega
    have h2 : Int.fdiv (x.toNat : Int) (2 ^ (min n.toNat 8)) = ((x >>> n.toNat).toNat : Int) := by
      rw [Int.fdiv_eq_ediv_of_nonneg _ (Int.pow_nonneg (by decide)), BitVec.toNat_ushiftRight, Nat.shiftRight_eq_div_pow]
      have e : ((2 : Int) ^ (min n.toNat 8)) = ((2 ^ (min n.toNat 8) : Nat) : Int) := by simp
      rw [e]
      norm_cast
      by_cases hn : n.toNat ≤ 8
      · rw [Nat.min_eq_left hn]
      · rw [Nat.min_eq_right (by omega), Nat.div_eq_of_lt x.isLt, Nat.div_eq_of_lt]
        exact Nat.lt_of_lt_of_le x.isLt (Nat.pow_le_pow_right (by decide) (by omega))
    simp only [binOp, Op.shift, h1, if_false, IntKind.bits, h2]; rfl) k
/-- 128>>n -/
theorem p_bit8 {i : IntKind} {n : Int} (h : 0 ≤ n) (k : K (u8 (128#8 >>> n.toNat))) : opP P (bsem .shr t c (.int .u8 128) (.int i n)) K := p_shr8 (x := 128#8) h k
theorem p_byteB {s : ByteArray} {kd : IntKind} {i : Int} (h : strT P t = true) (h0 : 0 ≤ i) (h1 : i.toNat < s.size) (k : K (u8 s[i.toNat].toBitVec)) : opP P (Instr.index t (.string s) (.int kd i)) K :=
  p_byte h h0 h1 k
def bytT (P : Program) (t : TypeId) : Bool := match P.underlying t with
  | some (.slice e) => (match P.underlying e with | some (.int .u8) => true | _ => false)
  | _ => false
theorem bytT_spec (h : bytT P t = true) : ∃ e, P.underlying t = some (.slice e) ∧ P.underlying e = some (.int .u8) := by
  unfold bytT at h
  cases hu : P.underlying t with
  | none => rw [hu] at h; cases h
  | some d =>
    rw [hu] at h
    cases d <;> first | cases h | skip
    rename_i e
    refine ⟨e, rfl, ?_⟩
    simp only at h
    split at h
    · assumption
    · cases h
/-- bytes in memory as a string -/
theorem q_str {s d : TypeId} {b off cap : Nat} {l : List UInt8} (hs : bytT P s = true) (hd : strT P d = true) (hc : Sl w (some ⟨b, off, none⟩) (l.map fun x => u8 x.toBitVec))
    (k : K (.string ⟨l.toArray⟩)) : opQ P w (convert s d (.slice (some ⟨b, off, none⟩) l.length cap)) K := by
  obtain ⟨e, h1, h2⟩ := bytT_spec hs
  refine q_of (fun w' e' => ?_) k
  refine run_convert_bytes_back w' s d e ⟨b, off, none⟩ cap l h1 h2 (strT_spec hd) fun j hj => ?_
  have hj' : j < (l.map fun x => u8 x.toBitVec).length := by simpa using hj
  obtain ⟨b', o', hb', hc'⟩ := hc.at hj'
  cases hb'
  rw [addr_add', cell_ext hc' e']
  simp only [List.getElem_map]
  rfl
end
end Go.Sh
