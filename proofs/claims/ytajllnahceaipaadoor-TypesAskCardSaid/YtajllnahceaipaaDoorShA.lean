/-
  Further steps of the shallow reading.
-/
import Derived.Test.YtajllnahceaipaaDoorSh9
import Derived.WalkSpells
namespace Go.Sh
open Go.RowKit
section
variable {P : Program} {w : World} {t : TypeId} {c : Bool} {K : Value → Prop}
theorem p_eqNilS {e : TypeId} {n : Nat} {p : Option Addr} {len cap l' c' : Nat} (h : slT P t = some (e, n)) (k : K (.bool p.isNone)) : opP P (bsem .eql t c (.slice p len cap) (.slice none l' c')) K := by
  refine p_of (fun w => ?_) k
  unfold slT at h
  cases hu : P.underlying t with
  | none => rw [hu] at h; cases h
  | some d =>
    rw [hu] at h
    cases d <;> first | cases h | skip
    rename_i e'
    have : (bsem .eql t c (.slice p len cap) (.slice none l' c')).run P w = (binOp .eql t (.slice p len cap) (.slice none l' c')).run P w := rfl
    rw [this]
    simp only [binOp]
    simp [Op.equal, Op.maxDepth, Lib.run_equalIn_slice_nil w 9999 t e' p len cap l' c' hu]
theorem p_neqNilS {e : TypeId} {n : Nat} {p : Option Addr} {len cap l' c' : Nat} (h : slT P t = some (e, n)) (k : K (.bool (!p.isNone))) : opP P (bsem .neq t c (.slice p len cap) (.slice none l' c')) K := by
  refine p_of (fun w => ?_) k
  unfold slT at h
  cases hu : P.underlying t with
  | none => rw [hu] at h; cases h
  | some d =>
    rw [hu] at h
    cases d <;> first | cases h | skip
    rename_i e'
    have : (bsem .neq t c (.slice p len cap) (.slice none l' c')).run P w = (binOp .neq t (.slice p len cap) (.slice none l' c')).run P w := rfl
    rw [this]; exact run_neq_slice_nil_any w t e' p len cap l' c' hu
/-- a place is no nil -/
theorem n_ptr {a : Addr} (k : K (.pointer (some a))) : oNil (.pointer (some a)) K := ⟨rfl, k⟩
/-- a closure is called -/
theorem v_func {f : FuncId} {fs args cap : Array Value} {K : Value → World → Prop} (he : enters P f = true) (h : oCall P f (fs ++ args ++ cap) w K) : oCallV P (.func (.func f) fs cap) args w K := ⟨he, h⟩
theorem v_yield {l : Nat} {fs args cap : Array Value} {K : Value → World → Prop} (h : YieldC P l (fs ++ args) w fun e w' => ∃ v, e = .returned v ∧ K v w') : oCallV P (.func (.yield l) fs cap) args w K := h
/-- a call's contract, handed on -/
theorem oCall.mono {f : FuncId} {args : Array Value} {K K' : Value → World → Prop} (h : oCall P f args w K) (hk : ∀ v w', K v w' → K' v w') : oCall P f args w K' :=
  Calls.mono h fun _ _ ⟨v, he, hv⟩ => ⟨v, he, hk v _ hv⟩
theorem YieldC.mono {l : Nat} {args : Array Value} {R R' : Ending → World → Prop} (h : YieldC P l args w R) (hr : ∀ e w', R e w' → R' e w') : YieldC P l args w R' := by
  obtain ⟨fn, t, a, b, h1, h2⟩ := h
  exact ⟨fn, t, a, b, h1, RoundIn.mono h2 hr⟩
/-- 64 bits, added -/
theorem p_add64 {x y : BitVec 64} (k : K (u64 (x + y))) : opP P (bsem .add t c (u64 x) (u64 y)) K :=
  p_of (fun w => by
    rw [bsem_int]
    have h : IntKind.u64.wrap ((x.toNat : Int) + y.toNat) = ((x + y).toNat : Int) := by
      rw [IntKind.wrap_u64, BitVec.toNat_add]
      have e : ((2 : Nat) ^ 64) = 18446744073709551616 := by decide
      rw [e]; omega
    simp only [binOp, Op.intArith, ne_eq, not_true, if_false, h]; rfl) k
theorem p_mul64 {x : BitVec 64} {n : Nat} (k : K (u64 (x * BitVec.ofNat 64 n))) : opP P (bsem .mul t c (u64 x) (.int .u64 (n : Int))) K :=
  p_of (fun w => by
    rw [bsem_int]
    have h : IntKind.u64.wrap ((x.toNat : Int) * n) = ((x * BitVec.ofNat 64 n).toNat : Int) := by
      rw [IntKind.wrap_u64, BitVec.toNat_mul, BitVec.toNat_ofNat, Nat.mul_mod_mod, Int.natCast_emod, Int.natCast_mul]
      rfl
    simp only [binOp, Op.intArith, ne_eq, not_true, if_false, h]; rfl) k
theorem p_neg64 {x : BitVec 64} (k : K (u64 (-x))) : opP P (Op.unary .neg (u64 x)) K :=
  p_of (fun w => by
    have h : IntKind.u64.wrap (0 - (x.toNat : Int)) = ((-x).toNat : Int) := by
      rw [IntKind.wrap_u64, BitVec.toNat_neg]
      have e : ((2 : Nat) ^ 64) = 18446744073709551616 := by decide
      have := x.isLt
      rw [e]; omega
    simp only [Op.unary, Op.intArith, h]; rfl) k
theorem x20 {a b : Value} (k : K a) : opP P (Instr.extract (.tuple #[a, b]) 0) K := p_ext rfl k
theorem x21 {a b : Value} (k : K b) : opP P (Instr.extract (.tuple #[a, b]) 1) K := p_ext rfl k
theorem x30 {a b c' : Value} (k : K a) : opP P (Instr.extract (.tuple #[a, b, c']) 0) K := p_ext rfl k
theorem x31 {a b c' : Value} (k : K b) : opP P (Instr.extract (.tuple #[a, b, c']) 1) K := p_ext rfl k
theorem x32 {a b c' : Value} (k : K c') : opP P (Instr.extract (.tuple #[a, b, c']) 2) K := p_ext rfl k
theorem x40 {a b c' d : Value} (k : K a) : opP P (Instr.extract (.tuple #[a, b, c', d]) 0) K := p_ext rfl k
theorem x41 {a b c' d : Value} (k : K b) : opP P (Instr.extract (.tuple #[a, b, c', d]) 1) K := p_ext rfl k
theorem x42 {a b c' d : Value} (k : K c') : opP P (Instr.extract (.tuple #[a, b, c', d]) 2) K := p_ext rfl k
theorem x43 {a b c' d : Value} (k : K d) : opP P (Instr.extract (.tuple #[a, b, c', d]) 3) K := p_ext rfl k
theorem x50 {a b c' d e : Value} (k : K a) : opP P (Instr.extract (.tuple #[a, b, c', d, e]) 0) K := p_ext rfl k
theorem x51 {a b c' d e : Value} (k : K b) : opP P (Instr.extract (.tuple #[a, b, c', d, e]) 1) K := p_ext rfl k
theorem x52 {a b c' d e : Value} (k : K c') : opP P (Instr.extract (.tuple #[a, b, c', d, e]) 2) K := p_ext rfl k
theorem x53 {a b c' d e : Value} (k : K d) : opP P (Instr.extract (.tuple #[a, b, c', d, e]) 3) K := p_ext rfl k
theorem x54 {a b c' d e : Value} (k : K e) : opP P (Instr.extract (.tuple #[a, b, c', d, e]) 4) K := p_ext rfl k
end
end Go.Sh
