/-
  Further steps of the shallow reading: strings and function values compared.
-/
import Derived.Test.YtajllnahceaipaaDoorShC
namespace Go.Sh
open Go.RowKit
section
variable {P : Program} {w : World} {t : TypeId} {c : Bool} {K : Value → Prop}
theorem p_eqlSame {a b : ByteArray} (h : a = b) (k : K (.bool true)) : opP P (bsem .eql t c (.string a) (.string b)) K :=
  p_of (fun w => by subst h; rw [bsem_str]; simp [binOp, Op.stringOp]) k
theorem p_neqSame {a b : ByteArray} (h : a = b) (k : K (.bool false)) : opP P (bsem .neq t c (.string a) (.string b)) K :=
  p_of (fun w => by subst h; rw [bsem_str]; simp [binOp, Op.stringOp]) k
def fnT (P : Program) (t : TypeId) : Bool := match P.underlying t with | some (.func _ _ _) => true | _ => false
theorem fnT_spec (h : fnT P t = true) : ∃ a b d, P.underlying t = some (.func a b d) := by
  unfold fnT at h
  cases hu : P.underlying t with
  | none => rw [hu] at h; cases h
  | some d => rw [hu] at h; cases d <;> first | exact ⟨_, _, _, rfl⟩ | cases h
theorem run_eqIn_fn (h : fnT P t = true) {fn : Fn} {f cap : Array Value} (d : Nat) (w : World) : (Op.equalIn (d + 1) t (.func fn f cap) .nilFunc).run P w = .ok false w := by
  obtain ⟨a, b, d, hu⟩ := fnT_spec h
  simp [Op.equalIn, run_underlying hu]
theorem run_eq_fn (h : fnT P t = true) {fn : Fn} {f cap : Array Value} (w : World) : (Op.equal t (.func fn f cap) .nilFunc).run P w = .ok false w := run_eqIn_fn h 9999 w
theorem run_eqIn_b (h : P.underlying t = some .bool) (a b : Bool) (d : Nat) (w : World) : (Op.equalIn (d + 1) t (.bool a) (.bool b)).run P w = .ok (a == b) w := by
  simp [Op.equalIn, run_underlying h]
theorem run_eq_b (h : P.underlying t = some .bool) (a b : Bool) (w : World) : (Op.equal t (.bool a) (.bool b)).run P w = .ok (a == b) w := run_eqIn_b h a b 9999 w
theorem p_eqlFn {fn : Fn} {f cap : Array Value} (h : fnT P t = true) (k : K (.bool false)) : opP P (bsem .eql t c (.func fn f cap) .nilFunc) K :=
  p_of (fun w => by
    show (binOp .eql t (.func fn f cap) .nilFunc).run P w = _
    simp [binOp, run_eq_fn h]) k
theorem p_neqFn {fn : Fn} {f cap : Array Value} (h : fnT P t = true) (k : K (.bool true)) : opP P (bsem .neq t c (.func fn f cap) .nilFunc) K :=
  p_of (fun w => by
    show (binOp .neq t (.func fn f cap) .nilFunc).run P w = _
    simp [binOp, run_eq_fn h]) k
def kdB (P : Program) (t : TypeId) : Bool := match P.underlying t with | some .bool => true | _ => false
theorem kdB_spec (h : kdB P t = true) : P.underlying t = some .bool := by
  unfold kdB at h
  cases hu : P.underlying t with
  | none => rw [hu] at h; cases h
  | some d => rw [hu] at h; cases d <;> first | rfl | cases h
theorem q_of_p {s : Sem Value} (h : opP P s K) : opQ P w s K := by
  obtain ⟨v, h1, h2⟩ := h; exact ⟨v, fun w' _ => h1 w', h2⟩
theorem p_eqlB {a b : Bool} (h : kdB P t = true) (k : K (.bool (a == b))) : opP P (bsem .eql t c (.bool a) (.bool b)) K :=
  p_of (fun w => by
    show (binOp .eql t (.bool a) (.bool b)).run P w = _
    simp [binOp, run_eq_b (kdB_spec h)]) k
theorem p_neqB {a b : Bool} (h : kdB P t = true) (k : K (.bool (!(a == b)))) : opP P (bsem .neq t c (.bool a) (.bool b)) K :=
  p_of (fun w => by
    show (binOp .neq t (.bool a) (.bool b)).run P w = _
    simp [binOp, run_eq_b (kdB_spec h)]) k
end
end Go.Sh
