/-
  Strings as lists of bytes; interface values; structs compared.
-/
import Derived.Test.YtajllnahceaipaaDoorShL
import Derived.Laws.StructEq
import Derived.Laws.Concat
import Derived.WideLaws
namespace Go.Sh
open Go.RowKit
/-- a string's bytes -/
abbrev bs (l : List UInt8) : ByteArray := ⟨l.toArray⟩
theorem bs_size (l : List UInt8) : (bs l).size = l.length := by simp [ByteArray.size]
theorem bs_toList (l : List UInt8) : (bs l).toList = l := by rw [ByteArray.toList_eq]
theorem bs_of (x : ByteArray) : x = bs x.data.toList := rfl
theorem bs_append (l m : List UInt8) : bs l ++ bs m = bs (l ++ m) := ByteArray.mk_append_mk l m
theorem bs_extract (l : List UInt8) (a b : Nat) : (bs l).extract a b = bs ((l.take b).drop a) := by
  apply ByteArray.ext
  rw [ByteArray.data_extract]
  apply Array.toList_inj.1
  simp [List.extract_eq_take_drop, List.drop_take]
section
variable {P : Program} {t ty : TypeId} {c : Bool} {l m : List UInt8} {a b : Int} {i j : IntKind}
theorem run_bsem {op : BinOp} {x y : Value} (h : (match op, x, y with | .eql, .nilIface, .nilIface => c = true | .neq, .nilIface, .nilIface => c = true | .eql, .agg _, .agg _ => P.eqGuardType P.depth t = false | .neq, .agg _, .agg _ => P.eqGuardType P.depth t = false | _, _, _ => True)) (w : World) :
    (bsem op t c x y).run P w = (binOp op t x y).run P w := by
  have hg : (eqG op t c x y).run P w = .ok () w := by
    unfold eqG
    cases op <;> first | rfl | (cases x <;> first | rfl | (cases y <;> first | rfl | (subst h; rfl) | (simp only at h; simp [run_program, h])))
  rw [bsem, Sem.run_bind, hg]; rfl
instance : PCond P (bsem .add t c (.string (bs l)) (.string (bs m))) (.string (bs (l ++ m))) (l.length + m.length ≤ 9223372036854775807) := .of fun h _ k =>
  p_of (fun w => by
    rw [run_bsem trivial, binOp_string_add, run_string_add_sum w _ _ (by rw [bs_size, bs_size]; exact h), bs_append]) k
instance : PStep P (bsem .eql t c (.string (bs l)) (.string (bs m))) (.bool (l == m)) := .of fun _ k =>
  p_of (fun w => by rw [run_bsem trivial, binOp_string_eql, bs_toList, bs_toList]; rfl) k
instance : PStep P (bsem .neq t c (.string (bs l)) (.string (bs m))) (.bool (!(l == m))) := .of fun _ k =>
  p_of (fun w => by rw [run_bsem trivial, binOp_string_neq, bs_toList, bs_toList]; rfl) k
instance [h : StrT P t] : PStep P (Builtin.len_ #[t] ty #[.string (bs l)]) (.int .i64 l.length) := .of fun _ k => p_lenStr h.h (by rw [bs_size]; exact k)
/-- the byte at a place -/
def byteAt (l : List UInt8) (n : Nat) : Int := (l.getD n 0).toNat
theorem byteAt_lt (l : List UInt8) (n : Nat) : 0 ≤ byteAt l n ∧ byteAt l n < 256 := ⟨Int.natCast_nonneg _, by have := (l.getD n 0).toNat_lt; unfold byteAt; omega⟩
instance [h : StrT P t] : PCond P (Instr.index t (.string (bs l)) (.int i a)) (.int .u8 (byteAt l a.toNat)) (0 ≤ a ∧ a < l.length) := .of fun x _ k =>
  p_byte h.h x.1 (by rw [bs_size]; omega) (by
    have e : ((bs l)[a.toNat]'(by rw [bs_size]; omega)) = l.getD a.toNat 0 := by
      rw [List.getD_eq_getElem?_getD, List.getElem?_eq_getElem (by omega)]; rfl
    rw [e]; exact k)
instance [h : StrT P t] : PCond P (Instr.sliceAt t (.string (bs l)) (some (.int i a)) none none) (.string (bs (l.drop a.toNat))) (0 ≤ a ∧ a ≤ l.length) := .of fun x _ k =>
  p_strLo h.h x.1 (by rw [bs_size]; exact x.2) (by rw [bs_size, bs_extract, List.take_length]; exact k)
instance [h : StrT P t] : PCond P (Instr.sliceAt t (.string (bs l)) none (some (.int i a)) none) (.string (bs (l.take a.toNat))) (0 ≤ a ∧ a ≤ l.length) := .of fun x _ k =>
  p_strHi h.h x.1 (by rw [bs_size]; exact x.2) (by rw [bs_extract, List.drop_zero]; exact k)
theorem p_strLoHi {s : ByteArray} {K : Value → Prop} (h : strT P t = true) (h0 : 0 ≤ a) (h1 : a ≤ b) (h2 : b ≤ s.size) (k : K (.string (s.extract a.toNat b.toNat))) : opP P (Instr.sliceAt t (.string s) (some (.int i a)) (some (.int j b)) none) K :=
  p_of (fun w => by
    have h3 : 0 ≤ b := by omega
    have h5 : a ≤ max b 0 := by omega
    simp [Instr.sliceAt, Instr.slice, Instr.sliceBounds, Instr.sliceBound, asIntOf, Sem.run_bind, run_underlying' (strT_spec h), Result.andThen, Sem.run, pure, h0, h2, h3, h5]) k
instance [h : StrT P t] : PCond P (Instr.sliceAt t (.string (bs l)) (some (.int i a)) (some (.int j b)) none) (.string (bs ((l.take b.toNat).drop a.toNat))) (0 ≤ a ∧ a ≤ b ∧ b ≤ l.length) := .of fun x _ k =>
  p_strLoHi h.h x.1 x.2.1 (by rw [bs_size]; exact x.2.2) (by rw [bs_extract]; exact k)
/-! ### Interface values -/
def nifT (P : Program) (t : TypeId) : Bool := match P.underlying t with | some (.interface _) => false | some _ => true | none => false
class NIf (P : Program) (t : TypeId) : Prop where
  h : nifT P t = true
class IfT (P : Program) (t : TypeId) : Prop where
  h : P.underlying t = some (.interface (P.methodsAt t))
theorem nifT_spec (h : nifT P t = true) : ∃ d, P.underlying t = some d ∧ ∀ m, d ≠ .interface m := by
  unfold nifT at h
  cases hu : P.underlying t with
  | none => rw [hu] at h; cases h
  | some d => rw [hu] at h; exact ⟨d, rfl, fun m hm => by subst hm; cases h⟩
instance {v : Value} [h : NIf P t] : PStep P (Instr.makeInterface t v) (.iface t v) := .of fun _ k => p_of (fun w => by
  obtain ⟨d, hd, hn⟩ := nifT_spec h.h
  rw [Instr.makeInterface, Sem.run_bind, run_underlying' hd]
  cases d <;> first | rfl | exact absurd rfl (hn _)) k
instance {v : Value} {s : TypeId} [h : NIf P t] : PStep P (Instr.typeAssert (.iface t v) s t true) (.tuple #[v, .bool true]) := .of fun _ k => p_of (fun w => by
  obtain ⟨d, hd, hn⟩ := nifT_spec h.h
  rw [Instr.typeAssert, Sem.run_bind, run_underlying' hd]
  cases d <;> first | exact absurd rfl (hn _) | simp [Result.andThen, pure]) k
instance {v : Value} {s : TypeId} [h : IfT P t] : PStep P (bsem .eql t c (.iface s v) .nilIface) (.bool false) := .of fun _ k => p_of (fun w => by
  rw [run_bsem trivial]; simp only [binOp]; simp [run_equal_held_nil w t s v h.h]) k
instance [h : IfT P t] : PStep P (bsem .eql t true .nilIface .nilIface) (.bool true) := .of fun _ k => p_of (fun w => by
  rw [run_bsem rfl]; simp only [binOp]; simp [run_equal_nil_nil w t h.h]) k
theorem run_panic {v : Value} {w : World} : (Instr.panic (.iface t v)).run P w = .halt (.panic (.iface t v)) w := rfl
/-! ### Structs of two numbers, compared -/
def eq2T (P : Program) (t : TypeId) : Bool :=
  !P.stoodInHeld t && !P.eqGuardType P.depth t && (match P.underlying t with
  | some (.struct fs) => (match fs.toList with
    | [f, g] => f.name != "_" && g.name != "_" && Nat.beq f.offset 0 && Nat.beq g.offset 1 && (match P.underlying f.type with | some (.int _) => true | _ => false) && (match P.underlying g.type with | some (.int _) => true | _ => false)
    | _ => false)
  | _ => false)
class Eq2 (P : Program) (t : TypeId) : Prop where
  h : eq2T P t = true
theorem run_part {x : Value} {k : Nat} {kd : IntKind} {cs : Array Value} (h : P.underlying t = some (.int kd)) (hc : cs[k]? = some x) (w : World) : (part t cs k).run P w = .ok x w := by
  simp [part, isAgg, Sem.run_bind, run_underlying' h, Result.andThen, Sem.run, pure, hc]
theorem run_eq2 {a b a' b' : Int} (h : eq2T P t = true) (w : World) : (Op.equalIn 10000 t (.agg #[.int i a, .int j b]) (.agg #[.int i a', .int j b'])).run P w = .ok (decide (a = a') && decide (b = b')) w := by
  unfold eq2T at h
  simp only [Bool.and_eq_true, Bool.not_eq_true'] at h
  obtain ⟨⟨h1, h2⟩, h3⟩ := h
  cases hu : P.underlying t with
  | none => rw [hu] at h3; cases h3
  | some d =>
    rw [hu] at h3
    cases d <;> first | (cases h3; done) | skip
    rename_i fs
    have hf : P.fieldsOf t = fs := by rw [Program.fieldsOf, hu]
    rw [run_equalIn_struct w 9999 t _ _ (by rw [hf]; exact hu) h1, hf]
    simp only at h3
    split at h3
    · rename_i f g hl
      rw [hl]
      simp only [Bool.and_eq_true, bne_iff_ne, ne_eq] at h3
      obtain ⟨⟨⟨⟨⟨n1, n2⟩, o1⟩, o2⟩, t1⟩, t2⟩ := h3
      have o1 := Nat.eq_of_beq_eq_true o1
      have o2 := Nat.eq_of_beq_eq_true o2
      have s1 : ∃ k, P.underlying f.type = some (.int k) := by
        revert t1; cases P.underlying f.type with
        | none => intro h; cases h
        | some d => cases d <;> first | (intro h; cases h; done) | (intro _; exact ⟨_, rfl⟩)
      have s2 : ∃ k, P.underlying g.type = some (.int k) := by
        revert t2; cases P.underlying g.type with
        | none => intro h; cases h
        | some d => cases d <;> first | (intro h; cases h; done) | (intro _; exact ⟨_, rfl⟩)
      obtain ⟨k1, s1⟩ := s1
      obtain ⟨k2, s2⟩ := s2
      simp only [Op.eqFields, n1, n2, ne_eq, not_false_eq_true, if_true, Sem.run_bind, o1, o2]
      rw [run_part s1 (x := .int i a) rfl, Result.andThen_ok, run_part s1 (x := .int i a') rfl, Result.andThen_ok, run_equalIn_int w 9998 _ i k1 _ _ s1, Result.andThen_ok]
      by_cases ha : a = a'
      · subst ha
        simp only [beq_self_eq_true, Bool.not_true, Bool.false_eq_true, if_false, Sem.run_bind, decide_true, Bool.true_and]
        rw [run_part s2 (x := .int j b) rfl, Result.andThen_ok, run_part s2 (x := .int j b') rfl, Result.andThen_ok, run_equalIn_int w 9998 _ j k2 _ _ s2, Result.andThen_ok]
        by_cases hb : b = b'
        · subst hb; simp [pure]
        · simp [hb, pure]
      · simp [ha, pure]
    · cases h3
theorem eq2_guard (h : eq2T P t = true) : P.eqGuardType P.depth t = false := by
  unfold eq2T at h
  simp only [Bool.and_eq_true, Bool.not_eq_true'] at h
  exact h.1.2
instance {a b a' b' : Int} [h : Eq2 P t] : PStep P (bsem .eql t c (.agg #[.int i a, .int j b]) (.agg #[.int i a', .int j b'])) (.bool (decide (a = a') && decide (b = b'))) := .of fun _ k => p_of (fun w => by
  rw [run_bsem (eq2_guard h.h), run_eql_struct, run_eq2 h.h]; rfl) k
instance {a b a' b' : Int} [h : Eq2 P t] : PStep P (bsem .neq t c (.agg #[.int i a, .int j b]) (.agg #[.int i a', .int j b'])) (.bool (!(decide (a = a') && decide (b = b')))) := .of fun _ k => p_of (fun w => by
  rw [run_bsem (eq2_guard h.h), run_neq_struct, run_eq2 h.h]; rfl) k
end
end Go.Sh
