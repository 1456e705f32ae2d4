/-
  Further steps of the shallow reading: ranges over functions.
-/
import Derived.Test.YtajllnahceaipaaDoorShB
import Derived.Lib.MinMax
namespace Go.Sh
open Go.RowKit
section
variable {P : Program} {w w' : World}
theorem NC.of_but {S : Nat → Prop} (e : ExtBut S w w') (hS : ∀ b, S b → ∃ c T, Blk w b c T) : NC w w' := by
  refine ⟨e.size, fun b o hb ho => ?_⟩
  have hlt := (Array.getElem?_eq_some_iff.1 hb).1
  rw [e.block b hlt]
  · exact hb
  · intro hs
    obtain ⟨c, T, B⟩ := hS b hs
    have := hb.symm.trans B
    cases this; cases ho
theorem NC.of_b {b : Nat} {c : List Value} {T : TypeId} (B : Blk w b c T) (e : ExtBut (· = b) w w') : NC w w' := NC.of_but e fun _ h => h ▸ ⟨c, T, B⟩
theorem Blk.nb {b : Nat} {c : List Value} {T : TypeId} (B : Blk w b c T) : ∃ o, w.heap[b]? = some o ∧ Obj.isBook o = false := ⟨_, B, rfl⟩
theorem p_min {K : Value → Prop} {t1 t2 ty : TypeId} {a b : Int} (k : K (.int .i64 (min a b))) : opP P (Builtin.min_ #[t1, t2] ty #[.int .i64 a, .int .i64 b]) K :=
  p_of (fun w => Lib.run_min_ints w _ _ _ _ _ _) k
theorem p_byteN {K : Value → Prop} {t : TypeId} {s : ByteArray} {kd : IntKind} {i : Nat} (h : strT P t = true) (h1 : i < s.size) (k : K (u8 s[i].toBitVec)) : opP P (Instr.index t (.string s) (.int kd (i : Int))) K :=
  p_byteB h (by omega) (by omega) k
theorem p_bit8N {K : Value → Prop} {t : TypeId} {c : Bool} {i : IntKind} {n : Nat} (k : K (u8 (128#8 >>> n))) : opP P (bsem .shr t c (.int .u8 128) (.int i (n : Int))) K := p_bit8 (by omega) (by rw [Int.toNat_natCast]; exact k)
/-- what is written over by the same lies as it lay -/
theorem Ext.of_same {b : Nat} {c : List Value} {T : TypeId} (B : Blk w b c T) (e : ExtBut (· = b) w w') (B' : Blk w' b c T) : Ext w w' :=
  ⟨e.os, e.tape, e.output, e.size, fun k hk => by
    by_cases h : k = b
    · subst h; exact B'.trans B.symm
    · exact e.block k hk h⟩
/-- a range whose first round, if there is one, is its last -/
theorem r_first {n : Nat} {g : Value} {round : List Value → World → (Nat → Prop) → (Exit → World → Prop) → Prop} {Kn Kr : World → Prop} {Kx : List (Nat × (World → Prop))}
    (xs : List (List Value)) (S : Nat → Prop) (J0 : World → Prop) (Jr : World → Prop)
    (hS : ∀ b, S b → ∃ o, w.heap[b]? = some o ∧ Obj.isBook o = false) (hI : IterC P g w xs S) (hn : ∀ x ∈ xs, x.length = n)
    (n0 : ∀ W W', J0 W → Nl w.heap.size W W' → J0 W') (nr : ∀ W W', Jr W → Nl w.heap.size W W' → Jr W') (h0 : J0 w)
    (hr : ∀ x r W, xs = x :: r → J0 W → ∀ KR : Exit → World → Prop, (∀ W2, Jr W2 → KR .ret W2) → round x W S KR)
    (kn : xs = [] → ∀ W, J0 W → Kn W) (kr : ∀ x r, xs = x :: r → ∀ W, Jr W → Kr W) : oRange P n g w round Kn Kr Kx := by
  refine ⟨xs, S, fun k W => k = 0 ∧ J0 W, fun e W => match e with | .ret => Jr W ∧ xs ≠ [] | _ => False, hS, hI, hn, ?_, ?_, ⟨rfl, h0⟩, ?_, ?_, ?_, ?_, ?_⟩
  · rintro k W W' ⟨h1, h2⟩ e; exact ⟨h1, n0 W W' h2 e⟩
  · intro e W W' h1 h2
    cases e <;> first | exact h1.elim | exact ⟨nr W W' h1.1 h2, h1.2⟩
  · rintro k x W hx ⟨rfl, hJ⟩
    cases xs with
    | nil => cases hx
    | cons y r =>
      cases hx
      exact hr _ _ W rfl hJ _ fun W2 hj => ⟨hj, by simp⟩
  · rintro W ⟨h1, h2⟩
    exact kn (List.eq_nil_of_length_eq_zero h1) W h2
  · rintro W ⟨h1, h2⟩
    cases xs with
    | nil => exact absurd rfl h2
    | cons y r => exact kr y r rfl W h1
  · intro id W h; exact h.elim
  · intro l W h; exact h.elim
/-- a range whose rounds all go through -/
theorem r_all {n : Nat} {g : Value} {round : List Value → World → (Nat → Prop) → (Exit → World → Prop) → Prop} {Kn Kr : World → Prop} {Kx : List (Nat × (World → Prop))}
    (xs : List (List Value)) (S : Nat → Prop) (J : Nat → World → Prop)
    (hS : ∀ b, S b → ∃ o, w.heap[b]? = some o ∧ Obj.isBook o = false) (hI : IterC P g w xs S) (hn : ∀ x ∈ xs, x.length = n)
    (n0 : ∀ k W W', J k W → Nl w.heap.size W W' → J k W') (h0 : J 0 w)
    (hr : ∀ k x W, xs[k]? = some x → J k W → ∀ KR : Exit → World → Prop, (∀ W2, J (k + 1) W2 → KR .normal W2) → round x W S KR)
    (kn : ∀ W, J xs.length W → Kn W) : oRange P n g w round Kn Kr Kx := by
  refine ⟨xs, S, J, fun _ _ => False, hS, hI, hn, n0, fun _ _ _ h _ => h, h0, ?_, kn, fun W h => h.elim, fun id W h => h.elim, fun l W h => h⟩
  intro k x W hx hJ
  exact hr k x W hx hJ _ fun W2 hj => hj
end
end Go.Sh
