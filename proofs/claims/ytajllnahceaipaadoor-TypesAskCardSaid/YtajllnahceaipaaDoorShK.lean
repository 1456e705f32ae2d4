/-
  Conditions put together: the value of 'and', 'or' as it stands.
-/
import Derived.Test.YtajllnahceaipaaDoorShI
namespace Go.Sh
open Go.RowKit
section
variable {w : World} {A : (List Value → World → Prop) → Prop} {Z : Value → World → Prop} {b c : Bool}
theorem j_band (hA : ∀ K : List Value → World → Prop, K [.bool c] w → A K) (hZ : Z (.bool (b && c)) w) :
    sJoin (fun K => gIf (.bool b) true (A K) (K [undef] w)) fun s _ w' => oPick (.bool b) (s.getD 0 undef) (.bool false) fun t => Z t w' := by
  intro K hK
  cases b with
  | true => exact hA K (hK _ _ fun _ => ⟨true, rfl, by simpa using hZ⟩)
  | false => exact hK _ _ fun _ => ⟨false, rfl, by simpa using hZ⟩
theorem j_bor (hA : ∀ K : List Value → World → Prop, K [.bool c] w → A K) (hZ : Z (.bool (b || c)) w) :
    sJoin (fun K => gIf (.bool b) false (A K) (K [undef] w)) fun s _ w' => oPick (.bool b) (.bool true) (s.getD 0 undef) fun t => Z t w' := by
  intro K hK
  cases b with
  | true => exact hK _ _ fun _ => ⟨true, rfl, by simpa using hZ⟩
  | false => exact hA K (hK _ _ fun _ => ⟨false, rfl, by simpa using hZ⟩)
/-- .. where the second one is a call's answer (asked only if the first says so) -/
theorem j_bandE (hA : b = true → ∀ K : List Value → World → Prop, (∀ w', Ext w w' → K [.bool c] w') → A K) (hZ : ∀ w', Ext w w' → Z (.bool (b && c)) w') :
    sJoin (fun K => gIf (.bool b) true (A K) (K [undef] w)) fun s _ w' => oPick (.bool b) (s.getD 0 undef) (.bool false) fun t => Z t w' := by
  intro K hK
  cases b with
  | true => exact hA rfl K fun w' e => hK _ _ fun _ => ⟨true, rfl, by simpa using hZ w' e⟩
  | false => exact hK _ _ fun _ => ⟨false, rfl, by simpa using hZ w (.refl w)⟩
theorem j_borE (hA : b = false → ∀ K : List Value → World → Prop, (∀ w', Ext w w' → K [.bool c] w') → A K) (hZ : ∀ w', Ext w w' → Z (.bool (b || c)) w') :
    sJoin (fun K => gIf (.bool b) false (A K) (K [undef] w)) fun s _ w' => oPick (.bool b) (.bool true) (s.getD 0 undef) fun t => Z t w' := by
  intro K hK
  cases b with
  | true => exact hK _ _ fun _ => ⟨true, rfl, by simpa using hZ w (.refl w)⟩
  | false => exact hA rfl K fun w' e => hK _ _ fun _ => ⟨false, rfl, by simpa using hZ w' e⟩
/-- 'B or (g and c)' -/
theorem j_borand {g : Bool} {A : (List Value → World → Prop) → World → Prop} (hA : ∀ K : List Value → World → Prop, K [.bool c] w → A K w) (hZ : Z (.bool (b || (g && c))) w) :
    sJoin (fun K1 => gIf (.bool b) false (K1 [.bool g] w) (K1 [undef] w)) fun s1 _ w1 =>
      sJoin (fun K2 => gIf (s1.getD 0 undef) true (A K2 w1) (K2 [undef] w1)) fun s2 _ w2 =>
        sJoin (fun K3 => gIf (.bool b) false (oPick (s1.getD 0 undef) (s2.getD 0 undef) (.bool false) fun t => K3 [t] w2) (K3 [undef] w2)) fun s3 _ w3 =>
          oPick (.bool b) (.bool true) (s3.getD 0 undef) fun t => Z t w3 := by
  intro K1 hK1
  cases b with
  | true =>
    refine hK1 _ _ fun _ => ?_
    intro K2 hK2
    refine hK2 _ _ fun _ => ?_
    intro K3 hK3
    refine hK3 _ _ fun _ => ⟨true, rfl, ?_⟩
    rw [Bool.true_or] at hZ; exact hZ
  | false =>
    refine hK1 _ _ fun _ => ?_
    intro K2 hK2
    cases g with
    | true =>
      refine hA _ (hK2 _ _ fun _ => ?_)
      intro K3 hK3
      refine ⟨true, rfl, hK3 _ _ fun _ => ⟨false, rfl, ?_⟩⟩
      rw [Bool.false_or, Bool.true_and] at hZ; exact hZ
    | false =>
      refine hK2 _ _ fun _ => ?_
      intro K3 hK3
      refine ⟨false, rfl, hK3 _ _ fun _ => ⟨false, rfl, ?_⟩⟩
      rw [Bool.false_or, Bool.false_and] at hZ; exact hZ
theorem k_cor {K : List Value → World → Prop} {A : Prop} (hk : K [.bool (b || c)] w) (hA : b = false → K [.bool c] w → A) : oCond (.bool b) (K [.bool b] w) A := by
  cases b with
  | true => rw [Bool.true_or] at hk; exact hk
  | false => exact hA rfl (by rw [Bool.false_or] at hk; exact hk)
end
/-- what lies in memory is read as a struct -/
theorem s_ldN {P : Program} {w : World} {K : Value → Prop} {t : TypeId} {b off n : Nat} {c : List Value} [k : LdN P t n] (hl : c.length = n) (h : ∀ j v, c[j]? = some v → w.cell? ⟨b, off + j, none⟩ = some v) (hk : K (.agg c.toArray)) :
    opQ P w (Instr.loadAt t (.pointer (some ⟨b, off, none⟩))) K := q_loadN (by rw [hl]; exact k.h) h hk
theorem s_ld1 {P : Program} {w : World} {K : Value → Prop} {t : TypeId} {a : Addr} {v : Value} [k : Ld1 P t] (h : w.cell? a = some v) (hk : K v) : opQ P w (Instr.loadAt t (.pointer (some a))) K := q_load k.h h hk
theorem n_some {a : Addr} {K : Value → Prop} (k : K (.pointer (some a))) : oNil (.pointer (some a)) K := n_ptr k
end Go.Sh
