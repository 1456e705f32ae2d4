/-
  The shallow reading is sound: code, ranges over functions, functions.
-/
import Derived.Test.YtajllnahceaipaaDoorSh4
namespace Go.Sh
open Go.RowKit

section
variable {D0 : List Deferred} {P : Program} {n0 : Nat}

/-- what is asked behind code -/
def Post (D0 : List Deferred) (m : Bool) (ro : Option Nat) (n0 : Nat) (Kp : List PanicEntry → World → Prop) (ws : List Nat) (e0 : Env) (Q : Exit → Env → World → Prop) : Exit → Act → World → Prop
  | .panic c, a, w => (∃ e ds, a = act e ds ∧ Ag ws e0 e ∧ MK D0 m ro n0 ds w) ∧ Kp c w
  | .outgrown, _, _ => False
  | x, a, w => ∃ e ds, a = act e ds ∧ Ag ws e0 e ∧ MK D0 m ro n0 ds w ∧ Q x e w

theorem Post.mono {m : Bool} {ro : Option Nat} {Kp : List PanicEntry → World → Prop} {ws ws' : List Nat} {e0 e1 : Env} {Q Q' : Exit → Env → World → Prop} (h0 : Ag ws' e0 e1) (hs : ∀ t ∈ ws, t ∈ ws')
    (hq : ∀ x e w, Q x e w → Q' x e w) {x : Exit} {a : Act} {w : World} (h : Post D0 m ro n0 Kp ws e1 Q x a w) : Post D0 m ro n0 Kp ws' e0 Q' x a w := by
  cases x with
  | panic c => obtain ⟨⟨e, ds, h1, h2, h3⟩, h4⟩ := h; exact ⟨⟨e, ds, h1, h0.trans (h2.mono hs), h3⟩, h4⟩
  | outgrown => exact h
  | _ => obtain ⟨e, ds, h1, h2, h3, h4⟩ := h; exact ⟨e, ds, h1, h0.trans (h2.mono hs), h3, hq _ _ _ h4⟩

theorem region_sound {cf : Cf} {ro : Option Nat} {Kp : List PanicEntry → World → Prop} {its : RI} {id : Nat} {ops : Array Oper} {draw : Bool} {e : Env} {ds : List Deferred} {w : World} {Q : Exit → Env → World → Prop}
    (hm : P.follows .mixedOrders = true) (hc : chkR P its ops draw = true) (hmk : MK D0 cf.marks ro n0 ds w)
    (h : rsw cf P Kp ops its e (drawW draw w) (Q .normal)) :
    (Code.region id ops draw).wpIn (FW ro) 0 P (Post D0 cf.marks ro n0 Kp (wrR ops) e Q) (act e ds) w := by
  simp only [chkR, Bool.and_eq_true] at hc
  obtain ⟨hi, hc⟩ := hc
  have up : ∀ x a w, PostR D0 cf ro n0 Kp (wrR ops) e ds (Q .normal) x a w → Post D0 cf.marks ro n0 Kp (wrR ops) e Q x a w := by
    intro x a w h
    cases x with
    | normal => obtain ⟨e', h1, h2, h3, h4⟩ := h; exact ⟨e', ds, h1, h2, h3, h4⟩
    | panic c => obtain ⟨⟨e', h1, h2, h3⟩, h4⟩ := h; exact ⟨⟨e', ds, h1, h2, h3⟩, h4⟩
    | _ => exact h.elim
  cases draw with
  | true =>
    refine wpIn_mono (chain_draw hm ?_ hc (rsw_sound its e w.drew (Q .normal) hi (.refl _ _) (hmk.nc fun _ => NC.drew w) h)) up
    intro i o ho v c a w h
    obtain ⟨⟨e', he, h1, h2⟩, h3⟩ := h
    refine ⟨⟨a.tmps.toList, ?_, ?_, h2⟩, h3⟩
    · cases hd : o.dst with
      | none => rw [hd] at he; simp only [Act.put] at he; subst he; rfl
      | some d => rw [hd] at he; cases a; simp only [Act.put, act, Act.mk.injEq] at he; simp [act, he.2]
    · cases hd : o.dst with
      | none => rw [hd] at he; simp only [Act.put] at he; subst he; exact h1
      | some d =>
        rw [hd] at he; cases a
        simp only [Act.put, act, Act.mk.injEq] at he
        have hl : e' = _ := (congrArg Array.toList he.1).symm
        simp only [Array.toList_setIfInBounds] at hl
        subst hl
        refine ⟨by have := h1.1; simpa using this, fun t ht => ?_⟩
        have hne : d ≠ t := fun hh => ht (hh ▸ dst_mem ho _ hd)
        have := h1.2 t ht
        rw [List.getElem?_set_ne hne] at this
        exact this
  | false =>
    simp only [Bool.and_eq_true, beq_iff_eq] at hc
    exact wpIn_mono (chain_region hc.1 hc.2 (rsw_sound its e w (Q .normal) hi (.refl _ _) hmk h)) up

theorem oCond_spec {v : Value} {A B : Prop} (h : oCond v A B) : (v = .bool true ∧ A) ∨ (v = .bool false ∧ B) := by
  unfold oCond at h
  split at h
  · exact .inl ⟨rfl, h⟩
  · exact .inr ⟨rfl, h⟩
  · exact h.elim

theorem setP_fold : ∀ (ps : List Nat) (x pre : List Value) (e : Env), x.length = ps.length → ((ps.zip x).foldl (fun (t : Array Value) (p : Nat × Value) => t.setIfInBounds p.1 p.2) e.toArray) = (setP ps (pre ++ x) pre.length e).toArray
  | [], x, pre, e, _ => by simp [setP]
  | p :: ps, [], pre, e, h => by simp at h
  | p :: ps, v :: x, pre, e, h => by
    simp only [List.zip_cons_cons, List.foldl_cons, setP]
    have := setP_fold ps x (pre ++ [v]) (e.set p v) (by simpa using h)
    simp only [List.append_assoc, List.singleton_append, List.length_append, List.length_singleton] at this
    rw [show (pre ++ v :: x).getD pre.length undef = v by simp [List.getD_eq_getElem?_getD], ← this]
    simp

theorem ExtBut.nc {S : Nat → Prop} {w w' : World} (h : ExtBut S w w') (hs : ∀ (b : Nat) (o : Obj), S b → w.heap[b]? = some o → Obj.isBook o = false) : NC w w' :=
  ⟨h.size, fun b o hb ho => by
    have hlt : b < w.heap.size := (Array.getElem?_eq_some_iff.1 hb).1
    rw [h.block b hlt fun hS => by rw [hs b o hS hb] at ho; cases ho]; exact hb⟩

theorem Nl.refl (n : Nat) (w : World) : Nl n w w := ⟨rfl, rfl, rfl, Nat.le_refl _, fun _ _ h _ => h⟩
theorem Nl.of_ext {n : Nat} {w w' : World} (h : Ext w w') : Nl n w w' :=
  ⟨h.os, h.tape, h.output, h.size, fun k o hk _ => by rw [h.block k (Array.getElem?_eq_some_iff.1 hk).1]; exact hk⟩
theorem Nl.putObj {n l : Nat} {w : World} {o : Obj} (o' : Obj) (hl : n ≤ l) (h : w.heap[l]? = some o) (hb : Obj.isBook o = true) : Nl n w (w.putObj l o') :=
  ⟨rfl, rfl, rfl, by simp [World.putObj], fun k x hk hx => by
    by_cases e : k = l
    · subst e
      rw [h] at hk; cases hk
      rcases hx with hx | hx
      · omega
      · rw [hb] at hx; cases hx
    · exact (World.putObj_heap_other e).trans hk⟩
theorem ext_alloc (w : World) (o : Obj) : Ext w (w.alloc o) := (Below.refl _ _).alloc (Nat.le_refl _) o
end
end Go.Sh
