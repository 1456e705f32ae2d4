/-
  The shallow reading is sound: regions, code, functions.
-/
import Derived.Test.YtajllnahceaipaaDoorSh3
namespace Go.Sh
open Go.RowKit

section
variable {D0 : List Deferred} {cf : Cf} {P : Program} {ro : Option Nat} {n0 : Nat} {Kp : List PanicEntry → World → Prop}

/-- what is asked behind a region -/
def PostR (D0 : List Deferred) (cf : Cf) (ro : Option Nat) (n0 : Nat) (Kp : List PanicEntry → World → Prop) (ws : List Nat) (e0 : Env) (ds : List Deferred) (K : Env → World → Prop) : Exit → Act → World → Prop
  | .normal, a, w => ∃ e, a = act e ds ∧ Ag ws e0 e ∧ MK D0 cf.marks ro n0 ds w ∧ K e w
  | .panic c, a, w => (∃ e, a = act e ds ∧ Ag ws e0 e ∧ MK D0 cf.marks ro n0 ds w) ∧ Kp c w
  | _, _, _ => False

theorem stepK_mono {ops : Array Oper} {Q Q' : Exit → Act → World → Prop} {i : Nat} {k : Kind} {K K' : Act → World → Prop} {a : Act} {w : World} (hK : ∀ a w, K a w → K' a w)
    (hp : ∀ c a w, Q (.panic c) a w → Q' (.panic c) a w) (ho : ∀ a w, ¬ Q .outgrown a w) (h : stepK ro P ops Q i k K a w) : stepK ro P ops Q' i k K' a w := by
  unfold stepK at *
  cases hi : ops[i]? with
  | none => rw [hi] at h; exact h.elim
  | some o =>
    rw [hi] at h
    simp only at h ⊢
    have loud : ∀ (K K' : Act → World → Prop), (∀ a w, K a w → K' a w) → o.uponIn (FW ro) 0 P a K Q ((execOp a.eval o).run P w) → o.uponIn (FW ro) 0 P a K' Q' ((execOp a.eval o).run P w) := by
      intro K K' hK h
      generalize (execOp a.eval o).run P w = r at *
      cases r with
      | ok x w' =>
        cases x <;> simp only [Oper.uponIn] at h ⊢ <;>
          first
            | exact hK _ _ h
            | (refine ⟨h.1, CallsIn.mono h.2 (fun e w'' he => ?_)⟩
               cases e with
               | returned v => exact hK _ _ he
               | panicked c => exact hp _ _ _ he
               | outgrown => obtain ⟨a, w, he⟩ := he; exact absurd he (ho a w))
            | exact ⟨h.1, RowsIn.mono h.2 (fun _ _ he => hK _ _ he)⟩
            | (refine ⟨h.1, RoundIn.mono h.2 (fun e w'' he => ?_)⟩
               cases e with
               | returned v => exact hK _ _ he
               | panicked c => exact hp _ _ _ he
               | outgrown => obtain ⟨a, w, he⟩ := he; exact absurd he (ho a w))
      | halt x w' =>
        cases x <;> simp only [Oper.uponIn] at h ⊢
        exact hp _ _ _ h
    split
    · rename_i hw
      simp only [hw, if_true] at h
      cases k with
      | p => obtain ⟨v, h1, h2⟩ := h; exact ⟨v, h1, hK _ _ h2⟩
      | q => obtain ⟨v, h1, h2⟩ := h; exact ⟨v, h1, hK _ _ h2⟩
      | l => exact loud _ _ hK h
      | u => exact loud _ _ (fun a w h => ⟨h.1, hK a w h.2⟩) h
    · rename_i hw
      simp only [hw] at h
      exact hK _ _ h
theorem chain_append {ops : Array Oper} {Q Q' : Exit → Act → World → Prop} : ∀ (l : List (Nat × Kind)) (t : Tr) (a : Act) (w : World), chain ro P ops Q (pre l .nil) a w →
    (∀ a w, Q .normal a w → chain ro P ops Q' t a w) → (∀ c a w, Q (.panic c) a w → Q' (.panic c) a w) → (∀ a w, ¬ Q .outgrown a w) → chain ro P ops Q' (pre l t) a w
  | [], _, a, w, h, hn, _, _ => hn a w h
  | (_, _) :: l, t, _, _, h, hn, hp, ho => stepK_mono (fun a w h => chain_append l t a w h hn hp ho) hp ho h

theorem dst_mem {ops : Array Oper} {i : Nat} {o : Oper} (h : ops[i]? = some o) : ∀ t, o.dst = some t → t ∈ wrR ops := fun t ht =>
  List.mem_filterMap.2 ⟨o, by simpa using Array.mem_of_getElem? h, ht⟩

theorem dsts_sub {ops : Array Oper} : ∀ (its : List (Nat × Kind)), ∀ t ∈ dsts ops its, t ∈ wrR ops
  | [], t, h => by cases h
  | (i, k) :: its, t, h => by
    simp only [dsts] at h
    cases hi : ops[i]? with
    | none => rw [hi] at h; exact dsts_sub its t h
    | some o =>
      rw [hi] at h
      simp only at h
      cases hd : o.dst with
      | none => rw [hd] at h; exact dsts_sub its t h
      | some d =>
        rw [hd] at h
        rcases List.mem_cons.1 h with rfl | h
        · exact dst_mem hi _ hd
        · exact dsts_sub its t h
/-- one operation of the walk, whatever comes behind it -/
theorem op_sound {ops : Array Oper} {i : Nat} {o : Oper} {k : Kind} {C : Act → World → Prop} {e0 e : Env} {ds : List Deferred} {w : World} {K : Env → World → Prop} {Q : Exit → Act → World → Prop}
    (hi : ops[i]? = some o) (hok : opOK P o k = true) (hw : Region.wanted o (yielded ops (act e ds).tmps) = true) (hag : Ag (wrR ops) e0 e) (hmk : MK D0 cf.marks ro n0 ds w)
    (h : match k with
      | .p => qStep (opP P) o e fun e' => K e' w
      | .q => qStep (opQ P w) o e fun e' => K e' w
      | .l => lStep cf P Kp o e w fun v w' => K (st e o.dst v) w'
      | .u => lStep cf P Kp o e w fun v w' => Ext w w' ∧ K (st e o.dst v) w')
    (hK : ∀ v w', Ag (wrR ops) e0 (st e o.dst v) → MK D0 cf.marks ro n0 ds w' → K (st e o.dst v) w' → C (act (st e o.dst v) ds) w')
    (hQ : ∀ c w, MK D0 cf.marks ro n0 ds w → Kp c w → Q (.panic c) (act e ds) w) :
    stepK ro P ops Q i k C (act e ds) w := by
  have hag' : ∀ v, Ag (wrR ops) e0 (st e o.dst v) := fun v => hag.trans (Ag.st e v (dst_mem hi))
  simp only [stepK, hi, hw, if_true]
  cases k with
  | p =>
    obtain ⟨v, hy, hk⟩ := qStep_sound (G := fun _ => True) (R := opP P) (fun s K h => by obtain ⟨v, h1, h2⟩ := h; exact ⟨v, fun w _ => h1 w, h2⟩) (ds := ds) h
    exact ⟨v, fun w' => hy w' trivial, by rw [act_put]; exact hK v w (hag' v) hmk hk⟩
  | q =>
    obtain ⟨v, hy, hk⟩ := qStep_sound (G := fun w' => Ext w w') (R := opQ P w) (fun s K h => h) (ds := ds) h
    exact ⟨v, hy, by rw [act_put]; exact hK v w (hag' v) hmk hk⟩
  | l =>
    exact lStep_sound (ro := ro) (k := .l) (by simp) hok h (fun v w' hn hk => hK v w' (hag' v) (hmk.nc hn) hk) (fun c w' hn hc => hQ c w' (hmk.nc hn) hc)
  | u =>
    exact lStep_sound (ro := ro) (k := .u) (by simp) hok h (fun v w' hn hk => ⟨hk.1, hK v w' (hag' v) (hmk.nc hn) hk.2⟩) (fun c w' hn hc => hQ c w' (hmk.nc hn) hc)

theorem yielded_act {ops : Array Oper} {e : Env} {ds : List Deferred} {j v : Nat} {oj : Oper} (hj : ops[j]? = some oj) (hd : oj.dst = some v) :
    yielded ops (act e ds).tmps j = match e.getD v undef with | .bool b => some b | _ => none := by
  unfold yielded
  simp only [hj, Option.bind_some, hd, act]
  rw [List.getElem?_toArray, List.getD_eq_getElem?_getD]
  cases e[v]? with
  | none => rfl
  | some x => cases x <;> rfl

/-- the operations of a group, their guard met -/
theorem opsw_sound {ops : Array Oper} {v : Nat} {want : Bool} {e0 : Env} {ds : List Deferred} {K : Env → World → Prop} :
    ∀ (its : List (Nat × Kind)) (e : Env) (w : World),
      (its.all fun x => match ops[x.1]? with
        | some o => opOK P o x.2 && (match o.guard with
          | some (j, b) => b == want && (match ops[j]? with | some oj => oj.dst == some v | none => false)
          | none => false)
        | none => false) = true → has (dsts ops its) v = false → e.getD v undef = .bool want → Ag (wrR ops) e0 e → MK D0 cf.marks ro n0 ds w →
      opsw cf P Kp ops its e w K → chain ro P ops (PostR D0 cf ro n0 Kp (dsts ops its) e ds fun e' w' => Ag (wrR ops) e0 e' ∧ K e' w') (pre its .nil) (act e ds) w
  | [], e, w, _, _, _, hag, hmk, h => ⟨e, rfl, .refl _ _, hmk, hag, h⟩
  | (i, k) :: its, e, w, hall, hv, hev, hag, hmk, h => by
    simp only [List.all_cons, Bool.and_eq_true] at hall
    obtain ⟨h1, hall⟩ := hall
    cases hi : ops[i]? with
    | none => simp [hi] at h1
    | some o =>
      simp only [hi, Bool.and_eq_true] at h1
      obtain ⟨hok, hg⟩ := h1
      cases hgd : o.guard with
      | none => simp [hgd] at hg
      | some jb =>
        obtain ⟨j, b⟩ := jb
        simp only [hgd, Bool.and_eq_true, beq_iff_eq] at hg
        obtain ⟨rfl, hg⟩ := hg
        cases hj : ops[j]? with
        | none => simp [hj] at hg
        | some oj =>
          simp only [hj, beq_iff_eq] at hg
          have hw : Region.wanted o (yielded ops (act e ds).tmps) = true := by
            simp only [Region.wanted, hgd, yielded_act hj hg, hev]; simp
          simp only [opsw, hi] at h
          have hdst : dsts ops ((i, k) :: its) = (match o.dst with | some d => d :: dsts ops its | none => dsts ops its) := by
            simp only [dsts, hi]; cases o.dst <;> rfl
          have hv' : has (dsts ops its) v = false ∧ ∀ d, o.dst = some d → d ≠ v := by
            rw [hdst] at hv
            cases hd : o.dst with
            | none => rw [hd] at hv; exact ⟨hv, fun d h => by cases h⟩
            | some d =>
              rw [hd] at hv
              have : ¬ v ∈ d :: dsts ops its := fun hm => by rw [(has_spec _ _).2 hm] at hv; cases hv
              simp only [List.mem_cons, not_or] at this
              exact ⟨by cases hh : has (dsts ops its) v with | false => rfl | true => exact absurd ((has_spec _ _).1 hh) this.2, fun d' h => by cases h; exact fun he => this.1 he.symm⟩
          refine op_sound (cf := cf) (Kp := Kp) (K := fun e' w' => opsw cf P Kp ops its e' w' K) hi hok hw hag hmk ?_ ?_ (fun c w h1 h2 => ⟨⟨e, rfl, .refl _ _, h1⟩, h2⟩)
          · cases k <;> exact h
          · intro x w' hag' hmk' hk
            have hev' : (st e o.dst x).getD v undef = .bool b := by
              cases hd : o.dst with
              | none => exact hev
              | some d =>
                have := hv'.2 d hd
                simp only [st, List.getD_eq_getElem?_getD] at hev ⊢
                rw [List.getElem?_set_ne this]; exact hev
            have := opsw_sound its (st e o.dst x) w' hall hv'.1 hev' hag' hmk' hk
            have hst : Ag (dsts ops ((i, k) :: its)) e (st e o.dst x) := Ag.st e x (fun t ht => by rw [hdst, ht]; exact List.mem_cons_self)
            have hsub : ∀ t ∈ dsts ops its, t ∈ dsts ops ((i, k) :: its) := fun t ht => by rw [hdst]; cases o.dst <;> simp [ht]
            have c := chain_append (Q' := PostR D0 cf ro n0 Kp (dsts ops ((i, k) :: its)) e ds fun e' w' => Ag (wrR ops) e0 e' ∧ K e' w') its .nil _ _ this
              (fun a w h => by obtain ⟨e', he, h1, h2⟩ := h; exact ⟨e', he, hst.trans (h1.mono hsub), h2⟩)
              (fun c a w h => by obtain ⟨⟨e', he, h1, h2⟩, h3⟩ := h; exact ⟨⟨e', he, hst.trans (h1.mono hsub), h2⟩, h3⟩) (fun a w h => h)
            exact c

/-- .. their guard not met -/
theorem unds_sound {ops : Array Oper} {v : Nat} {want : Bool} {ds : List Deferred} {Q : Exit → Act → World → Prop} :
    ∀ (its : List (Nat × Kind)) (r : Tr) (e : Env) (w : World),
      (its.all fun x => match ops[x.1]? with
        | some o => opOK P o x.2 && (match o.guard with
          | some (j, b) => b == want && (match ops[j]? with | some oj => oj.dst == some v | none => false)
          | none => false)
        | none => false) = true → has (dsts ops its) v = false → (e.getD v undef ≠ .bool want) →
      (Ag (dsts ops its) e (unds ops its e) → Ag (wrR ops) e (unds ops its e) → chain ro P ops Q r (act (unds ops its e) ds) w) → chain ro P ops Q (pre its r) (act e ds) w
  | [], r, e, w, _, _, _, h => h (.refl _ _) (.refl _ _)
  | (i, k) :: its, r, e, w, hall, hv, hev, h => by
    simp only [List.all_cons, Bool.and_eq_true] at hall
    obtain ⟨h1, hall⟩ := hall
    cases hi : ops[i]? with
    | none => simp [hi] at h1
    | some o =>
      simp only [hi, Bool.and_eq_true] at h1
      obtain ⟨hok, hg⟩ := h1
      cases hgd : o.guard with
      | none => simp [hgd] at hg
      | some jb =>
        obtain ⟨j, b⟩ := jb
        simp only [hgd, Bool.and_eq_true, beq_iff_eq] at hg
        obtain ⟨rfl, hg⟩ := hg
        cases hj : ops[j]? with
        | none => simp [hj] at hg
        | some oj =>
          simp only [hj, beq_iff_eq] at hg
          have hw : Region.wanted o (yielded ops (act e ds).tmps) = false := by
            simp only [Region.wanted, hgd, yielded_act hj hg]
            revert hev
            cases e.getD v undef <;> simp
          have hdst : dsts ops ((i, k) :: its) = (match o.dst with | some d => d :: dsts ops its | none => dsts ops its) := by
            simp only [dsts, hi]; cases o.dst <;> rfl
          have hv' : has (dsts ops its) v = false ∧ ∀ d, o.dst = some d → d ≠ v := by
            rw [hdst] at hv
            cases hd : o.dst with
            | none => rw [hd] at hv; exact ⟨hv, fun d h => by cases h⟩
            | some d =>
              rw [hd] at hv
              have : ¬ v ∈ d :: dsts ops its := fun hm => by rw [(has_spec _ _).2 hm] at hv; cases hv
              simp only [List.mem_cons, not_or] at this
              exact ⟨by cases hh : has (dsts ops its) v with | false => rfl | true => exact absurd ((has_spec _ _).1 hh) this.2, fun d' h => by cases h; exact fun he => this.1 he.symm⟩
          simp only [pre, chain, stepK, hi, hw, Bool.false_eq_true, if_false]
          rw [act_put]
          refine unds_sound its r (st e o.dst undef) w hall hv'.1 ?_ ?_
          · cases hd : o.dst with
            | none => exact hev
            | some d =>
              have := hv'.2 d hd
              simp only [st, List.getD_eq_getElem?_getD] at hev ⊢
              rw [List.getElem?_set_ne this]; exact hev
          · intro h1 h2
            simp only [unds, hi] at h
            have hst : Ag (dsts ops ((i, k) :: its)) e (st e o.dst undef) := Ag.st e undef (fun t ht => by rw [hdst, ht]; exact List.mem_cons_self)
            have hsub : ∀ t ∈ dsts ops its, t ∈ dsts ops ((i, k) :: its) := fun t ht => by rw [hdst]; cases o.dst <;> simp [ht]
            exact h (hst.trans (h1.mono hsub)) ((Ag.st e undef (dst_mem hi)).trans h2)

theorem gIf_spec {v : Value} {want : Bool} {A B : Prop} (h : gIf v want A B) : (v = .bool want ∧ A) ∨ (v ≠ .bool want ∧ B) := by
  unfold gIf at h
  split at h
  · rename_i b
    by_cases hb : b = want
    · subst hb; simp only [if_true] at h; exact .inl ⟨rfl, h⟩
    · simp only [hb, if_false] at h; exact .inr ⟨by simpa using hb, h⟩
  · rename_i hn
    exact .inr ⟨fun he => hn _ he, h⟩

theorem rstep_sound {ops : Array Oper} {i : Nat} {k : Kind} {e0 e : Env} {ds : List Deferred} {w : World} {K : Env → World → Prop} {C : Act → World → Prop} {Q : Exit → Act → World → Prop} (hok : okOp P ops i k = true)
    (hag : Ag (wrR ops) e0 e) (hmk : MK D0 cf.marks ro n0 ds w) (h : rstep cf P Kp ops i k e w K)
    (hK : ∀ e' w', Ag (wrR ops) e0 e' → MK D0 cf.marks ro n0 ds w' → K e' w' → C (act e' ds) w') (hQ : ∀ c w, MK D0 cf.marks ro n0 ds w → Kp c w → Q (.panic c) (act e ds) w) :
    stepK ro P ops Q i k C (act e ds) w := by
  unfold okOp at hok
  unfold rstep at h
  cases hi : ops[i]? with
  | none => simp [hi] at hok
  | some o =>
    simp only [hi, Bool.and_eq_true, Option.isNone_iff_eq_none] at hok
    simp only [hi] at h
    refine op_sound (cf := cf) (Kp := Kp) (K := K) hi hok.2 (by simp [Region.wanted, hok.1]) hag hmk ?_ (fun v w' => hK _ w') hQ
    cases k <;> exact h

theorem rsw_sound {ops : Array Oper} {e0 : Env} {ds : List Deferred} : ∀ (its : RI) (e : Env) (w : World) (K : Env → World → Prop), okIts P ops its = true → Ag (wrR ops) e0 e → MK D0 cf.marks ro n0 ds w →
    rsw cf P Kp ops its e w K → chain ro P ops (PostR D0 cf ro n0 Kp (wrR ops) e0 ds K) (flat its) (act e ds) w
  | .nil, e, w, K, _, hag, hmk, h => ⟨e, rfl, hag, hmk, h⟩
  | .op i k t, e, w, K, hok, hag, hmk, h => by
    simp only [okIts, Bool.and_eq_true] at hok
    exact rstep_sound (K := fun e' w' => rsw cf P Kp ops t e' w' K) hok.1 hag hmk h (fun e' w' hag' hmk' hk => rsw_sound t e' w' K hok.2 hag' hmk' hk) (fun c w h1 h2 => ⟨⟨e, rfl, hag, h1⟩, h2⟩)
  | .alt i k t r, e, w, K, hok, hag, hmk, h => by
    simp only [okIts, Bool.and_eq_true] at hok
    exact ⟨rstep_sound (K := fun e' w' => rsw cf P Kp ops t e' w' K) hok.1.1 hag hmk h.1 (fun e' w' hag' hmk' hk => rsw_sound t e' w' K hok.1.2 hag' hmk' hk) (fun c w h1 h2 => ⟨⟨e, rfl, hag, h1⟩, h2⟩), rsw_sound r e w K hok.2 hag hmk h.2⟩
  | .grp v want its live r, e, w, K, hok, hag, hmk, h => by
    simp only [okIts, Bool.and_eq_true, Bool.not_eq_true'] at hok
    obtain ⟨⟨hall, hv⟩, hok⟩ := hok
    simp only [flat]
    have h := h (fun s w' => ∀ e', s = live.map (fun t => e'.getD t undef) → Ag (dsts ops its) e e' → Ag (wrR ops) e0 e' → MK D0 cf.marks ro n0 ds w' → chain ro P ops (PostR D0 cf ro n0 Kp (wrR ops) e0 ds K) (flat r) (act e' ds) w')
      (fun s w' hY => fun e' hs ha ha0 hm => by
        subst hs
        have := hY e'
        simp only [mix_eq ha] at this
        exact rsw_sound r e' w' K hok ha0 hm this)
    rcases gIf_spec h with ⟨hb, h⟩ | ⟨hb, h⟩
    · exact chain_append its (flat r) _ _ (opsw_sound its e w hall hv hb hag hmk h)
        (fun a w' hq => by obtain ⟨e', rfl, h1, h2, h3, h4⟩ := hq; exact h4 e' rfl h1 h3 h2)
        (fun c a w h => by obtain ⟨⟨e', he, h1, h2⟩, h3⟩ := h; exact ⟨⟨e', he, hag.trans (h1.mono (dsts_sub its)), h2⟩, h3⟩) (fun a w h => h)
    · exact unds_sound its (flat r) e w hall hv hb (fun h1 h2 => h _ rfl h1 (hag.trans h2) hmk)
end
end Go.Sh
