/-
  The shallow reading is sound: what it asks leads to the walk's own 'wpIn', and a function's to 'Calls'.
-/
import Derived.Test.YtajllnahceaipaaDoorSh2
namespace Go.Sh
open Go.RowKit

/-! ### Book-keeping -/
def MarksOK (D0 : List Deferred) (n : Nat) (ds : List Deferred) (w : World) : Prop :=
  ∃ rs : List Nat, ds = rs.map (fun r => { target := .collected r, args := #[] }) ++ D0 ∧ rs.Nodup ∧ ∀ r ∈ rs, n ≤ r ∧ w.heap[r]? = some (.deferred (some []))
/-- D0: what the frame has deferred itself -/
def MK (D0 : List Deferred) (m : Bool) (ro : Option Nat) (n : Nat) (ds : List Deferred) (w : World) : Prop :=
  match m with
  | false => ds = D0
  | true => match ro with
    | some l => ds = [] ∧ ∃ r, w.heap[l]? = some (.loop r)
    | none => n ≤ w.heap.size ∧ (∀ d ∈ D0, ∀ k, d.target ≠ .collected k) ∧ MarksOK D0 n ds w
theorem MK.nc {D0 : List Deferred} {m : Bool} {ro : Option Nat} {n : Nat} {ds : List Deferred} {w w' : World} (h : MK D0 m ro n ds w) (hn : m = true → NC w w') : MK D0 m ro n ds w' := by
  cases m with
  | false => exact h
  | true =>
    have hn := hn rfl
    cases ro with
    | some l => obtain ⟨h1, r, h2⟩ := h; exact ⟨h1, r, hn.2 _ _ h2 rfl⟩
    | none =>
      obtain ⟨h0, hd, rs, h1, h2, h3⟩ := h
      exact ⟨Nat.le_trans h0 hn.1, hd, rs, h1, h2, fun r hr => ⟨(h3 r hr).1, hn.2 _ _ (h3 r hr).2 rfl⟩⟩
theorem NC.drew (w : World) : NC w w.drew := ⟨Nat.le_refl _, fun _ _ h _ => h⟩
theorem kw_spec {m : Bool} {w w' : World} {K : Value → World → Prop} {v : Value} (h : kw m w K v w') : (m = true → NC w w') ∧ K v w' := by
  cases m with
  | false => exact ⟨fun h => (by cases h), h⟩
  | true => exact ⟨fun _ => h.1, h.2⟩

/-! ### Which slots have turned -/
def Ag (ws : List Nat) (e e' : Env) : Prop := e'.length = e.length ∧ ∀ t, t ∉ ws → e'[t]? = e[t]?
theorem Ag.refl (ws : List Nat) (e : Env) : Ag ws e e := ⟨rfl, fun _ _ => rfl⟩
theorem Ag.mono {ws ws' : List Nat} {e e' : Env} (h : Ag ws e e') (hs : ∀ t ∈ ws, t ∈ ws') : Ag ws' e e' := ⟨h.1, fun t ht => h.2 t fun h' => ht (hs t h')⟩
theorem Ag.trans {ws : List Nat} {a b c : Env} (h : Ag ws a b) (k : Ag ws b c) : Ag ws a c := ⟨k.1.trans h.1, fun t ht => (k.2 t ht).trans (h.2 t ht)⟩
theorem Ag.st {ws : List Nat} (e : Env) {d : Option Nat} (v : Value) (h : ∀ t, d = some t → t ∈ ws) : Ag ws e (st e d v) := by
  cases d with
  | none => exact .refl _ _
  | some d =>
    refine ⟨by simp [Sh.st], fun t ht => ?_⟩
    have : d ≠ t := fun he => ht (he ▸ h d rfl)
    simp [Sh.st, List.getElem?_set_ne this]

theorem idx_spec : ∀ (l : List Nat) (t j k : Nat), idx l t j = some k → ∃ i, k = j + i ∧ l[i]? = some t
  | [], _, _, _, h => by cases h
  | a :: l, t, j, k, h => by
    simp only [idx] at h
    cases hb : Nat.beq a t with
    | true => rw [hb] at h; cases h; exact ⟨0, rfl, by simp [Nat.eq_of_beq_eq_true hb]⟩
    | false =>
      rw [hb] at h
      obtain ⟨i, hi, hl⟩ := idx_spec l t (j + 1) k h
      exact ⟨i + 1, by omega, by simpa using hl⟩
theorem has_spec : ∀ (l : List Nat) (t : Nat), has l t = true ↔ t ∈ l
  | [], t => by simp [has]
  | a :: l, t => by
    simp only [has, List.mem_cons]
    cases hb : Nat.beq a t with
    | true => simp [Nat.eq_of_beq_eq_true hb]
    | false =>
      have hne : ¬ t = a := fun h => by rw [h] at hb; simp at hb
      simp [has_spec l t, hne]
theorem mix_go {ws live : List Nat} {e' : Env} : ∀ (r r' : Env) (t : Nat), r'.length = r.length → (∀ i, i < r.length → r'[i]? = e'[t + i]?) → (∀ i, t + i ∉ ws → r'[i]? = r[i]?) →
    mix ws live (live.map fun t => e'.getD t undef) e' r t = r'
  | [], r', _, hl, _, _ => by simpa [mix] using (List.length_eq_zero_iff.1 (by simpa using hl)).symm
  | v :: r, r', t, hl, h1, h2 => by
    cases r' with
    | nil => simp at hl
    | cons v' r' =>
      simp only [mix]
      have h0 : some v' = e'[t]? := by simpa using h1 0 (by simp)
      have hv : e'.getD t undef = v' := by rw [List.getD_eq_getElem?_getD, ← h0]; rfl
      congr 1
      · cases hi : idx live t 0 with
        | some k =>
          obtain ⟨i, hk, hl'⟩ := idx_spec _ _ _ _ hi
          simp only [Nat.zero_add] at hk
          subst hk
          simp [List.getD_eq_getElem?_getD, List.getElem?_map, hl', ← h0]
        | none =>
          simp only
          cases hh : has ws t with
          | true => exact hv
          | false =>
            have hn : t ∉ ws := fun h => by rw [(has_spec ws t).2 h] at hh; cases hh
            have := h2 0 (by simpa using hn)
            simpa using this.symm
      · refine mix_go r r' (t + 1) (by simpa using hl) (fun i hi => ?_) (fun i hi => ?_)
        · have := h1 (i + 1) (by simpa using hi)
          simpa [Nat.add_assoc, Nat.add_comm 1 i] using this
        · have := h2 (i + 1) (by simpa [Nat.add_assoc, Nat.add_comm 1 i] using hi)
          simpa using this
theorem mix_eq {ws live : List Nat} {e e' : Env} (h : Ag ws e e') : mix ws live (live.map fun t => e'.getD t undef) e' e 0 = e' :=
  mix_go e e' 0 h.1 (fun i _ => by simp) (fun i hi => h.2 i (by simpa using hi))

/-! ### Operations -/
section ops
variable {P : Program} {ro : Option Nat} {n0 : Nat}

theorem run_v {s : Sem Value} {w w' : World} {v : Value} (h : s.run P w = .ok v w') : (do pure (Next.value (← s)) : Sem Next).run P w = .ok (.value v) w' := by
  rw [Sem.run_bind, h]; rfl
theorem run_u {s : Sem Unit} {w w' : World} (h : s.run P w = .ok () w') : (do s; pure Next.skip : Sem Next).run P w = .ok .skip w' := by
  rw [Sem.run_bind, h]; rfl

theorem qStep_sound {G : World → Prop} {R : Sem Value → (Value → Prop) → Prop} (hR : ∀ s K, R s K → ∃ v, (∀ w, G w → s.run P w = .ok v w) ∧ K v) {o : Oper} {e : Env} {ds : List Deferred} {K : Env → Prop} (h : qStep R o e K) :
    ∃ v, (∀ w, G w → (execOp (act e ds).eval o).run P w = .ok (.value v) w) ∧ K (st e o.dst v) := by
  obtain ⟨dst, op, type, pos, after, guard⟩ := o
  rw [act_eval]
  cases op <;> simp only [qStep] at h <;> simp only [execOp]
  case move x => exact ⟨_, fun _ _ => rfl, h⟩
  case assign x => exact ⟨_, fun _ _ => rfl, h⟩
  case pick c a b =>
    obtain ⟨t, hc, hk⟩ := h
    refine ⟨_, fun w' _ => ?_, hk⟩
    rw [hc]; cases t <;> rfl
  case nilCheck x =>
    obtain ⟨hx, hk⟩ := h
    refine ⟨_, fun w' _ => ?_, hk⟩
    revert hx
    cases ev e x with
    | pointer a => cases a <;> first | (intro h; cases h; done) | (intro _; rfl)
    | func f _ _ => cases f <;> first | (intro h; cases h; done) | (intro _; rfl)
    | nilIface => simp [nnil]
    | nilFunc => simp [nnil]
    | _ => intro _; rfl
  case binOp op t x y yt =>
    obtain ⟨v, hr, hk⟩ := hR _ _ h
    refine ⟨v, fun w' hw => ?_, hk⟩
    rw [eqG_eq]
    exact run_v (hr w' hw)
  case call c =>
    obtain ⟨cal, args, ats⟩ := c
    cases cal with
    | builtin b =>
      cases b <;> simp only at h <;> first | exact h.elim | skip
      all_goals
        obtain ⟨v, hr, hk⟩ := hR _ _ h
        refine ⟨v, fun w' hw => ?_, hk⟩
        simp only [resolve, Sem.run_bind, Sem.run, pure, Result.andThen, invoke, builtin, hr w' hw]
    | _ => exact h.elim
  all_goals
    first
    | exact h.elim
    | (obtain ⟨v, hr, hk⟩ := hR _ _ h; exact ⟨v, fun w' hw => run_v (hr w' hw), hk⟩)

theorem run_callFunc {f : FuncId} (h : enters P f = true) (args : Array Value) (w : World) : (callFunc f args).run P w = .ok (.enter f args) w := by
  unfold enters at h
  cases hf : P.funcs[f]? with
  | none => rw [hf] at h; cases h
  | some fn =>
    rw [hf] at h
    simp only [Bool.and_eq_true, Bool.not_eq_true'] at h
    have h1 : fn.name ≠ "runtime.NumGoroutine" := by simpa using h.1
    have hb : fn.body ≠ none := by intro hb; rw [hb] at h; simp at h
    simp [callFunc, program, Sem.run_bind, Sem.run, pure, Result.andThen, hf, h1, hb]

theorem uponIn_enter_of {o : Oper} {a : Act} {K : Act → World → Prop} {Q : Exit → Act → World → Prop} {f : FuncId} {args : Array Value} {w : World}
    (h : Calls P f args w fun
      | .returned v, w'' => K (a.put o.dst v) w''
      | .panicked c, w'' => Q (.panic c) a w''
      | .outgrown, _ => LetsOut Q) : o.uponIn (FW ro) 0 P a K Q (.ok (.enter f args) w) :=
  ⟨fun h => (by cases h), (callsIn_wide (n := 0)).2 h⟩

theorem lStep_sound {cf : Cf} {Kp : List PanicEntry → World → Prop} {o : Oper} {k : Kind} {e : Env} {ds : List Deferred} {w : World} {K : Value → World → Prop} {K' : Act → World → Prop} {Q : Exit → Act → World → Prop}
    (hk : k ≠ .q ∧ k ≠ .p) (hok : opOK P o k = true) (h : lStep cf P Kp o e w K)
    (hK : ∀ v w', (cf.marks = true → NC w w') → K v w' → K' (act (st e o.dst v) ds) w') (hQ : ∀ c w', (cf.marks = true → NC w w') → Kp c w' → Q (.panic c) (act e ds) w') :
    o.uponIn (FW ro) 0 P (act e ds) K' Q ((execOp (act e ds).eval o).run P w) := by
  rw [act_eval]
  have fin : ∀ v w', kw cf.marks w K v w' → K' ((act e ds).put o.dst v) w' := fun v w' h => by rw [act_put]; exact hK v w' (kw_spec h).1 (kw_spec h).2
  obtain ⟨dst, op, type, pos, after, guard⟩ := o
  have value : ∀ s : Sem Value, opW P w s (kw cf.marks w K) → Oper.uponIn (FW ro) 0 P ⟨dst, op, type, pos, after, guard⟩ (act e ds) K' Q ((do pure (Next.value (← s)) : Sem Next).run P w) := by
    rintro s ⟨v, w', hr, hk⟩
    rw [run_v hr]; exact fin v w' hk
  have unit : ∀ s : Sem Unit, opU P w s (kw cf.marks w K undef) → Oper.uponIn (FW ro) 0 P ⟨dst, op, type, pos, after, guard⟩ (act e ds) K' Q ((do s; pure Next.skip : Sem Next).run P w) := by
    rintro s ⟨w', hr, hk⟩
    rw [run_u hr]; exact fin undef w' hk
  cases op <;> simp only [lStep] at h <;> simp only [execOp] <;> try exact h.elim
  case binOp op t x y yt => rw [eqG_eq]; exact value _ h
  case panic x =>
    cases hp : cf.pan with
    | false => rw [hp] at h; exact h.elim
    | true =>
      rw [hp] at h
      obtain ⟨v, w', hr, hn, hk⟩ := h
      rw [Sem.run_bind, hr]
      exact hQ _ _ hn hk
  case call c =>
    obtain ⟨cal, args, ats⟩ := c
    cases cal with
    | invoke r m => exact h.elim
    | builtin b =>
      cases b <;> simp only at h <;> first | exact h.elim | skip
      all_goals
        obtain ⟨v, w', hr, hk⟩ := h
        simp only [resolve, Sem.run_bind, Sem.run, pure, Result.andThen, invoke, builtin, hr]
        exact fin v w' hk
    | value f =>
      have plain : ∀ (g : FuncId) (as : Array Value), enters P g = true →
          (match cf.pan with
            | true => oCallP P g as w (kw cf.marks w K) (fun c' w' => (cf.marks = true → NC w w') ∧ Kp c' w')
            | false => oCall P g as w (kw cf.marks w K)) →
          Oper.uponIn (FW ro) 0 P ⟨dst, .call ⟨.value f, args, ats⟩, type, pos, after, guard⟩ (act e ds) K' Q (.ok (.enter g as) w) := by
        intro g as _ h
        refine uponIn_enter_of ?_
        cases hp : cf.pan with
        | true =>
          rw [hp] at h
          refine h.mono fun x w' hx => ?_
          cases x with
          | returned v => exact fin v w' hx
          | panicked c => exact hQ c w' hx.1 hx.2
          | outgrown => exact hx.elim
        | false =>
          rw [hp] at h
          refine h.mono fun x w' hx => ?_
          obtain ⟨v, rfl, hx⟩ := hx
          exact fin v w' hx
      have dyn : (match cf.pan with
            | true => oCallVP P (ev e f) (args.map (ev e)) w (kw cf.marks w K) (fun c' w' => (cf.marks = true → NC w w') ∧ Kp c' w')
            | false => oCallV P (ev e f) (args.map (ev e)) w (kw cf.marks w K)) →
          Oper.uponIn (FW ro) 0 P ⟨dst, .call ⟨.value f, args, ats⟩, type, pos, after, guard⟩ (act e ds) K' Q
            ((do let d ← resolve (ev e) ⟨.value f, args, ats⟩ type; invoke d.target d.args : Sem Next).run P w) := by
        intro h
        have plain' := plain
        revert h plain'
        simp only [resolve]
        generalize ev e f = fv
        intro h plain'
        cases fv with
        | func fn first cap =>
          cases fn with
          | func g =>
            simp only [Deferred.ofValue, Sem.run_bind, Sem.run, pure, Result.andThen, invoke]
            cases hp : cf.pan with
            | true =>
              rw [hp] at h
              obtain ⟨he, h⟩ := h
              rw [run_callFunc he]
              exact plain' g _ he (by rw [hp]; exact h)
            | false =>
              rw [hp] at h
              obtain ⟨he, h⟩ := h
              rw [run_callFunc he]
              exact plain' g _ he (by rw [hp]; exact h)
          | yield l =>
            cases hp : cf.pan with
            | true => rw [hp] at h; exact h.elim
            | false =>
              rw [hp] at h
              obtain ⟨f', tmps, assign, body, hy, hr⟩ := h
              simp only [Deferred.ofValue, Sem.run_bind, Sem.run, pure, Result.andThen, invoke]
              rw [hy]
              refine ⟨fun h => (by cases h), ?_⟩
              refine RoundIn.mono (F := FW ro) (show RoundIn (FW ro) _ _ _ _ _ _ _ _ _ from hr) fun x w' hx => ?_
              obtain ⟨v, rfl, hx⟩ := hx
              exact fin v w' hx
          | _ => exfalso; revert h; cases cf.pan <;> exact id
        | _ => exfalso; revert h; cases cf.pan <;> exact id
      cases f with
      | func g =>
        simp only at h
        have he : enters P g = true := by cases k <;> first | exact absurd rfl hk.1 | exact absurd rfl hk.2 | exact hok
        simp only [resolve, ev, Deferred.ofValue, Sem.run_bind, Sem.run, pure, Result.andThen, invoke]
        rw [run_callFunc he]
        exact plain g _ he (by revert h; cases cf.pan <;> simp)
      | tmp t => exact dyn h
      | const v => exact dyn h
      | global g => exact dyn h
  all_goals first | exact value _ h | exact unit _ h
end ops
end Go.Sh
