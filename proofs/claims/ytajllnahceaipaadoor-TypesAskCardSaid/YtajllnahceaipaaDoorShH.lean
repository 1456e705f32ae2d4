/-
  The shallow reading of a function that defers one closure, and of a deferred closure that recovers.
-/
import Derived.Test.YtajllnahceaipaaDoorShG
import Derived.RecoverIn
namespace Go.Sh
open Go.RowKit

/-- a deferred call of a function: u: the mode of the frame that leaves -/
def oDef (P : Program) (g : FuncId) (args : Array Value) (u : FrameMode) (w : World) (R : FrameMode → World → Prop) (Rp : List PanicEntry → FrameMode → World → Prop) : Prop :=
  CallsDIn (FW none) 0 P g args u w fun
    | .returned _, u', w' => R u' w'
    | .panicked c, u', w' => Rp c u' w'
    | .outgrown, _, _ => False
/-- what recover hands back, and the mode behind it -/
def recov : FrameMode → Value × FrameMode
  | .panicking ({ v, recovered := false, goexit := false } :: older) => (v, .panicking ({ v, recovered := true } :: older))
  | u => (.nilIface, u)
theorem recov_spec (c₀ : Frame) (cs : List Frame) : (recoverD (c₀ :: cs) = none ∧ recov c₀.mode = (.nilIface, c₀.mode)) ∨
    recoverD (c₀ :: cs) = some ((recov c₀.mode).1, { c₀ with mode := (recov c₀.mode).2 } :: cs) := by
  cases hmode : c₀.mode with
  | run => left; simp [recoverD, recov, hmode]
  | returning => left; simp [recoverD, recov, hmode]
  | panicking ch =>
    cases ch with
    | nil => left; simp [recoverD, recov, hmode]
    | cons p older =>
      obtain ⟨v, r, g⟩ := p
      cases r <;> cases g <;> simp [recoverD, recov, hmode]

section
variable {P : Program}
/-- A DEFERRED CLOSURE: its first region asks recover; what comes behind is read as ever. -/
theorem oDef_of_sw {f : FuncId} {fn : Func} {A : Ann} {pan : Bool} {id t : Nat} {o : Oper} {c2 : Code} {args : Array Value} {u : FrameMode} {w : World} {R : FrameMode → World → Prop} {Rp : List PanicEntry → FrameMode → World → Prop}
    (hm : P.follows .mixedOrders = true) (hf : P.funcs[f]? = some fn) (hb : fn.body = some (.seq (.region id #[o] false) c2)) (hr : fn.results = #[])
    (ho : ∃ c, o.op = .call c ∧ c.callee = .builtin .recover) (hg : o.guard = none) (hd : o.dst = some t) (hc : chk ⟨false, pan⟩ P false A c2 = true)
    (h : sw ⟨false, pan⟩ P (fun c w' => Rp c (recov u).2 w') A c2 (st (args.toList ++ List.replicate (fn.ntmps - args.size) undef) (some t) (recov u).1) w fun
      | .normal, _, w' => R (recov u).2 w'
      | .ret, _, w' => R (recov u).2 w'
      | _, _, _ => False) : oDef P f args u w R Rp := by
  refine callsDIn_of_wpSIn hf hb trivial fun c₀ cs hu => ?_
  have hact : ({ tmps := args ++ Array.replicate (fn.ntmps - args.size) undef, defers := [] } : Act) = act (args.toList ++ List.replicate (fn.ntmps - args.size) undef) [] := by
    simp only [act, Act.mk.injEq, and_true]
    apply Array.ext'
    simp
  rw [hact]
  generalize args.toList ++ List.replicate (fn.ntmps - args.size) undef = e at h
  obtain ⟨c, hoc, hcal⟩ := ho
  obtain ⟨dst, op, type, pos, after, guard⟩ := o
  simp only at hoc hg hd
  subst hoc hg hd
  obtain ⟨cal, cargs, ats⟩ := c
  simp only at hcal
  subst hcal
  have hcont : ∀ cs', cs' = { c₀ with mode := (recov u).2 } :: cs → c2.wpSIn (FW none) 0 P (bodyPostS P fn c₀ cs fun
      | .returned _, u', w' => R u' w'
      | .panicked c, u', w' => Rp c u' w'
      | .outgrown, _, _ => False) (act (st e (some t) (recov u).1) []) cs' w := by
    rintro cs' rfl
    refine wpSIn_of_wpIn rfl (wpIn_mono (sw_sound (D0 := []) (n0 := 0) hm c2 A ⟨false, pan⟩ none _ _ [] w _ hc rfl h) ?_)
    have fin : ∀ e' ds w', ds = [] → R (recov u).2 w' → ∃ u', ({ c₀ with mode := (recov u).2 } :: cs : List Frame) = { c₀ with mode := u' } :: cs ∧ ∃ v, (results fn (act e' ds).tmps).run P w' = .ok v w' ∧ R u' w' := by
      rintro e' ds w' rfl hR
      refine ⟨_, rfl, .tuple #[], ?_, hR⟩
      have hz : fn.results.toList = [] := by rw [hr]
      obtain ⟨vs, h1, h2⟩ := results_of (P := P) (f := fn) (w := w') (e := e') (K := fun vs => vs = []) (by rw [hz]; rfl)
      subst h2; exact h1
    intro x a w' hx
    cases x with
    | normal => obtain ⟨e', ds, rfl, _, hmk, hq⟩ := hx; exact ⟨hmk, fin e' ds w' hmk hq⟩
    | ret => obtain ⟨e', ds, rfl, _, hmk, hq⟩ := hx; exact ⟨hmk, fin e' ds w' hmk hq⟩
    | panic ch => obtain ⟨⟨e', ds, rfl, _, hmk⟩, hq⟩ := hx; exact ⟨hmk, _, rfl, hq⟩
    | outgrown => exact hx.elim
    | exit id => obtain ⟨_, _, _, _, _, h⟩ := hx; exact h.elim
    | goto l => obtain ⟨_, _, _, _, _, h⟩ := hx; exact h.elim
  refine wpSIn_seq (wpSIn_region ?_)
  have hexec : (execOp (act e []).eval ({ dst := some t, op := .call { callee := .builtin .recover, args := cargs, argTypes := ats }, type, pos, after, guard := none } : Oper)).run P w = .ok .recover w := by
    simp only [execOp, resolve, Sem.run_bind, Sem.run, pure, Result.andThen, invoke, builtin]
  have hwant : ∀ y, Region.wanted ({ dst := some t, op := .call { callee := .builtin .recover, args := cargs, argTypes := ats }, type, pos, after, guard := none } : Oper) y = true := fun _ => rfl
  have hdst : ({ dst := some t, op := .call { callee := .builtin .recover, args := cargs, argTypes := ats }, type, pos, after, guard := none } : Oper).dst = some t := rfl
  generalize ({ dst := some t, op := .call { callee := .builtin .recover, args := cargs, argTypes := ats }, type, pos, after, guard := none } : Oper) = o at *
  rw [show List.range (#[o] : Array Oper).size = [0] from rfl, wpOpsSIn]
  simp only [show (#[o] : Array Oper)[0]? = some o from rfl]
  refine ⟨fun _ _ => trivial, ?_⟩
  rw [if_pos (hwant _), hexec]
  simp only [hdst]
  rw [← hu] at hcont
  rcases recov_spec c₀ cs with ⟨h1, h2⟩ | h1
  · rw [h1]
    have := hcont (c₀ :: cs) (by rw [h2])
    rw [h2] at this
    rw [act_put]
    exact this
  · rw [h1]
    have := hcont _ rfl
    simp only [wpOpsSIn, Exit.thenS, act_put]
    exact this

def codeTail : Code → Code
  | .seq _ b => b
  | c => c
/-- does it begin by asking recover? where its answer goes -/
def recHead : Code → Option Nat
  | .seq (.region _ ops false) _ => match ops.toList with
    | [o] => match o.guard, o.dst, o.op with
      | none, some t, .call c => match c.callee with
        | .builtin .recover => some t
        | _ => none
      | _, _, _ => none
    | _ => none
  | _ => none
theorem recHead_spec {c : Code} {t : Nat} (h : recHead c = some t) : ∃ id o, c = .seq (.region id #[o] false) (codeTail c) ∧ (∃ c', o.op = .call c' ∧ c'.callee = .builtin .recover) ∧ o.guard = none ∧ o.dst = some t := by
  unfold recHead at h
  split at h
  rotate_left
  · cases h
  rename_i id ops c2
  split at h
  rotate_left
  · cases h
  rename_i o hl
  split at h
  rotate_left
  · cases h
  rename_i t' c' hg hd ho
  split at h
  rotate_left
  · cases h
  rename_i hcal
  cases h
  have hops : ops = #[o] := by rw [← Array.toArray_toList (xs := ops), hl]
  subst hops
  exact ⟨id, o, rfl, ⟨c', ho, hcal⟩, hg, hd⟩
theorem oDef_of {f : FuncId} {fn : Func} {A : Ann} {pan : Bool} {t : Nat} {args : Array Value} {u : FrameMode} {w : World} {R : FrameMode → World → Prop} {Rp : List PanicEntry → FrameMode → World → Prop}
    (hm : P.follows .mixedOrders = true) (hf : P.funcs[f]? = some fn) (hb : fn.body.isSome = true) (hh : recHead (bodyOf fn) = some t) (hr : fn.results = #[]) (hc : chk ⟨false, pan⟩ P false A (codeTail (bodyOf fn)) = true)
    (h : sw ⟨false, pan⟩ P (fun c w' => Rp c (recov u).2 w') A (codeTail (bodyOf fn)) (st (args.toList ++ List.replicate (fn.ntmps - args.size) undef) (some t) (recov u).1) w fun
      | .normal, _, w' => R (recov u).2 w'
      | .ret, _, w' => R (recov u).2 w'
      | _, _, _ => False) : oDef P f args u w R Rp := by
  obtain ⟨id, o, h1, h2, h3, h4⟩ := recHead_spec hh
  obtain ⟨c, hbc⟩ := Option.isSome_iff_exists.1 hb
  have hbody : bodyOf fn = c := by simp [bodyOf, hbc]
  exact oDef_of_sw hm hf (by rw [hbc, ← hbody]; exact congrArg some h1) hr h2 h3 h4 hc h

/-! ### The function that defers -/
inductive DAnn where
  | s (A : Ann) (r : DAnn)
  | d (B : Ann)
/-- how a function ends, its deferred closure done -/
def eEnd (N : World → Prop) (Kp : List PanicEntry → World → Prop) (u : FrameMode) (w : World) : Prop :=
  match u with
  | .returning => N w
  | .panicking c => Kp c w
  | .run => False
def dEnd (P : Program) (fn : Func) (K : Value → World → Prop) (Kp : List PanicEntry → World → Prop) (e : Env) (u : FrameMode) (w : World) : Prop :=
  eEnd (fun w => resQ P w e fn.results.toList fun vs => K (tup vs) w) Kp u w
def dLeave (P : Program) (fn : Func) (K : Value → World → Prop) (Kp : List PanicEntry → World → Prop) (g : FuncId) (cap : Array Value) (e : Env) (u : FrameMode) (w : World) : Prop :=
  oDef P g cap u w (fun u' w' => dEnd P fn K Kp e (settle u') w') (fun c u' w' => dEnd P fn K Kp e (raised u' c) w')
/-- what is asked of the whole -/
def swD (P : Program) (fn : Func) (K : Value → World → Prop) (Kp : List PanicEntry → World → Prop) : DAnn → Code → Env → World → Prop
  | .s A r, .seq a b, e, w => sw ⟨false, false⟩ P (fun _ _ => False) A a e w fun
    | .normal, e', w' => swD P fn K Kp r b e' w'
    | _, _, _ => False
  | .d B, .seq (.region _ ops _) c2, e, w => match ops[0]? with
    | some o0 => match o0.op, o0.dst with
      | .makeFunc (.func g) _ caps, some t =>
        sw ⟨false, true⟩ P (fun c w' => dLeave P fn K Kp g (caps.map (ev e)) (st e (some t) (.func (.func g) #[] (caps.map (ev e)))) (.panicking c) w') B c2 (st e (some t) (.func (.func g) #[] (caps.map (ev e)))) w fun
          | .normal, e', w' => dLeave P fn K Kp g (caps.map (ev e)) e' .returning w'
          | .ret, e', w' => dLeave P fn K Kp g (caps.map (ev e)) e' .returning w'
          | _, _, _ => False
      | _, _ => False
    | none => False
  | _, _, _, _ => False
def cellsOnly (ws : List Nat) : List ResultVar → Bool
  | [] => true
  | .tmp _ :: _ => false
  | .cell a _ :: r => !has ws a && cellsOnly ws r
def chkD (P : Program) (fn : Func) : DAnn → Code → Bool
  | .s A r, .seq a b => chk ⟨false, false⟩ P false A a && chkD P fn r b
  | .d B, .seq (.region _ ops draw) c2 => !draw && chk ⟨false, true⟩ P false B c2 && cellsOnly (wr c2) fn.results.toList && (match ops.toList with
    | [o0, o1] => o0.guard.isNone && o1.guard.isNone && (match o0.op, o0.dst, o1.op, o1.dst with
      | .makeFunc (.func g) first _, some t, .defer c, none => decide (t < fn.ntmps) && first.isEmpty && enters P g && c.args.isEmpty && (match c.callee with | .value (.tmp t') => t' == t | _ => false)
      | _, _, _, _ => false)
    | _ => false)
  | _, _ => false
theorem resQ_ag {ws : List Nat} {e e' : Env} {w : World} (h : Ag ws e e') : ∀ (rs : List ResultVar) (K : List Value → Prop), cellsOnly ws rs = true → resQ P w e rs K → resQ P w e' rs K
  | [], _, _, hq => hq
  | .tmp _ :: _, _, hc, _ => by cases hc
  | .cell a t :: r, K, hc, hq => by
    simp only [cellsOnly, Bool.and_eq_true, Bool.not_eq_true'] at hc
    have ha : e'.getD a undef = e.getD a undef := by
      have hn : a ∉ ws := fun hm => by rw [(has_spec ws a).2 hm] at hc; cases hc.1
      rw [List.getD_eq_getElem?_getD, List.getD_eq_getElem?_getD, h.2 a hn]
    simp only [resQ] at hq ⊢
    rw [ha]
    obtain ⟨v, h1, h2⟩ := hq
    exact ⟨v, h1, resQ_ag h r _ hc.2 h2⟩
theorem dEnd_ag {fn : Func} {K : Value → World → Prop} {Kp : List PanicEntry → World → Prop} {ws : List Nat} {e e' : Env} {u : FrameMode} {w : World} (h : Ag ws e e') (hc : cellsOnly ws fn.results.toList = true) (hq : dEnd P fn K Kp e u w) :
    dEnd P fn K Kp e' u w := by
  cases u with
  | run => exact hq
  | returning => exact resQ_ag h _ _ hc hq
  | panicking c => exact hq
theorem swD_sound {f : FuncId} {fn : Func} {K : Value → World → Prop} {Kp : List PanicEntry → World → Prop} (hm : P.follows .mixedOrders = true) :
    ∀ (D : DAnn) (c : Code) (e : Env) (w : World), fn.ntmps ≤ e.length → chkD P fn D c = true → swD P fn K Kp D c e w → c.wpIn (FW none) 0 P (bodyPostM (FW none) 0 P fn fun
      | .returned v, w' => K v w'
      | .panicked c, w' => Kp c w'
      | .outgrown, _ => False) (act e []) w
  | .s A r, .seq a b, e, w, hl, hc, h => by
    simp only [chkD, Bool.and_eq_true] at hc
    refine wpIn_seq (wpIn_mono (sw_sound (D0 := []) (n0 := 0) hm a A ⟨false, false⟩ none _ e [] w _ hc.1 rfl h) ?_)
    intro x a1 w1 hx
    cases x with
    | normal =>
      obtain ⟨e1, ds1, rfl, h1, h2, h3⟩ := hx
      have h2 : ds1 = [] := h2
      subst h2
      exact swD_sound (f := f) hm r b e1 w1 (by rw [h1.1]; exact hl) hc.2 h3
    | panic ch => exact hx.2.elim
    | outgrown => exact hx.elim
    | _ => obtain ⟨_, _, _, _, _, h⟩ := hx; exact h.elim
  | .d B, .seq (.region id ops draw) c2, e, w, hlen, hc, h => by
    simp only [chkD, Bool.and_eq_true, Bool.not_eq_true'] at hc
    obtain ⟨⟨⟨hdr, hcB⟩, hcell⟩, hops⟩ := hc
    subst hdr
    split at hops
    rotate_left
    · cases hops
    rename_i o0 o1 hl
    have hops' : ops = #[o0, o1] := by rw [← Array.toArray_toList (xs := ops), hl]
    subst hops'
    simp only [Bool.and_eq_true, Option.isNone_iff_eq_none] at hops
    obtain ⟨⟨hg0, hg1⟩, hops⟩ := hops
    obtain ⟨dst0, op0, type0, pos0, after0, guard0⟩ := o0
    obtain ⟨dst1, op1, type1, pos1, after1, guard1⟩ := o1
    simp only at hg0 hg1 hops
    subst hg0 hg1
    split at hops
    rotate_left
    · cases hops
    rename_i g first caps t c
    simp only [Bool.and_eq_true] at hops
    obtain ⟨⟨⟨⟨hlt, hfirst⟩, hent⟩, hargs⟩, hcal⟩ := hops
    obtain ⟨cal, cargs, ats⟩ := c
    simp only at hargs hcal
    split at hcal
    rotate_left
    · cases hcal
    rename_i t'
    have ht : t' = t := by simpa using hcal
    subst ht
    have hlt : t' < e.length := Nat.lt_of_lt_of_le (of_decide_eq_true hlt) hlen
    have hfirst : first = #[] := by simpa using hfirst
    have hargs : cargs = #[] := by simpa using hargs
    subst hfirst hargs
    simp only [swD] at h
    obtain ⟨e', he'⟩ : ∃ e', e' = st e (some t') (.func (.func g) #[] (caps.map (ev e))) := ⟨_, rfl⟩
    have h : sw ⟨false, true⟩ P (fun c w' => dLeave P fn K Kp g (caps.map (ev e)) e' (.panicking c) w') B c2 e' w (fun
        | .normal, e2, w' => dLeave P fn K Kp g (caps.map (ev e)) e2 .returning w'
        | .ret, e2, w' => dLeave P fn K Kp g (caps.map (ev e)) e2 .returning w'
        | _, _, _ => False) := by rw [he']; exact h
    have h0' := h
    clear h
    obtain ⟨d, hd⟩ : ∃ d : Deferred, d = { target := .fn (.func g) (caps.map (ev e)), args := #[] } := ⟨_, rfl⟩
    have leave : ∀ (e2 : Env) (u : FrameMode) (w' : World), u ≠ .run → dLeave P fn K Kp g (caps.map (ev e)) e2 u w' → LeavesInM (FW none) 0 P fn (act e2 [d]).tmps (fun
        | .returned v, w' => K v w'
        | .panicked c, w' => Kp c w'
        | .outgrown, _ => False) [d] u w' := by
      intro e2 u w' hu hq
      have fin : ∀ u' w'', dEnd P fn K Kp e2 u' w'' → LeavesInM (FW none) 0 P fn (act e2 [d]).tmps (fun
          | .returned v, w' => K v w'
          | .panicked c, w' => Kp c w'
          | .outgrown, _ => False) [] u' w'' := by
        intro u' w'' hq
        cases u' with
        | run => exact hq.elim
        | returning => obtain ⟨vs, h1, h2⟩ := results_of (f := fn) hq; exact ⟨_, h1, h2⟩
        | panicking c => exact hq
      refine ⟨hu, .inr ⟨(fun hh => by cases hh), .func g, caps.map (ev e), g, caps.map (ev e), by rw [hd], ?_, fun _ _ => trivial, CallsDIn.mono hq ?_⟩⟩
      · rw [hd]
        simp only [invoke]
        rw [run_callFunc hent]; simp
      · intro x u' w'' hx
        cases x with
        | returned v => exact fin _ _ hx
        | panicked c => exact fin _ _ hx
        | outgrown => exact hx.elim
    have h0 : (execOp (act e []).eval ({ dst := some t', op := .makeFunc (.func g) #[] caps, type := type0, pos := pos0, after := after0, guard := none } : Oper)).run P w = .ok (.value (.func (.func g) #[] (caps.map (ev e)))) w := by
      rw [act_eval]
      simp only [execOp, Sem.run_bind, Sem.run, pure, Result.andThen, Instr.makeFunc, Array.map_empty]
    have h1 : (execOp (act e' []).eval ({ dst := none, op := .defer { callee := .value (.tmp t'), args := #[], argTypes := ats }, type := type1, pos := pos1, after := after1, guard := none } : Oper)).run P w = .ok (.defer d) w := by
      rw [act_eval]
      have ht' : e'.getD t' undef = .func (.func g) #[] (caps.map (ev e)) := by rw [he']; simp [st, List.getD_eq_getElem?_getD, hlt]
      simp only [execOp, resolve, ev, Sem.run_bind, Sem.run, pure, Result.andThen, Array.map_empty, ht', Deferred.ofValue, hd]
      rfl
    have q0 : ∀ y, Region.wanted ({ dst := some t', op := .makeFunc (.func g) #[] caps, type := type0, pos := pos0, after := after0, guard := none } : Oper) y = true := fun _ => rfl
    have q1 : ∀ y, Region.wanted ({ dst := none, op := .defer { callee := .value (.tmp t'), args := #[], argTypes := ats }, type := type1, pos := pos1, after := after1, guard := none } : Oper) y = true := fun _ => rfl
    have d0 : ({ dst := some t', op := .makeFunc (.func g) #[] caps, type := type0, pos := pos0, after := after0, guard := none } : Oper).dst = some t' := rfl
    have d1 : ({ dst := none, op := .defer { callee := .value (.tmp t'), args := #[], argTypes := ats }, type := type1, pos := pos1, after := after1, guard := none } : Oper).dst = none := rfl
    generalize ({ dst := some t', op := .makeFunc (.func g) #[] caps, type := type0, pos := pos0, after := after0, guard := none } : Oper) = o0 at *
    generalize ({ dst := none, op := .defer { callee := .value (.tmp t'), args := #[], argTypes := ats }, type := type1, pos := pos1, after := after1, guard := none } : Oper) = o1 at *
    refine wpIn_seq (wpIn_region ?_)
    rw [show List.range (#[o0, o1] : Array Oper).size = [0, 1] from rfl, wpOpsIn_cons]
    unfold wpOpIn
    simp only [show (#[o0, o1] : Array Oper)[0]? = some o0 from rfl]
    rw [if_pos (q0 _)]
    refine ⟨fun _ _ => trivial, ?_⟩
    rw [show (FW none).round = none from rfl, Oper.semAt_none, h0]
    show wpOpsIn _ _ _ _ _ _ ((act e []).put o0.dst _) w
    rw [d0, act_put, ← he', wpOpsIn_cons]
    unfold wpOpIn
    simp only [show (#[o0, o1] : Array Oper)[1]? = some o1 from rfl]
    rw [if_pos (q1 _)]
    refine ⟨fun _ _ => trivial, ?_⟩
    rw [show (FW none).round = none from rfl, Oper.semAt_none, h1]
    show wpOpsIn _ _ _ _ _ _ (({ (act e' []) with defers := d :: (act e' []).defers } : Act).put o1.dst undef) w
    rw [d1]
    show c2.wpIn (FW none) 0 P _ (act e' [d]) w
    refine wpIn_mono (sw_sound (D0 := [d]) (n0 := 0) hm c2 B ⟨false, true⟩ none _ e' [d] w _ hcB rfl h0') ?_
    intro x a w' hx
    cases x with
    | normal => obtain ⟨e2, ds, rfl, _, hmk, hq⟩ := hx; obtain rfl : ds = [d] := hmk; exact leave e2 _ w' (by simp) hq
    | ret => obtain ⟨e2, ds, rfl, _, hmk, hq⟩ := hx; obtain rfl : ds = [d] := hmk; exact leave e2 _ w' (by simp) hq
    | panic ch =>
      obtain ⟨⟨e2, ds, rfl, hag, hmk⟩, hq⟩ := hx
      obtain rfl : ds = [d] := hmk
      refine leave e2 _ w' (by simp) ?_
      refine CallsDIn.mono hq ?_
      intro x u' w'' hx
      cases x with
      | returned v => exact dEnd_ag hag hcell hx
      | panicked c => exact dEnd_ag hag hcell hx
      | outgrown => exact hx
    | outgrown => exact hx.elim
    | exit id => obtain ⟨_, _, _, _, _, h⟩ := hx; exact h.elim
    | goto l => obtain ⟨_, _, _, _, _, h⟩ := hx; exact h.elim
  | .s _ _, .region .., _, _, _, hc, _ => by cases hc
  | .s _ _, .skip, _, _, _, hc, _ => by cases hc
  | .s _ _, .cond .., _, _, _, hc, _ => by cases hc
  | .s _ _, .block .., _, _, _, hc, _ => by cases hc
  | .s _ _, .loop .., _, _, _, hc, _ => by cases hc
  | .s _ _, .exit .., _, _, _, hc, _ => by cases hc
  | .s _ _, .ret, _, _, _, hc, _ => by cases hc
  | .s _ _, .rangeFunc .., _, _, _, hc, _ => by cases hc
  | .s _ _, .scope .., _, _, _, hc, _ => by cases hc
  | .s _ _, .label .., _, _, _, hc, _ => by cases hc
  | .s _ _, .goto .., _, _, _, hc, _ => by cases hc
  | .d _, .region .., _, _, _, hc, _ => by cases hc
  | .d _, .skip, _, _, _, hc, _ => by cases hc
  | .d _, .cond .., _, _, _, hc, _ => by cases hc
  | .d _, .block .., _, _, _, hc, _ => by cases hc
  | .d _, .loop .., _, _, _, hc, _ => by cases hc
  | .d _, .exit .., _, _, _, hc, _ => by cases hc
  | .d _, .ret, _, _, _, hc, _ => by cases hc
  | .d _, .rangeFunc .., _, _, _, hc, _ => by cases hc
  | .d _, .scope .., _, _, _, hc, _ => by cases hc
  | .d _, .label .., _, _, _, hc, _ => by cases hc
  | .d _, .goto .., _, _, _, hc, _ => by cases hc
  | .d _, .seq .skip _, _, _, _, hc, _ => by cases hc
  | .d _, .seq (.seq ..) _, _, _, _, hc, _ => by cases hc
  | .d _, .seq (.cond ..) _, _, _, _, hc, _ => by cases hc
  | .d _, .seq (.block ..) _, _, _, _, hc, _ => by cases hc
  | .d _, .seq (.loop ..) _, _, _, _, hc, _ => by cases hc
  | .d _, .seq (.exit ..) _, _, _, _, hc, _ => by cases hc
  | .d _, .seq .ret _, _, _, _, hc, _ => by cases hc
  | .d _, .seq (.rangeFunc ..) _, _, _, _, hc, _ => by cases hc
  | .d _, .seq (.scope ..) _, _, _, _, hc, _ => by cases hc
  | .d _, .seq (.label ..) _, _, _, _, hc, _ => by cases hc
  | .d _, .seq (.goto ..) _, _, _, _, hc, _ => by cases hc
/-- A FUNCTION THAT DEFERS ONE CLOSURE -/
theorem callsP_of_swD {f : FuncId} {fn : Func} {D : DAnn} {args : Array Value} {w : World} {K : Value → World → Prop} {Kp : List PanicEntry → World → Prop}
    (hm : P.follows .mixedOrders = true) (hf : P.funcs[f]? = some fn) (hb : fn.body.isSome = true) (hc : chkD P fn D (bodyOf fn) = true)
    (h : swD P fn K Kp D (bodyOf fn) (args.toList ++ List.replicate (fn.ntmps - args.size) undef) w) : oCallP P f args w K Kp := by
  obtain ⟨c, hbc⟩ := Option.isSome_iff_exists.1 hb
  have hbody : bodyOf fn = c := by simp [bodyOf, hbc]
  rw [hbody] at hc h
  refine (callsIn_wide (n := 0)).1 (callsIn_of_wp_marks (F := FW none) hf hbc trivial ?_)
  have hact : ({ tmps := args ++ Array.replicate (fn.ntmps - args.size) undef, defers := [] } : Act) = act (args.toList ++ List.replicate (fn.ntmps - args.size) undef) [] := by
    simp only [act, Act.mk.injEq, and_true]
    apply Array.ext'
    simp
  rw [hact]
  refine wpIn_mono (swD_sound (f := f) hm D c _ w (by rw [List.length_append, List.length_replicate]; simp; omega) hc h) fun x a w h => ?_
  cases x <;> exact h
theorem calls_of_swD {f : FuncId} {fn : Func} {D : DAnn} {args : Array Value} {w : World} {K : Value → World → Prop}
    (hm : P.follows .mixedOrders = true) (hf : P.funcs[f]? = some fn) (hb : fn.body.isSome = true) (hc : chkD P fn D (bodyOf fn) = true)
    (h : swD P fn K (fun _ _ => False) D (bodyOf fn) (args.toList ++ List.replicate (fn.ntmps - args.size) undef) w) : oCall P f args w K := by
  refine (callsP_of_swD hm hf hb hc h).mono fun x w' hx => ?_
  cases x with
  | returned v => exact ⟨v, rfl, hx⟩
  | panicked c => exact hx.elim
  | outgrown => exact hx.elim
end
end Go.Sh
