/-
  A region's operations as a chain: quiet ones (they yield one value in this world and in every world that only grows out of it, and leave the world as it is) and loud ones. One chain serves every order that a drawn region may take.
-/
import Derived.RangeFuncLeaves
import Derived.RangeFuncSeq
import Derived.OrdersIn
import Derived.Below
namespace Go.Sh
open Go.RowKit

/-- The world has only grown: whatever lay there lies there as it lay. -/
abbrev Ext (w w' : World) : Prop := Below w.heap.size w w'
theorem Ext.refl (w : World) : Ext w w := Below.refl _ _
theorem Ext.trans {a b c : World} (h : Ext a b) (k : Ext b c) : Ext a c := Below.trans h (k.mono h.size)

/-- The wide fence, in a round or not. -/
def FW (ro : Option Nat) : Fence := { fn := fun _ => True, depth := none, alive := false, round := ro }

inductive Kind where
  | p | q | l | u
  deriving DecidableEq, Repr

/-- what a quiet operation yields: in this world and in every one that grows out of it -/
def qYields (P : Program) (o : Oper) (a : Act) (w : World) (v : Value) : Prop :=
  ∀ w', Ext w w' → (execOp a.eval o).run P w' = .ok (.value v) w'
/-- what a pure one yields: in every world -/
def pYields (P : Program) (o : Oper) (a : Act) (v : Value) : Prop :=
  ∀ w', (execOp a.eval o).run P w' = .ok (.value v) w'

/-- in which order the operations are taken; 'alt': this one first, or as the rest says -/
inductive Tr where
  | nil
  | op (i : Nat) (k : Kind) (t : Tr)
  | alt (i : Nat) (k : Kind) (t r : Tr)
def pre : List (Nat × Kind) → Tr → Tr
  | [], t => t
  | (i, k) :: l, t => .op i k (pre l t)
def Tr.lin : Tr → Option (List Nat)
  | .nil => some []
  | .op i _ t => t.lin.map (i :: ·)
  | .alt .. => none
def Tr.pairs : Tr → List (Nat × Kind)
  | .nil => []
  | .op i k t => (i, k) :: t.pairs
  | .alt i k t r => (i, k) :: (t.pairs ++ r.pairs)

/-- one operation of the walk -/
def stepK (ro : Option Nat) (P : Program) (ops : Array Oper) (Q : Exit → Act → World → Prop) (i : Nat) (k : Kind) (K : Act → World → Prop) (a : Act) (w : World) : Prop :=
  match ops[i]? with
  | none => False
  | some o =>
    if Region.wanted o (yielded ops a.tmps) then
      match k with
      | .p => ∃ v, pYields P o a v ∧ K (a.put o.dst v) w
      | .q => ∃ v, qYields P o a w v ∧ K (a.put o.dst v) w
      | .l => o.uponIn (FW ro) 0 P a K Q ((execOp a.eval o).run P w)
      | .u => o.uponIn (FW ro) 0 P a (fun a' w' => Ext w w' ∧ K a' w') Q ((execOp a.eval o).run P w)
    else K (a.put o.dst undef) w

def chain (ro : Option Nat) (P : Program) (ops : Array Oper) (Q : Exit → Act → World → Prop) : Tr → Act → World → Prop
  | .nil, a, w => Q .normal a w
  | .op i k t, a, w => stepK ro P ops Q i k (chain ro P ops Q t) a w
  | .alt i k t r, a, w => stepK ro P ops Q i k (chain ro P ops Q t) a w ∧ chain ro P ops Q r a w

/-! ### A region in the text's order -/
def noDefer (ops : Array Oper) : Bool := ops.all fun o => match o.op with | .defer _ => false | _ => true
theorem noDefer_spec {ops : Array Oper} (h : noDefer ops = true) {j : Nat} {o : Oper} (ho : ops[j]? = some o) (c : Call) : o.op ≠ .defer c := by
  intro heq
  have := Array.all_eq_true_iff_forall_mem.1 h o (Array.mem_of_getElem? ho)
  simp [heq] at this

theorem uponIn_mono {ro : Option Nat} {P : Program} {Q : Exit → Act → World → Prop} {o : Oper} {a : Act} {K K' : Act → World → Prop} {r : Result Next} (h : ∀ a w, K a w → K' a w)
    (hh : o.uponIn (FW ro) 0 P a K Q r) : o.uponIn (FW ro) 0 P a K' Q r := by
  cases r with
  | ok x w' =>
    cases x <;> simp only [Oper.uponIn] at hh ⊢ <;>
      first
        | exact h _ _ hh
        | exact ⟨hh.1, CallsIn.mono hh.2 (fun e w'' he => by cases e <;> first | exact h _ _ he | exact he)⟩
        | exact ⟨hh.1, RowsIn.mono hh.2 (fun _ _ he => h _ _ he)⟩
        | exact ⟨hh.1, RoundIn.mono hh.2 (fun e w'' he => by cases e <;> first | exact h _ _ he | exact he)⟩
  | halt x w' => cases x <;> simp only [Oper.uponIn] at hh ⊢ <;> exact hh

theorem wpOpIn_of_stepK {ro : Option Nat} {P : Program} {ops : Array Oper} {Q : Exit → Act → World → Prop} (hd : noDefer ops = true) {i : Nat} {k : Kind} {K K' : Act → World → Prop} {a : Act} {w : World}
    (hK : ∀ a w, K a w → K' a w) (hh : stepK ro P ops Q i k K a w) : wpOpIn (FW ro) 0 P ops Q i K' a w := by
  unfold stepK at hh
  unfold wpOpIn
  cases ho : ops[i]? with
  | none => simp only [ho] at hh
  | some o =>
    simp only [ho] at hh ⊢
    split
    · rename_i hw
      simp only [hw, if_true] at hh
      refine ⟨fun _ _ => trivial, ?_⟩
      rw [Oper.semAt_eq _ _ o (fun c => noDefer_spec hd ho c)]
      cases k with
      | p => obtain ⟨v, h1, h2⟩ := hh; rw [h1 w]; exact hK _ _ h2
      | q => obtain ⟨v, h1, h2⟩ := hh; rw [h1 w (Ext.refl w)]; exact hK _ _ h2
      | l => exact uponIn_mono hK hh
      | u => exact uponIn_mono (fun a w hx => hK _ _ hx.2) hh
    · rename_i hw; simp only [hw] at hh; exact ⟨fun _ _ => trivial, hK _ _ hh⟩

theorem chain_ops {ro : Option Nat} {P : Program} {ops : Array Oper} {Q : Exit → Act → World → Prop} (hd : noDefer ops = true) :
    ∀ (t : Tr) (l : List Nat) (a : Act) (w : World), t.lin = some l → chain ro P ops Q t a w → wpOpsIn (FW ro) 0 P ops Q l a w
  | .nil, l, a, w, hl, h => by simp only [Tr.lin, Option.some.injEq] at hl; subst hl; exact h
  | .op i k t, l, a, w, hl, h => by
    simp only [Tr.lin, Option.map_eq_some_iff] at hl
    obtain ⟨l', hl', rfl⟩ := hl
    rw [wpOpsIn_cons]
    exact wpOpIn_of_stepK hd (fun a w h => chain_ops hd t l' a w hl' h) h
  | .alt i k t r, l, a, w, hl, h => by cases hl

theorem chain_region {ro : Option Nat} {P : Program} {id : Nat} {ops : Array Oper} {Q : Exit → Act → World → Prop} {a : Act} {w : World} {t : Tr}
    (hd : noDefer ops = true) (hl : t.lin = some (List.range ops.size)) (h : chain ro P ops Q t a w) : (Code.region id ops false).wpIn (FW ro) 0 P Q a w :=
  wpIn_region (chain_ops hd t _ a w hl h)

/-! ### A region that draws its order -/
/-- The operations ahead of each, through others too, as bits. -/
def preds (o : Oper) : List Nat := (o.after.toList.filter (Region.binds .any)).map (·.on)
def masks : List Oper → List Nat → List Nat
  | [], acc => acc
  | o :: r, acc => masks r (acc ++ [(preds o).foldl (fun s e => s ||| 2 ^ e ||| acc.getD e 0) 0])

inductive Ahead (ops : Array Oper) : Nat → Nat → Prop
  | one {i j : Nat} {o : Oper} (ho : ops[j]? = some o) (h : i ∈ preds o) : Ahead ops i j
  | more {i e j : Nat} {o : Oper} (ho : ops[j]? = some o) (h : e ∈ preds o) (h' : Ahead ops i e) : Ahead ops i j

theorem foldl_mask {acc : List Nat} {i : Nat} : ∀ (l : List Nat) (s : Nat), (l.foldl (fun s e => s ||| 2 ^ e ||| acc.getD e 0) s).testBit i = true →
    s.testBit i = true ∨ ∃ e ∈ l, e = i ∨ (acc.getD e 0).testBit i = true
  | [], s, h => .inl h
  | e :: l, s, h => by
    simp only [List.foldl_cons] at h
    rcases foldl_mask l _ h with h | ⟨e', he', h⟩
    · simp only [Nat.testBit_or, Bool.or_eq_true] at h
      rcases h with (h | h) | h
      · exact .inl h
      · refine .inr ⟨e, List.mem_cons_self, .inl ?_⟩
        rw [Nat.testBit_two_pow] at h; simpa using h
      · exact .inr ⟨e, List.mem_cons_self, .inr h⟩
    · exact .inr ⟨e', List.mem_cons_of_mem _ he', h⟩

theorem masks_spec {ops : Array Oper} : ∀ (l : List Oper) (acc : List Nat), (∀ j, l[j]? = ops[acc.length + j]?) →
    (∀ i j, (acc.getD j 0).testBit i = true → Ahead ops i j) → ∀ i j, ((masks l acc).getD j 0).testBit i = true → Ahead ops i j
  | [], acc, _, h, i, j, hb => h i j hb
  | o :: l, acc, hl, h, i, j, hb => by
    simp only [masks] at hb
    refine masks_spec l _ (fun j => ?_) (fun i j hij => ?_) i j hb
    · have := hl (j + 1)
      simp only [List.getElem?_cons_succ] at this
      rw [this, List.length_append, List.length_singleton]
      congr 1; omega
    · by_cases hj : j < acc.length
      · refine h i j ?_
        simpa [List.getD_eq_getElem?_getD, List.getElem?_append_left hj] using hij
      · by_cases hj' : j = acc.length
        · subst hj'
          simp only [List.getD_eq_getElem?_getD, List.getElem?_append_right (Nat.le_refl _), Nat.sub_self, List.getElem?_cons_zero, Option.getD_some] at hij
          have ho : ops[acc.length]? = some o := by have := hl 0; simpa using this.symm
          rcases foldl_mask _ _ hij with h0 | ⟨e, he, h0 | h0⟩
          · simp at h0
          · subst h0; exact .one ho he
          · exact .more ho he (h i e (by simpa [List.getD_eq_getElem?_getD] using h0))
        · have : (acc ++ [(preds o).foldl (fun s e => s ||| 2 ^ e ||| acc.getD e 0) 0]).getD j 0 = 0 := by
            rw [List.getD_eq_getElem?_getD, List.getElem?_eq_none (by simp; omega)]; rfl
          rw [this] at hij; simp at hij

theorem Ahead.listed {ops : Array Oper} {listed : Array Bool} (hc : ∀ j o, ops[j]? = some o → listed.getD j false = true → ∀ e ∈ preds o, listed.getD e false = true)
    {i j : Nat} (h : Ahead ops i j) : ∀ o, ops[j]? = some o → (∀ e ∈ preds o, listed.getD e false = true) → listed.getD i false = true := by
  induction h with
  | one ho h => intro o ho' hp; rw [ho] at ho'; cases ho'; exact hp _ h
  | more ho h h' ih =>
    intro o ho' hp
    rw [ho] at ho'; cases ho'
    cases h' with
    | one ho2 h2 => exact hc _ _ ho2 (hp _ h) _ h2
    | more ho2 h2 h3 => exact ih _ ho2 (fun e he => hc _ _ ho2 (hp _ h) e he)

/- The order in which the chain takes them is one that serves all. 'm': the masks; 'kd': the kinds. -/
mutual
def okT (ops : Array Oper) (m : List Nat) (kd : Nat → Kind) : Tr → Array Bool → Bool
  | .nil, listed => (Region.ready .any ops listed).isEmpty
  | .op i k t, listed =>
    kd i == k &&
    (match k with
    | .p => (Region.ready .any ops listed).contains i && Region.free .any ops listed i
    | .q =>
      (Region.ready .any ops listed).contains i && Region.free .any ops listed i &&
      (List.range ops.size).all (fun j => j == i || listed.getD j true || !(kd j == .l) || (m.getD j 0).testBit i)
    | _ => Region.ready .any ops listed == [i]) && okT ops m kd t (listed.setIfInBounds i true)
  | .alt i k t r, listed =>
    kd i == k && !(k == .q) && !(k == .p) &&
    (match Region.ready .any ops listed with
    | x :: rs => x == i && okB ops m kd r listed rs
    | [] => false) && okT ops m kd t (listed.setIfInBounds i true)
def okB (ops : Array Oper) (m : List Nat) (kd : Nat → Kind) : Tr → Array Bool → List Nat → Bool
  | .nil, _, _ => false
  | .op i k t, listed, rs => kd i == k && !(k == .q) && !(k == .p) && rs == [i] && okT ops m kd t (listed.setIfInBounds i true)
  | .alt i k t r, listed, rs =>
    kd i == k && !(k == .q) && !(k == .p) &&
    (match rs with
    | x :: rs => x == i && okB ops m kd r listed rs
    | [] => false) && okT ops m kd t (listed.setIfInBounds i true)
end

/-- What one operation that may come up now must do; K: what is asked behind it. -/
def stepC (ro : Option Nat) (P : Program) (ops : Array Oper) (Q : Exit → Act → World → Prop) (kd : Nat → Kind) (i : Nat) (K : Act → World → Prop) (a : Act) (w : World) : Prop :=
  stepK ro P ops Q i (kd i) K a w

def anyC (ro : Option Nat) (P : Program) (ops : Array Oper) (Q : Exit → Act → World → Prop) (kd : Nat → Kind) : Nat → Array Bool → Act → World → Prop
  | 0, listed, a, w => Region.ready .any ops listed = [] ∧ Q .normal a w
  | fuel + 1, listed, a, w =>
    (Region.ready .any ops listed = [] → Q .normal a w) ∧
    ∀ i ∈ Region.ready .any ops listed, stepC ro P ops Q kd i (anyC ro P ops Q kd fuel (listed.setIfInBounds i true)) a w

section
variable {ro : Option Nat} {P : Program} {ops : Array Oper} {Q : Exit → Act → World → Prop} {kd : Nat → Kind}

theorem stepC_mono {i : Nat} {a : Act} {w : World} {K K' : Act → World → Prop} (h : ∀ a w, K a w → K' a w)
    (hh : stepC ro P ops Q kd i K a w) : stepC ro P ops Q kd i K' a w := by
  unfold stepC stepK at *
  split
  · rename_i ho; simp only [ho] at hh
  · rename_i o ho
    simp only [ho] at hh
    split
    · rename_i hw
      simp only [hw, if_true] at hh
      cases hk : kd i <;> simp only [hk] at hh ⊢
      · obtain ⟨v, h1, h2⟩ := hh; exact ⟨v, h1, h _ _ h2⟩
      · obtain ⟨v, h1, h2⟩ := hh; exact ⟨v, h1, h _ _ h2⟩
      · exact uponIn_mono h hh
      · exact uponIn_mono (fun a w hx => ⟨hx.1, h _ _ hx.2⟩) hh
    · rename_i hw; simp only [hw] at hh; exact h _ _ hh

theorem wpAny_of_anyC (hd : noDefer ops = true) : ∀ (fuel : Nat) (listed : Array Bool) (a : Act) (w : World), anyC ro P ops Q kd fuel listed a w → wpAnyIn (FW ro) 0 P .any ops Q fuel listed a w
  | 0, _, _, _, h => h
  | fuel + 1, _, _, _, h => ⟨h.1, fun i hi => wpOpIn_of_stepK hd (fun a w => wpAny_of_anyC hd fuel _ a w) (h.2 i hi)⟩

/-- In state 'a', operation 'o' leaves 'v': a pure one in every world, a reading one in this world and in all that grow out of it. -/
def YieldsE (P : Program) (ops : Array Oper) (pure' : Bool) (o : Oper) (v : Value) (a : Act) (w : World) : Prop :=
  (Region.wanted o (yielded ops a.tmps) = true ∧ (if pure' then pYields P o a v else qYields P o a w v)) ∨ (Region.wanted o (yielded ops a.tmps) = false ∧ v = undef)
theorem YieldsE.stepC {i : Nat} {o : Oper} {v : Value} {a : Act} {w : World} {b : Bool} (hi : ops[i]? = some o) (hk : kd i = if b then .p else .q) (hy : YieldsE P ops b o v a w) {K : Act → World → Prop}
    (h : K (a.put o.dst v) w) : Sh.stepC ro P ops Q kd i K a w := by
  unfold Sh.stepC stepK
  simp only [hi]
  rcases hy with ⟨hw, hv⟩ | ⟨hw, rfl⟩
  · cases b <;> (simp only [hw, if_true, hk]; exact ⟨v, hv, h⟩)
  · simp only [hw, Bool.false_eq_true, if_false]; exact h
theorem YieldsE.of_same {o : Oper} {v : Value} {a a' : Act} {w : World} {b : Bool} (hy : YieldsE P ops b o v a w) (he : execOp a'.eval o = execOp a.eval o)
    (hw : Region.wanted o (yielded ops a'.tmps) = Region.wanted o (yielded ops a.tmps)) : YieldsE P ops b o v a' w := by
  unfold YieldsE qYields pYields at *
  rw [he, hw]; exact hy
theorem YieldsE.ext {o : Oper} {v : Value} {a : Act} {w w' : World} {b : Bool} (hy : YieldsE P ops b o v a w) (he : b = true ∨ Ext w w') : YieldsE P ops b o v a w' := by
  rcases hy with ⟨h1, h2⟩ | h
  · refine .inl ⟨h1, ?_⟩
    cases b with
    | true => exact h2
    | false => exact fun w'' h'' => h2 w'' ((he.resolve_left (by simp)).trans h'')
  · exact .inr h

theorem stepC_put {j : Nat} {oi oj : Oper} {v : Value} {b : Bool} (hj : ops[j]? = some oj) (hap : oi.apart ops oj = true)
    (hsi : ∀ cs b, oi.op ≠ .select cs b) (hsj : ∀ cs b, oj.op ≠ .select cs b) (hl : b = true ∨ kd j ≠ .l)
    (hQ : ∀ c a w, Q (.panic c) (a.put oi.dst v) w → Q (.panic c) a w) {K : Act → World → Prop} {a : Act} {w : World}
    (hy : YieldsE P ops b oi v a w) (h : stepC ro P ops Q kd j K (a.put oi.dst v) w) :
    stepC ro P ops Q kd j (fun a' w' => YieldsE P ops b oi v a' w' ∧ K (a'.put oi.dst v) w') a w := by
  obtain ⟨h1, h2, h3⟩ := Oper.apart_spec hap
  have keep : ∀ (a : Act) (w : World), YieldsE P ops b oi v a w → ∀ u, YieldsE P ops b oi v (a.put oj.dst u) w := fun a w hy u =>
    hy.of_same (execOp_put oi hsi a oj.dst u h3) (wanted_put oi a oj.dst u h3)
  unfold stepC stepK at *
  simp only [hj] at *
  rw [wanted_put oj a oi.dst v h1] at h
  split
  · rename_i hw
    simp only [hw, if_true] at h
    have loud : ∀ (G : World → Prop), (∀ w', G w' → b = true ∨ Ext w w') →
        oj.uponIn (FW ro) 0 P (a.put oi.dst v) (fun a' w' => G w' ∧ K a' w') Q ((execOp a.eval oj).run P w) →
        oj.uponIn (FW ro) 0 P a (fun a' w' => G w' ∧ YieldsE P ops b oi v a' w' ∧ K (a'.put oi.dst v) w') Q ((execOp a.eval oj).run P w) := by
      intro G hG h
      generalize (execOp a.eval oj).run P w = r at *
      cases r with
      | ok n w' =>
        cases n <;> simp only [Oper.uponIn] at h ⊢
        case value u => exact ⟨h.1, keep a _ (hy.ext (hG _ h.1)) u, by rw [← Act.put_comm a v u h2]; exact h.2⟩
        case skip => exact ⟨h.1, keep a _ (hy.ext (hG _ h.1)) _, by rw [← Act.put_comm a v undef h2]; exact h.2⟩
        case defer d =>
          refine ⟨h.1, ?_, ?_⟩
          · exact keep { a with defers := d :: a.defers } w' ((hy.ext (hG _ h.1)).of_same rfl rfl) undef
          · rw [← Act.put_comm _ v undef h2, ← Act.put_defers]
            exact h.2
        case enter f args =>
          refine ⟨h.1, CallsIn.mono h.2 fun e w'' he => ?_⟩
          cases e with
          | returned u => exact ⟨he.1, keep a _ (hy.ext (hG _ he.1)) u, by rw [← Act.put_comm a v u h2]; exact he.2⟩
          | panicked c => exact hQ _ _ _ he
          | outgrown => exact he
        case row row args => exact ⟨h.1, RowsIn.mono h.2 fun u w'' he => ⟨he.1, keep a _ (hy.ext (hG _ he.1)) u, by rw [← Act.put_comm a v u h2]; exact he.2⟩⟩
        case round l f t x y =>
          refine ⟨h.1, RoundIn.mono h.2 fun e w'' he => ?_⟩
          cases e with
          | returned u => exact ⟨he.1, keep a _ (hy.ext (hG _ he.1)) u, by rw [← Act.put_comm a v u h2]; exact he.2⟩
          | panicked c => exact hQ _ _ _ he
          | outgrown => exact he
      | halt x w' =>
        cases x <;> simp only [Oper.uponIn] at h ⊢
        case panic u => exact hQ _ _ _ h
    cases hk : kd j <;> simp only [hk] at h ⊢
    · obtain ⟨u, hu, hn⟩ := h
      refine ⟨u, ?_, keep a w hy u, by rw [← Act.put_comm a v u h2]; exact hn⟩
      unfold pYields at *
      rwa [execOp_put oj hsj a oi.dst v h1] at hu
    · obtain ⟨u, hu, hn⟩ := h
      refine ⟨u, ?_, keep a w hy u, by rw [← Act.put_comm a v u h2]; exact hn⟩
      unfold qYields at *
      rwa [execOp_put oj hsj a oi.dst v h1] at hu
    · rw [execOp_put oj hsj a oi.dst v h1] at h
      have hb : b = true := hl.resolve_right fun h => h hk
      exact uponIn_mono (fun a w h => h.2) (loud (fun _ => True) (fun _ _ => .inl hb) (uponIn_mono (fun a w h => ⟨trivial, h⟩) h))
    · rw [execOp_put oj hsj a oi.dst v h1] at h
      exact loud (fun w' => Ext w w') (fun _ h => .inr h) h
  · rename_i hw
    simp only [hw] at h
    exact ⟨keep a w hy _, by rw [← Act.put_comm a v undef h2]; exact h⟩

/-- Everything ahead of what has come up has come up. -/
def Shut (ops : Array Oper) (listed : Array Bool) : Prop := ∀ j o, ops[j]? = some o → listed.getD j false = true → ∀ e ∈ preds o, listed.getD e false = true

theorem mem_preds {o : Oper} {e : Nat} : e ∈ preds o ↔ ∃ x ∈ o.after, Region.binds .any x = true ∧ x.on = e := by
  simp only [preds, List.mem_map, List.mem_filter]
  constructor
  · rintro ⟨x, ⟨hx, hb⟩, rfl⟩; exact ⟨x, by simpa using hx, hb, rfl⟩
  · rintro ⟨x, hx, hb, rfl⟩; exact ⟨x, ⟨by simpa using hx, hb⟩, rfl⟩
theorem Shut.set {listed : Array Bool} {i : Nat} (h : Shut ops listed) (hr : i ∈ Region.ready .any ops listed) : Shut ops (listed.setIfInBounds i true) := by
  intro j o ho hl e he
  refine getD_set_true ?_
  by_cases hij : i = j
  · subst hij
    obtain ⟨_, o', ho', hall⟩ := mem_ready.1 hr
    rw [ho] at ho'; cases ho'
    obtain ⟨x, hx, hb, rfl⟩ := mem_preds.1 he
    exact hall x hx hb
  · rw [getD_set_ne false hij] at hl
    exact h j o ho hl e he

theorem anyC_first {i : Nat} {oi : Oper} {v : Value} {b : Bool} (hi : ops[i]? = some oi) (hki : kd i = if b then .p else .q) (hsel : ∀ (j : Nat) (o : Oper) cs b, ops[j]? = some o → o.op ≠ .select cs b)
    (hQ : ∀ c a w, Q (.panic c) (a.put oi.dst v) w → Q (.panic c) a w) :
    ∀ (fuel : Nat) (listed : Array Bool) (a : Act) (w : World), Shut ops listed →
      (∀ j, j ≠ i → listed.getD j true = false → kd j = .l → b = true ∨ Ahead ops i j) →
      (∀ j oj, ops[j]? = some oj → j ≠ i → listed.getD j true = false → (∀ e ∈ oj.after, Region.binds .any e = true → e.on ≠ i) → oi.apart ops oj = true) →
      i ∈ Region.ready .any ops listed → YieldsE P ops b oi v a w →
      anyC ro P ops Q kd fuel (listed.setIfInBounds i true) (a.put oi.dst v) w → anyC ro P ops Q kd (fuel + 1) listed a w := by
  intro fuel
  induction fuel with
  | zero =>
    intro listed a w _ _ _ hr hy H
    refine ⟨fun h => (by rw [h] at hr; cases hr), fun j hj => ?_⟩
    by_cases hji : j = i
    · subst hji; exact hy.stepC hi hki H
    · have := ready_mono hj hji
      rw [H.1] at this
      cases this
  | succ fuel ih =>
    intro listed a w hsh hseal hfree hr hy H
    refine ⟨fun h => (by rw [h] at hr; cases hr), fun j hj => ?_⟩
    by_cases hji : j = i
    · subst hji; exact hy.stepC hi hki H
    · have h1 := H.2 j (ready_mono hj hji)
      obtain ⟨hjun, oj, hoj, hall⟩ := mem_ready.1 hj
      have hiun : listed.getD i false = false := by
        have h0 := (mem_ready.1 hr).1
        rcases Nat.lt_or_ge i listed.size with h' | h'
        · simp [h'] at h0 ⊢; exact h0
        · simp [Array.getElem?_eq_none h']
      have hl : b = true ∨ kd j ≠ .l := Classical.byContradiction fun hn => by
        simp only [not_or, Classical.not_not] at hn
        obtain ⟨hb, hk⟩ := hn
        have hah := (hseal j hji hjun hk).resolve_left hb
        have := hah.listed hsh oj hoj (fun e he => by obtain ⟨x, hx, hb, rfl⟩ := mem_preds.1 he; exact hall x hx hb)
        rw [hiun] at this; cases this
      have hnot : ∀ e ∈ oj.after, Region.binds .any e = true → e.on ≠ i := fun e he hb heq => by
        have h1 := hall e he hb
        rw [heq, hiun] at h1; cases h1
      have h2 := stepC_put hoj (hfree j oj hoj hji hjun hnot) (fun cs b => hsel i oi cs b hi) (fun cs b => hsel j oj cs b hoj) hl hQ hy h1
      have hset : ∀ k, (listed.setIfInBounds j true).getD k true = false → listed.getD k true = false := fun k hun => by
        by_cases hjk : j = k
        · subst hjk; exact hjun
        · rwa [getD_set_ne true hjk] at hun
      refine stepC_mono (fun a' w' h3 => ih (listed.setIfInBounds j true) a' w' (hsh.set hj) (fun k hk hun hkl => hseal k hk (hset k hun) hkl)
        (fun k ok hk hki' hun hno => hfree k ok hk hki' (hset k hun) hno) (ready_mono hr (Ne.symm hji)) h3.1 ?_) h2
      rw [Array.setIfInBounds_comm _ _ hji]
      exact h3.2

theorem less_fuel {listed : Array Bool} {i f : Nat} (hun : listed.getD i true = false)
    (h : ∀ l : List Nat, l.Nodup → (∀ i ∈ l, listed.getD i true = false) → l.length ≤ f + 1) :
    ∀ l : List Nat, l.Nodup → (∀ j ∈ l, (listed.setIfInBounds i true).getD j true = false) → l.length ≤ f := by
  intro l hn hl
  have hlt : i < listed.size := by
    rcases Nat.lt_or_ge i listed.size with h' | h'
    · exact h'
    · simp [Array.getElem?_eq_none h'] at hun
  have hne : ∀ j ∈ l, i ≠ j := fun j hj he => by
    subst he
    have := hl i hj
    simp [hlt] at this
  have := h (i :: l) (List.nodup_cons.2 ⟨fun hi => hne i hi rfl, hn⟩) (fun j hj => by
    rcases List.mem_cons.1 hj with rfl | hj
    · exact hun
    · have := hl j hj; rwa [getD_set_ne true (hne j hj)] at this)
  simpa using this

mutual
theorem chain_any {m : List Nat} (hsel : Region.noSelect ops = true) (hm : ∀ i j, (m.getD j 0).testBit i = true → Ahead ops i j)
    (hQ : ∀ (i : Nat) (o : Oper), ops[i]? = some o → ∀ (v : Value) c a w, Q (.panic c) (a.put o.dst v) w → Q (.panic c) a w) :
    ∀ (t : Tr) (fuel : Nat) (listed : Array Bool) (a : Act) (w : World), listed.size = ops.size → Shut ops listed → okT ops m kd t listed = true → chain ro P ops Q t a w →
      (∀ l : List Nat, l.Nodup → (∀ i ∈ l, listed.getD i true = false) → l.length ≤ fuel) → anyC ro P ops Q kd fuel listed a w
  | .nil, fuel, listed, a, w, _, _, hok, h, _ => by
    have hr : Region.ready .any ops listed = [] := by simpa [okT] using hok
    cases fuel with
    | zero => exact ⟨hr, h⟩
    | succ f => exact ⟨fun _ => h, fun i hi => by rw [hr] at hi; cases hi⟩
  | .op i k t, fuel, listed, a, w, hsz, hsh, hok, h, hfuel => by
    simp only [okT, Bool.and_eq_true, beq_iff_eq] at hok
    obtain ⟨⟨hkd, hk⟩, hok⟩ := hok
    have hmem : i ∈ Region.ready .any ops listed := by
      cases k with
      | p => simp only [Bool.and_eq_true] at hk; simpa using hk.1
      | q => simp only [Bool.and_eq_true] at hk; simpa using hk.1.1
      | l => simp only [beq_iff_eq] at hk; rw [hk]; exact List.mem_cons_self
      | u => simp only [beq_iff_eq] at hk; rw [hk]; exact List.mem_cons_self
    have hun : listed.getD i true = false := (mem_ready.1 hmem).1
    obtain ⟨f, rfl⟩ : ∃ f, fuel = f + 1 := by
      have := hfuel [i] (by simp) (by simpa using hun)
      exact ⟨fuel - 1, by simp at this; omega⟩
    have hfuel' := less_fuel hun hfuel
    have next := fun a' w' (hc : chain ro P ops Q t a' w') => chain_any hsel hm hQ t f (listed.setIfInBounds i true) a' w' (by simpa using hsz) (hsh.set hmem) hok hc hfuel'
    have loud : Region.ready .any ops listed = [i] → anyC ro P ops Q kd (f + 1) listed a w := fun hr =>
      ⟨fun h0 => (by rw [hr] at h0; cases h0), fun j hj => by
        rw [hr, List.mem_singleton] at hj
        subst hj
        have h : stepC ro P ops Q kd j (chain ro P ops Q t) a w := by unfold stepC; rw [hkd]; exact h
        exact stepC_mono next h⟩
    cases k with
    | l => simp only [beq_iff_eq] at hk; exact loud hk
    | u => simp only [beq_iff_eq] at hk; exact loud hk
    | p =>
      simp only [Bool.and_eq_true] at hk
      obtain ⟨_, hf⟩ := hk
      simp only [chain, stepK] at h
      cases ho : ops[i]? with
      | none => simp only [ho] at h
      | some o =>
        simp only [ho] at h
        have hy : ∃ v, YieldsE P ops true o v a w ∧ chain ro P ops Q t (a.put o.dst v) w := by
          by_cases hw : Region.wanted o (yielded ops a.tmps) = true
          · simp only [hw, if_true] at h
            obtain ⟨v, h1, h2⟩ := h
            exact ⟨v, .inl ⟨hw, h1⟩, h2⟩
          · simp only [hw] at h
            exact ⟨undef, .inr ⟨by simpa using hw, rfl⟩, h⟩
        obtain ⟨v, hy, hc⟩ := hy
        exact anyC_first (b := true) ho hkd (Region.noSelect_spec hsel) (hQ _ _ ho _) f listed a w hsh (fun _ _ _ _ => .inl rfl) (Region.free_spec ho hf) hmem hy (next _ _ hc)
    | q =>
      simp only [Bool.and_eq_true] at hk
      obtain ⟨⟨_, hf⟩, hall⟩ := hk
      simp only [chain, stepK] at h
      cases ho : ops[i]? with
      | none => simp only [ho] at h
      | some o =>
        simp only [ho] at h
        have hy : ∃ v, YieldsE P ops false o v a w ∧ chain ro P ops Q t (a.put o.dst v) w := by
          by_cases hw : Region.wanted o (yielded ops a.tmps) = true
          · simp only [hw, if_true] at h
            obtain ⟨v, h1, h2⟩ := h
            exact ⟨v, .inl ⟨hw, h1⟩, h2⟩
          · simp only [hw] at h
            exact ⟨undef, .inr ⟨by simpa using hw, rfl⟩, h⟩
        obtain ⟨v, hy, hc⟩ := hy
        refine anyC_first (b := false) ho hkd (Region.noSelect_spec hsel) (hQ _ _ ho _) f listed a w hsh ?_ (Region.free_spec ho hf) hmem hy (next _ _ hc)
        intro j hj hunj hkj
        have hlt : j < ops.size := by
          rcases Nat.lt_or_ge j listed.size with h' | h'
          · rw [hsz] at h'; exact h'
          · simp [Array.getElem?_eq_none h'] at hunj
        have := List.all_eq_true.1 hall j (List.mem_range.2 hlt)
        simp only [hunj, hkj, Bool.or_false, Bool.or_eq_true, beq_iff_eq, hj, false_or, beq_self_eq_true, Bool.not_true] at this
        exact .inr (hm i j (by simpa using this))
  | .alt i k t r, fuel, listed, a, w, hsz, hsh, hok, h, hfuel => by
    simp only [okT, Bool.and_eq_true, beq_iff_eq] at hok
    obtain ⟨⟨⟨⟨hkd, _⟩, _⟩, hb⟩, hok⟩ := hok
    cases hr : Region.ready .any ops listed with
    | nil => rw [hr] at hb; cases hb
    | cons x rs =>
      rw [hr] at hb
      simp only [Bool.and_eq_true, beq_iff_eq] at hb
      obtain ⟨rfl, hb⟩ := hb
      have hmem : x ∈ Region.ready .any ops listed := by rw [hr]; exact List.mem_cons_self
      have hun : listed.getD x true = false := (mem_ready.1 hmem).1
      obtain ⟨f, rfl⟩ : ∃ f, fuel = f + 1 := by
        have := hfuel [x] (by simp) (by simpa using hun)
        exact ⟨fuel - 1, by simp at this; omega⟩
      refine ⟨fun h0 => (by rw [hr] at h0; cases h0), fun j hj => ?_⟩
      rw [hr] at hj
      rcases List.mem_cons.1 hj with rfl | hj
      · have h1 : stepC ro P ops Q kd j (chain ro P ops Q t) a w := by unfold stepC; rw [hkd]; exact h.1
        exact stepC_mono (fun a' w' hc => chain_any hsel hm hQ t f (listed.setIfInBounds j true) a' w' (by simpa using hsz) (hsh.set hmem) hok hc (less_fuel hun hfuel)) h1
      · exact branch_any hsel hm hQ r f listed rs a w hsz hsh (fun y hy => by rw [hr]; exact List.mem_cons_of_mem _ hy) hb h.2 hfuel j hj
theorem branch_any {m : List Nat} (hsel : Region.noSelect ops = true) (hm : ∀ i j, (m.getD j 0).testBit i = true → Ahead ops i j)
    (hQ : ∀ (i : Nat) (o : Oper), ops[i]? = some o → ∀ (v : Value) c a w, Q (.panic c) (a.put o.dst v) w → Q (.panic c) a w) :
    ∀ (t : Tr) (f : Nat) (listed : Array Bool) (rs : List Nat) (a : Act) (w : World), listed.size = ops.size → Shut ops listed → (∀ y ∈ rs, y ∈ Region.ready .any ops listed) → okB ops m kd t listed rs = true → chain ro P ops Q t a w →
      (∀ l : List Nat, l.Nodup → (∀ i ∈ l, listed.getD i true = false) → l.length ≤ f + 1) → ∀ j ∈ rs, stepC ro P ops Q kd j (anyC ro P ops Q kd f (listed.setIfInBounds j true)) a w
  | .nil, _, _, _, _, _, _, _, _, hok, _, _ => by cases hok
  | .op i k t, f, listed, rs, a, w, hsz, hsh, hrs, hok, h, hfuel => by
    simp only [okB, Bool.and_eq_true, beq_iff_eq] at hok
    obtain ⟨⟨⟨⟨hkd, _⟩, _⟩, rfl⟩, hok⟩ := hok
    intro j hj
    rw [List.mem_singleton] at hj
    subst hj
    have hmem := hrs j List.mem_cons_self
    have h1 : stepC ro P ops Q kd j (chain ro P ops Q t) a w := by unfold stepC; rw [hkd]; exact h
    exact stepC_mono (fun a' w' hc => chain_any hsel hm hQ t f (listed.setIfInBounds j true) a' w' (by simpa using hsz) (hsh.set hmem) hok hc (less_fuel (mem_ready.1 hmem).1 hfuel)) h1
  | .alt i k t r, f, listed, rs, a, w, hsz, hsh, hrs, hok, h, hfuel => by
    simp only [okB, Bool.and_eq_true, beq_iff_eq] at hok
    obtain ⟨⟨⟨⟨hkd, _⟩, _⟩, hb⟩, hok⟩ := hok
    cases rs with
    | nil => cases hb
    | cons x rs =>
      simp only [Bool.and_eq_true, beq_iff_eq] at hb
      obtain ⟨rfl, hb⟩ := hb
      have hmem := hrs x List.mem_cons_self
      intro j hj
      rcases List.mem_cons.1 hj with rfl | hj
      · have h1 : stepC ro P ops Q kd j (chain ro P ops Q t) a w := by unfold stepC; rw [hkd]; exact h.1
        exact stepC_mono (fun a' w' hc => chain_any hsel hm hQ t f (listed.setIfInBounds j true) a' w' (by simpa using hsz) (hsh.set hmem) hok hc (less_fuel (mem_ready.1 hmem).1 hfuel)) h1
      · exact branch_any hsel hm hQ r f listed rs a w hsz hsh (fun y hy => hrs y (List.mem_cons_of_mem _ hy)) hb h.2 hfuel j hj
end
end

/-- The kinds as a function of the number. -/
def kindOf (l : List (Nat × Kind)) (i : Nat) : Kind := match l.find? (fun x => x.1 == i) with | some x => x.2 | none => .p

theorem nodup_len : ∀ (n : Nat) (l : List Nat), l.Nodup → (∀ i ∈ l, i < n) → l.length ≤ n
  | 0, l, _, h => by
    cases l with
    | nil => simp
    | cons a l => exact absurd (h a List.mem_cons_self) (by omega)
  | n + 1, l, hn, h => by
    have h1 := nodup_len n (l.erase n) (hn.erase n) fun i hi => by
      have h2 := (hn.mem_erase_iff).1 hi
      have := h i h2.2
      have := h2.1
      omega
    by_cases hm : n ∈ l
    · rw [List.length_erase_of_mem hm] at h1; omega
    · rw [List.erase_of_not_mem hm] at h1; omega

def okDraw (ops : Array Oper) (t : Tr) : Bool :=
  noDefer ops && Region.noSelect ops && okT ops (masks ops.toList []) (kindOf t.pairs) t (Array.replicate ops.size false)

theorem chain_draw {ro : Option Nat} {P : Program} {id : Nat} {ops : Array Oper} {Q : Exit → Act → World → Prop} {a : Act} {w : World} {t : Tr}
    (hm : P.follows .mixedOrders = true) (hQ : ∀ (i : Nat) (o : Oper), ops[i]? = some o → ∀ (v : Value) c a w, Q (.panic c) (a.put o.dst v) w → Q (.panic c) a w)
    (hl : okDraw ops t = true) (h : chain ro P ops Q t a w.drew) : (Code.region id ops true).wpIn (FW ro) 0 P Q a w := by
  simp only [okDraw, Bool.and_eq_true] at hl
  obtain ⟨⟨hd, hs⟩, ho⟩ := hl
  refine wpIn_region_any hm (wpAny_of_anyC (kd := kindOf t.pairs) hd _ _ _ _ ?_)
  refine chain_any (ro := ro) (P := P) (kd := kindOf t.pairs) hs (masks_spec ops.toList [] (by simp) (by simp)) hQ t _ (Array.replicate ops.size false) a w.drew (by simp)
    (fun j o _ hj => by
      exfalso
      rcases Nat.lt_or_ge j ops.size with h' | h' <;> simp [h'] at hj) ho h ?_
  intro l hn hl
  refine nodup_len _ l hn fun i hi => ?_
  have := hl i hi
  rcases Nat.lt_or_ge i ops.size with h' | h'
  · exact h'
  · simp [h'] at this
end Go.Sh
