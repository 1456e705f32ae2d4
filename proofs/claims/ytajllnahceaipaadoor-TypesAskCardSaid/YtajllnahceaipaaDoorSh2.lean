/-
  A shallow reading of a function's code: 'sw' turns code, its frame's values and what is asked at each way out into a plain proposition; 'sw_sound' leads it to the walk's own 'wpIn'.
-/
import Derived.Test.YtajllnahceaipaaDoorSh1
import Derived.RangeFuncNested
namespace Go.Sh
open Go.RowKit

abbrev Env := List Value
def at' (e : Env) (t : Nat) : Value := e.getD t undef
def ev (e : Env) : Operand → Value
  | .tmp t => e.getD t undef
  | .const v => v
  | .global g => .pointer (some ⟨g, 0, none⟩)
  | .func f => .func (.func f) #[] #[]
def st (e : Env) (d : Option Nat) (v : Value) : Env := match d with | some d => e.set d v | none => e
def act (e : Env) (ds : List Deferred) : Act := ⟨e.toArray, ds⟩

theorem act_eval (e : Env) (ds : List Deferred) : (act e ds).eval = ev e := by
  funext x
  cases x <;> simp [act, ev, Act.eval]
theorem act_put (e : Env) (ds : List Deferred) (d : Option Nat) (v : Value) : (act e ds).put d v = act (st e d v) ds := by
  cases d <;> simp [act, st, Act.put]

/-! ### The operations -/
/-- a value that is read: the same in every world that grows out of this one -/
def Rd (P : Program) (w : World) (s : Sem Value) (v : Value) : Prop := ∀ w', Ext w w' → s.run P w' = .ok v w'
def opQ (P : Program) (w : World) (s : Sem Value) (K : Value → Prop) : Prop := ∃ v, Rd P w s v ∧ K v
def opW (P : Program) (w : World) (s : Sem Value) (K : Value → World → Prop) : Prop := ∃ v w', s.run P w = .ok v w' ∧ K v w'
def opU (P : Program) (w : World) (s : Sem Unit) (K : World → Prop) : Prop := ∃ w', s.run P w = .ok () w' ∧ K w'
def oPick (c x y : Value) (K : Value → Prop) : Prop := ∃ b, c = .bool b ∧ K (if b then x else y)
def nnil : Value → Bool
  | .pointer none | .nilIface | .nilFunc => false
  | .func (.method _) _ _ => false
  | _ => true
def oNil (x : Value) (K : Value → Prop) : Prop := nnil x = true ∧ K x

/-- '==' and '!=' ask first whether both are nil values of an interface type, neither the literal nil -/
def eqG (op : BinOp) (t : TypeId) (c : Bool) (a b : Value) : Sem Unit := do
  if !(op matches .eql | .neq) then return
  match a, b with
  | .nilIface, .nilIface =>
    if c then return
    if ← Op.eqGuardIn Op.maxDepth t a b then unsupported (.noEntry "binop/eql: two nil values of an interface type with methods, neither of them the literal nil")
  | .agg _, .agg _ =>
    if !(← program).eqGuardType (← program).depth t then return
    if ← Op.eqGuardIn Op.maxDepth t a b then unsupported (.noEntry "binop/eql: two nil values of an interface type with methods, in a part of a struct or an array")
  | _, _ => pure ()
def isC : Operand → Bool
  | .const _ => true
  | _ => false
theorem eqG_eq (op : BinOp) (t : TypeId) (x y : Operand) (a b : Value) : eqGuard op t x y a b = eqG op t (isC x || isC y) a b := by
  unfold eqGuard eqG
  have h : ∀ x y : Operand, ((x matches .const _) || (y matches .const _)) = (isC x || isC y) := by
    intro x y; cases x <;> cases y <;> rfl
  cases op <;> first | rfl | (cases a <;> first | rfl | (cases b <;> first | rfl | (simp only [← h])))
def bsem (op : BinOp) (t : TypeId) (c : Bool) (a b : Value) : Sem Value := do eqG op t c a b; binOp op t a b

def opP (P : Program) (s : Sem Value) (K : Value → Prop) : Prop := ∃ v, (∀ w, s.run P w = .ok v w) ∧ K v

/-- a quiet operation; R: what is asked of what it computes -/
def qStep (R : Sem Value → (Value → Prop) → Prop) (o : Oper) (e : Env) (K : Env → Prop) : Prop :=
  match o.op with
  | .move x | .assign x => K (st e o.dst (ev e x))
  | .pick c a b => oPick (ev e c) (ev e a) (ev e b) fun v => K (st e o.dst v)
  | .nilCheck x => oNil (ev e x) fun v => K (st e o.dst v)
  | .load t a => R (Instr.loadAt t (ev e a)) fun v => K (st e o.dst v)
  | .binOp op t x y _ => R (bsem op t (isC x || isC y) (ev e x) (ev e y)) fun v => K (st e o.dst v)
  | .unOp op _ x => R (Op.unary op (ev e x)) fun v => K (st e o.dst v)
  | .convert s d x => R (convert s d (ev e x)) fun v => K (st e o.dst v)
  | .fieldAddr s x f => R (Instr.fieldAt s (ev e x) f) fun v => K (st e o.dst v)
  | .field t x f => R (Instr.field t (ev e x) f) fun v => K (st e o.dst v)
  | .indexAddr t x i => R (Instr.indexAt t (ev e x) (ev e i)) fun v => K (st e o.dst v)
  | .index t x i => R (Instr.index t (ev e x) (ev e i)) fun v => K (st e o.dst v)
  | .slice t x lo hi mx => R (Instr.sliceAt t (ev e x) (lo.map (ev e)) (hi.map (ev e)) (mx.map (ev e))) fun v => K (st e o.dst v)
  | .extract x i => R (Instr.extract (ev e x) i) fun v => K (st e o.dst v)
  | .build t parts => R (Instr.build t (parts.map fun (i, x) => (i, ev e x))) fun v => K (st e o.dst v)
  | .makeFunc fn first captured => R (Instr.makeFunc fn (first.map (ev e)) (captured.map (ev e))) fun v => K (st e o.dst v)
  | .makeInterface t x => R (Instr.makeInterface t (ev e x)) fun v => K (st e o.dst v)
  | .typeAssert x t u ok => R (Instr.typeAssert (ev e x) t u ok) fun v => K (st e o.dst v)
  | .lookup t x i ok => R (Instr.lookup t (ev e x) (ev e i) ok) fun v => K (st e o.dst v)
  | .call c => match c.callee with
    | .builtin .len => R (Builtin.len_ c.argTypes o.type (c.args.map (ev e))) fun v => K (st e o.dst v)
    | .builtin .cap => R (Builtin.cap_ c.argTypes o.type (c.args.map (ev e))) fun v => K (st e o.dst v)
    | .builtin .min => R (Builtin.min_ c.argTypes o.type (c.args.map (ev e))) fun v => K (st e o.dst v)
    | .builtin .max => R (Builtin.max_ c.argTypes o.type (c.args.map (ev e))) fun v => K (st e o.dst v)
    | _ => False
  | _ => False

/-- a call of a function -/
def oCall (P : Program) (f : FuncId) (args : Array Value) (w : World) (K : Value → World → Prop) : Prop :=
  Calls P f args w fun e w' => ∃ v, e = .returned v ∧ K v w'
/-- .. that may panic -/
def oCallP (P : Program) (f : FuncId) (args : Array Value) (w : World) (K : Value → World → Prop) (Kp : List PanicEntry → World → Prop) : Prop :=
  Calls P f args w fun
    | .returned v, w' => K v w'
    | .panicked c, w' => Kp c w'
    | .outgrown, _ => False
def enters (P : Program) (f : FuncId) : Bool :=
  match P.funcs[f]? with
  | some fn => !(fn.name == "runtime.NumGoroutine") && fn.body.isSome
  | none => false
/-- a call of yield -/
def YieldC (P : Program) (l : Nat) (args : Array Value) (w : World) (R : Ending → World → Prop) : Prop :=
  ∃ fn tmps assign body, (Instr.yield l args).run P w = .ok (.round l fn tmps assign body) w ∧ RoundIn (FW none) 0 P l fn tmps assign body w R
def oCallV (P : Program) (f : Value) (args : Array Value) (w : World) (K : Value → World → Prop) : Prop :=
  match f with
  | .func (.func f) first cap => enters P f = true ∧ oCall P f (first ++ args ++ cap) w K
  | .func (.yield l) first _ => YieldC P l (first ++ args) w fun e w' => ∃ v, e = .returned v ∧ K v w'
  | _ => False
def oCallVP (P : Program) (f : Value) (args : Array Value) (w : World) (K : Value → World → Prop) (Kp : List PanicEntry → World → Prop) : Prop :=
  match f with
  | .func (.func f) first cap => enters P f = true ∧ oCallP P f (first ++ args ++ cap) w K Kp
  | _ => False

def Obj.isBook : Obj → Bool
  | .deferred _ => true
  | .loop _ => true
  | _ => false
/-- the blocks that the walk's own book-keeping leans on lie as they lay -/
def NC (w w' : World) : Prop := w.heap.size ≤ w'.heap.size ∧ ∀ (b : Nat) (o : Obj), w.heap[b]? = some o → Obj.isBook o = true → w'.heap[b]? = some o

/-- what is asked of the walk: 'marks': the code ranges over functions; 'pan': it may panic -/
structure Cf where
  marks : Bool
  pan : Bool
def kw (m : Bool) (w : World) (K : Value → World → Prop) : Value → World → Prop :=
  match m with
  | true => fun v w' => NC w w' ∧ K v w'
  | false => K

/-- a loud operation -/
def lStep (cf : Cf) (P : Program) (Kp : List PanicEntry → World → Prop) (o : Oper) (e : Env) (w : World) (K : Value → World → Prop) : Prop :=
  match o.op with
  | .store t a x => opU P w (Instr.storeAt t (ev e a) (ev e x)) (kw cf.marks w K undef)
  | .mapUpdate t m k x | .insert t m k x => opU P w (Instr.mapUpdate t (ev e m) (ev e k) (ev e x)) (kw cf.marks w K undef)
  | .box elem x => opW P w (Instr.box elem (ev e x)) (kw cf.marks w K)
  | .alloc elem => opW P w (Instr.alloc elem true (.tuple #[])) (kw cf.marks w K)
  | .buildSlice t len parts => opW P w (Instr.buildSlice t len (parts.map fun (i, x) => (i, ev e x))) (kw cf.marks w K)
  | .makeMap t r => opW P w (Instr.makeMap t (r.map (ev e))) (kw cf.marks w K)
  | .makeSlice t l c => opW P w (Instr.makeSlice t (ev e l) (ev e c)) (kw cf.marks w K)
  | .convert s d x => opW P w (convert s d (ev e x)) (kw cf.marks w K)
  | .range t x => opW P w (Instr.range t (ev e x)) (kw cf.marks w K)
  | .next it s => opW P w (Instr.next (ev e it) s o.type) (kw cf.marks w K)
  | .entry it => opW P w (Instr.entry (ev e it)) (kw cf.marks w K)
  | .binOp op t x y _ => opW P w (bsem op t (isC x || isC y) (ev e x) (ev e y)) (kw cf.marks w K)
  | .load t a => opW P w (Instr.loadAt t (ev e a)) (kw cf.marks w K)
  | .panic x => match cf.pan with
    | true => ∃ v w', (Instr.panic (ev e x)).run P w = .halt (.panic v) w' ∧ (cf.marks = true → NC w w') ∧ Kp [{ v, recovered := false }] w'
    | false => False
  | .call c => match c.callee with
    | .builtin .append => opW P w (Builtin.append_ c.argTypes o.type (c.args.map (ev e))) (kw cf.marks w K)
    | .builtin .copy => opW P w (Builtin.copy_ c.argTypes o.type (c.args.map (ev e))) (kw cf.marks w K)
    | .builtin .delete => opW P w (Builtin.delete_ c.argTypes o.type (c.args.map (ev e))) (kw cf.marks w K)
    | .builtin .clear => opW P w (Builtin.clear_ c.argTypes o.type (c.args.map (ev e))) (kw cf.marks w K)
    | .value (.func f) => match cf.pan with
      | true => oCallP P f (c.args.map (ev e)) w (kw cf.marks w K) (fun c' w' => (cf.marks = true → NC w w') ∧ Kp c' w')
      | false => oCall P f (c.args.map (ev e)) w (kw cf.marks w K)
    | .value f => match cf.pan with
      | true => oCallVP P (ev e f) (c.args.map (ev e)) w (kw cf.marks w K) (fun c' w' => (cf.marks = true → NC w w') ∧ Kp c' w')
      | false => oCallV P (ev e f) (c.args.map (ev e)) w (kw cf.marks w K)
    | _ => False
  | _ => False

/-- What is asked of an operation before: that it is of a served kind. -/
def opOK (P : Program) (o : Oper) (k : Kind) : Bool :=
  match k, o.op with
  | .p, _ => true
  | .q, _ => true
  | _, .call c => match c.callee with
    | .value (.func f) => enters P f
    | _ => true
  | _, _ => true

/-! ### The notes beside code -/
inductive RI where
  | nil
  | op (i : Nat) (k : Kind) (t : RI)
  | grp (v : Nat) (want : Bool) (its : List (Nat × Kind)) (live : List Nat) (t : RI)
  | alt (i : Nat) (k : Kind) (t r : RI)
inductive Ann where
  | n
  | r (its : RI)
  | s (a b : Ann)
  | j (live : List Nat) (a b : Ann)
  | c (a b : Ann)
  | b (a : Ann)
  | lp (live : List Nat) (a : Ann)
  | rf (ids : List Nat) (a b : Ann)

def idx : List Nat → Nat → Nat → Option Nat
  | [], _, _ => none
  | a :: l, t, k => match Nat.beq a t with | true => some k | false => idx l t (k + 1)
def has : List Nat → Nat → Bool
  | [], _ => false
  | a :: l, t => match Nat.beq a t with | true => true | false => has l t
/-- a frame's values behind a piece of code: the live slots have 's', the others that it writes have 'd' -/
def mix (ws live : List Nat) (s d : List Value) : Env → Nat → Env
  | [], _ => []
  | v :: r, t => (match idx live t 0 with | some k => s.getD k undef | none => match has ws t with | true => d.getD t undef | false => v) :: mix ws live s d r (t + 1)

/-- the ways meet again -/
def sJoin (X : (List Value → World → Prop) → Prop) (Y : List Value → List Value → World → Prop) : Prop :=
  ∀ K : List Value → World → Prop, (∀ s w, (∀ d, Y s d w) → K s w) → X K
/-- a loop: a family of states, what holds in them, a measure -/
def sLoop (init : List Value) (w : World) (body : List Value → List Value → World → (List Value → World → Prop) → Prop) : Prop :=
  ∃ (ι : Type) (f : ι → List Value) (I : ι → World → Prop) (μ : ι → Nat) (i₀ : ι), init = f i₀ ∧ I i₀ w ∧
    ∀ i d w', I i w' → body (f i) d w' fun l w'' => ∃ i', l = f i' ∧ I i' w'' ∧ μ i' < μ i
def gIf (v : Value) (want : Bool) (A B : Prop) : Prop :=
  match v with
  | .bool b => if b = want then A else B
  | _ => B
def oCond (v : Value) (A B : Prop) : Prop :=
  match v with
  | .bool true => A
  | .bool false => B
  | _ => False

/-- blocks of S apart, the world has only grown -/
structure ExtBut (S : Nat → Prop) (w w' : World) : Prop where
  os : w'.os = w.os
  tape : w'.tape = w.tape
  output : w'.output = w.output
  size : w.heap.size ≤ w'.heap.size
  block : ∀ k, k < w.heap.size → ¬ S k → w'.heap[k]? = w.heap[k]?
/-- book-keeping from block n on apart, the world has only grown -/
structure Nl (n : Nat) (w w' : World) : Prop where
  os : w'.os = w.os
  tape : w'.tape = w.tape
  output : w'.output = w.output
  size : w.heap.size ≤ w'.heap.size
  block : ∀ (k : Nat) (o : Obj), w.heap[k]? = some o → (k < n ∨ Obj.isBook o = false) → w'.heap[k]? = some o

/-- AN ITERATOR's CONTRACT: the function value g, made by world w, hands these to yield, one by one, until it is told to stop. S: what the rounds may write. -/
def IterC (P : Program) (g : Value) (w : World) (xs : List (List Value)) (S : Nat → Prop) : Prop :=
  ∃ gf cap, g = .func (.func gf) #[] cap ∧ enters P gf = true ∧
    ∀ (l : Nat) (W : World) (J : Nat → World → Prop) (Jx : World → Prop), Ext w W → w.heap.size ≤ l → l < W.heap.size →
      (∀ k W1 W2, J k W1 → Ext W1 W2 → J k W2) → (∀ W1 W2, Jx W1 → Ext W1 W2 → Jx W2) →
      (∀ k x W1, xs[k]? = some x → J k W1 → YieldC P l x.toArray W1 fun e W2 =>
        ∃ b, e = .returned (.bool b) ∧ ExtBut (fun b => S b ∨ b = l) W1 W2 ∧ if b then J (k + 1) W2 else Jx W2) →
      J 0 W → Calls P gf (#[.func (.yield l) #[] #[]] ++ cap) W fun e W' => (∃ v, e = .returned v) ∧ (J xs.length W' ∨ Jx W')

def rj (J : Nat → World → Prop) (Jx : Exit → World → Prop) (k : Nat) : Exit → World → Prop
  | .normal, w => J (k + 1) w
  | .panic _, _ => False
  | .outgrown, _ => False
  | e, w => Jx e w
/-- a range over a function -/
def oRange (P : Program) (n : Nat) (g : Value) (w : World) (round : List Value → World → (Nat → Prop) → (Exit → World → Prop) → Prop) (Kn Kr : World → Prop) (Kx : List (Nat × (World → Prop))) : Prop :=
  ∃ (xs : List (List Value)) (S : Nat → Prop) (J : Nat → World → Prop) (Jx : Exit → World → Prop),
    (∀ b, S b → ∃ o, w.heap[b]? = some o ∧ Obj.isBook o = false) ∧ IterC P g w xs S ∧ (∀ x ∈ xs, x.length = n) ∧
    (∀ k W W', J k W → Nl w.heap.size W W' → J k W') ∧ (∀ e W W', Jx e W → Nl w.heap.size W W' → Jx e W') ∧ J 0 w ∧
    (∀ k x W, xs[k]? = some x → J k W → round x W S fun e W2 => rj J Jx k e W2) ∧
    (∀ W, J xs.length W → Kn W) ∧ (∀ W, Jx .ret W → Kr W) ∧ (∀ id W, Jx (.exit id) W → ∃ K, (id, K) ∈ Kx ∧ K W) ∧ (∀ l W, ¬ Jx (.goto l) W)

def setP : List Nat → List Value → Nat → Env → Env
  | [], _, _, e => e
  | p :: ps, x, k, e => setP ps x (k + 1) (e.set p (x.getD k undef))

/-! ### The slots that code writes -/
def dsts (ops : Array Oper) : List (Nat × Kind) → List Nat
  | [] => []
  | (i, _) :: r => match ops[i]? with
    | some o => (match o.dst with | some d => d :: dsts ops r | none => dsts ops r)
    | none => dsts ops r
def wrR (ops : Array Oper) : List Nat := ops.toList.filterMap (·.dst)
def wr : Code → List Nat
  | .region _ ops _ => wrR ops
  | .seq a b | .cond _ a b => wr a ++ wr b
  | .block _ a | .loop a | .scope a => wr a
  | _ => []

/-! ### Regions -/
def opsw (cf : Cf) (P : Program) (Kp : List PanicEntry → World → Prop) (ops : Array Oper) : List (Nat × Kind) → Env → World → (Env → World → Prop) → Prop
  | [], e, w, K => K e w
  | (i, k) :: r, e, w, K => match ops[i]? with
    | none => False
    | some o => match k with
      | .p => qStep (opP P) o e fun e' => opsw cf P Kp ops r e' w K
      | .q => qStep (opQ P w) o e fun e' => opsw cf P Kp ops r e' w K
      | .l => lStep cf P Kp o e w fun v w' => opsw cf P Kp ops r (st e o.dst v) w' K
      | .u => lStep cf P Kp o e w fun v w' => Ext w w' ∧ opsw cf P Kp ops r (st e o.dst v) w' K
def unds (ops : Array Oper) : List (Nat × Kind) → Env → Env
  | [], e => e
  | (i, _) :: r, e => match ops[i]? with
    | none => e
    | some o => unds ops r (st e o.dst undef)
def rstep (cf : Cf) (P : Program) (Kp : List PanicEntry → World → Prop) (ops : Array Oper) (i : Nat) (k : Kind) (e : Env) (w : World) (K : Env → World → Prop) : Prop :=
  match ops[i]? with
  | none => False
  | some o => match k with
    | .p => qStep (opP P) o e fun e' => K e' w
    | .q => qStep (opQ P w) o e fun e' => K e' w
    | .l => lStep cf P Kp o e w fun v w' => K (st e o.dst v) w'
    | .u => lStep cf P Kp o e w fun v w' => Ext w w' ∧ K (st e o.dst v) w'
def rsw (cf : Cf) (P : Program) (Kp : List PanicEntry → World → Prop) (ops : Array Oper) : RI → Env → World → (Env → World → Prop) → Prop
  | .nil, e, w, K => K e w
  | .op i k t, e, w, K => rstep cf P Kp ops i k e w fun e' w' => rsw cf P Kp ops t e' w' K
  | .grp v want its live t, e, w, K =>
    sJoin (fun K' => gIf (e.getD v undef) want (opsw cf P Kp ops its e w fun e' w' => K' (live.map fun t => e'.getD t undef) w')
        (K' (live.map fun t => (unds ops its e).getD t undef) w))
      (fun s d w' => rsw cf P Kp ops t (mix (dsts ops its) live s d e 0) w' K)
  | .alt i k t r, e, w, K => rstep cf P Kp ops i k e w (fun e' w' => rsw cf P Kp ops t e' w' K) ∧ rsw cf P Kp ops r e w K
def flat : RI → Tr
  | .nil => .nil
  | .op i k t => .op i k (flat t)
  | .grp _ _ its _ t => pre its (flat t)
  | .alt i k t r => .alt i k (flat t) (flat r)

def drawW (d : Bool) (w : World) : World := match d with | true => w.drew | false => w

/-- THE SHALLOW READING -/
def sw (cf : Cf) (P : Program) (Kp : List PanicEntry → World → Prop) : Ann → Code → Env → World → (Exit → Env → World → Prop) → Prop
  | .r its, .region _ ops draw, e, w, Q => rsw cf P Kp ops its e (drawW draw w) (Q .normal)
  | .s A B, .seq a b, e, w, Q => sw cf P Kp A a e w fun
    | .normal, e', w' => sw cf P Kp B b e' w' Q
    | x, e', w' => Q x e' w'
  | .j live A B, .seq a b, e, w, Q => sJoin (fun K => sw cf P Kp A a e w fun
      | .normal, e', w' => K (live.map fun t => e'.getD t undef) w'
      | x, e', w' => Q x e' w')
    (fun s d w' => sw cf P Kp B b (mix (wr a) live s d e 0) w' Q)
  | .c A B, .cond c a b, e, w, Q => oCond (ev e c) (sw cf P Kp A a e w Q) (sw cf P Kp B b e w Q)
  | .b A, .block id a, e, w, Q => sw cf P Kp A a e w fun
    | .exit id', e', w' => match Nat.beq id' id with | true => Q .normal e' w' | false => Q (.exit id') e' w'
    | x, e', w' => Q x e' w'
  | .lp live A, .loop a, e, w, Q => sLoop (live.map fun t => e.getD t undef) w fun s d w' K => sw cf P Kp A a (mix (wr a) live s d e 0) w' fun
    | .normal, e', w'' => K (live.map fun t => e'.getD t undef) w''
    | x, e', w'' => Q x e' w''
  | .rf ids A B, .rangeFunc g ps assign body, e, w, Q => oRange P ps.size (ev e g) w
      (fun x w1 S KR => sw { cf with pan := false } P (fun _ _ => False) A assign (setP ps.toList x 0 e) w1 fun
        | .normal, e2, w2 => Ext w1 w2 ∧ ∀ w3, Nl w.heap.size w2 w3 → sw { cf with pan := false } P (fun _ _ => False) B body e2 w3 fun y _ w4 => ExtBut S w3 w4 ∧ KR y w4
        | _, _, _ => False)
      (fun w' => Q .normal e w') (fun w' => Q .ret e w') (ids.map fun id => (id, fun w' => Q (.exit id) e w'))
  | _, .skip, e, w, Q => Q .normal e w
  | _, .label _, e, w, Q => Q .normal e w
  | _, .exit id, e, w, Q => Q (.exit id) e w
  | _, .ret, e, w, Q => Q .ret e w
  | _, _, _, _, _ => False

/-! ### A function -/
def bodyOf (f : Func) : Code := f.body.getD .skip
/-- the blocks that the ranges over functions have left are shut; all else lies as it lay -/
structure Shuts (n : Nat) (w w' : World) : Prop where
  os : w'.os = w.os
  tape : w'.tape = w.tape
  output : w'.output = w.output
  size : w'.heap.size = w.heap.size
  block : ∀ (k : Nat), (k < n ∨ ∀ ds, w.heap[k]? ≠ some (.deferred ds)) → w'.heap[k]? = w.heap[k]?
def cellSem (t : TypeId) (a : Value) : Sem Value := do loadVar t (← asAddr a)
def resQ (P : Program) (w : World) (e : Env) : List ResultVar → (List Value → Prop) → Prop
  | [], K => K []
  | .tmp t :: r, K => resQ P w e r fun vs => K (e.getD t undef :: vs)
  | .cell a t :: r, K => opQ P w (cellSem t (e.getD a undef)) fun v => resQ P w e r fun vs => K (v :: vs)
def tup : List Value → Value
  | [v] => v
  | vs => .tuple vs.toArray
/-- what is asked where a function is left -/
def finQ (m : Bool) (P : Program) (f : Func) (n : Nat) (e : Env) (w : World) (K : Value → World → Prop) : Prop :=
  match m with
  | false => resQ P w e f.results.toList fun vs => K (tup vs) w
  | true => ∀ w', Shuts n w w' → resQ P w' e f.results.toList fun vs => K (tup vs) w'
def topQ (m : Bool) (P : Program) (f : Func) (w : World) (K : Value → World → Prop) : Exit → Env → World → Prop
  | .normal, e, w' => finQ m P f w.heap.size e w' K
  | .ret, e, w' => finQ m P f w.heap.size e w' K
  | _, _, _ => False

/-! ### What is asked of code and notes, by reckoning -/
def subB : List Nat → List Nat → Bool
  | [], _ => true
  | a :: l, m => has m a && subB l m
def okOp (P : Program) (ops : Array Oper) (i : Nat) (k : Kind) : Bool :=
  match ops[i]? with | some o => o.guard.isNone && opOK P o k | none => false
def okIts (P : Program) (ops : Array Oper) : RI → Bool
  | .nil => true
  | .op i k t => okOp P ops i k && okIts P ops t
  | .grp v want its _ t =>
    its.all (fun x => match ops[x.1]? with
      | some o => opOK P o x.2 && (match o.guard with
        | some (j, b) => b == want && (match ops[j]? with | some oj => oj.dst == some v | none => false)
        | none => false)
      | none => false) && !has (dsts ops its) v && okIts P ops t
  | .alt i k t r => okOp P ops i k && okIts P ops t && okIts P ops r
def chkR (P : Program) (its : RI) (ops : Array Oper) (draw : Bool) : Bool :=
  okIts P ops its && (match draw with
    | true => okDraw ops (flat its)
    | false => noDefer ops && (flat its).lin == some (List.range ops.size))
def chk (cf : Cf) (P : Program) (rd : Bool) : Ann → Code → Bool
  | .r its, .region _ ops draw => chkR P its ops draw
  | .s A B, .seq a b => chk cf P rd A a && chk cf P rd B b
  | .j _ A B, .seq a b => chk cf P rd A a && chk cf P rd B b
  | .c A B, .cond _ a b => chk cf P rd A a && chk cf P rd B b
  | .b A, .block _ a => chk cf P rd A a
  | .lp _ A, .loop a => chk cf P rd A a
  | .rf _ A B, .rangeFunc _ _ a b => cf.marks && chk { cf with pan := false } P true A a && chk { cf with pan := false } P true B b
  | _, .skip => true
  | _, .label _ => true
  | _, .exit _ => true
  | _, .ret => true
  | _, _ => false
end Go.Sh
