/-
  Contracts: Read's answers told at once; rows' blocks.
-/
import Derived.Test.YtgbfpnnimnjbdaaDoorCj
namespace Go.Proofs
open Go.Sh Go.BM
set_option maxRecDepth 100000

/-- what Read answers: width, words, place, error -/
structure RdO where
  W : Int
  ws : List (BitVec 64)
  at' : Nat
  e : Int
noncomputable def readO (W : Int) (s : ByteArray) : RdO :=
  @ite _ (0 ≤ W ∧ W ≤ 1032) (Classical.propDecidable _) (match readR W s with | .inl i => ⟨0, [], i, 10⟩ | .inr ws => ⟨W, ws, 0, 0⟩) ⟨0, [], 0, 2⟩
theorem readO_bad {W : Int} {s : ByteArray} (h : ¬ (0 ≤ W ∧ W ≤ 1032)) : readO W s = ⟨0, [], 0, 2⟩ := by unfold readO; rw [if_neg h]
theorem readO_inl {W : Int} {s : ByteArray} (h : 0 ≤ W ∧ W ≤ 1032) {i : Nat} (hi : readR W s = .inl i) : readO W s = ⟨0, [], i, 10⟩ := by unfold readO; rw [if_pos h, hi]
theorem readO_inr {W : Int} {s : ByteArray} (h : 0 ≤ W ∧ W ≤ 1032) {ws : List (BitVec 64)} (hi : readR W s = .inr ws) : readO W s = ⟨W, ws, 0, 0⟩ := by unfold readO; rw [if_pos h, hi]
theorem readR_length {W : Int} {s : ByteArray} {ws : List (BitVec 64)} (h : readR W s = .inr ws) : ws.length = (W.toNat + 63) / 64 := by
  unfold readR at h
  simp only at h
  split at h
  · cases h
  · split at h
    · cases h; rw [turnAll_length, List.length_replicate]
    · cases h
theorem readO_length (W : Int) (s : ByteArray) : (readO W s).ws.length ≤ 17 := by
  by_cases h : 0 ≤ W ∧ W ≤ 1032
  · cases hr : readR W s with
    | inl i => rw [readO_inl h hr]; simp
    | inr ws => rw [readO_inr h hr]; have := readR_length hr; show ws.length ≤ 17; omega
  · rw [readO_bad h]; simp
theorem c_bits_ReadO {w : World} {W : Int} {s : ByteArray} {K : Value → World → Prop} (hs : s.size < 9223372036854775807)
    (h : ∀ v w', Ext w w' → FreshRow w' w.heap.size v (readO W s).W (readO W s).ws → K (.tuple #[v, .int .i64 ((readO W s).at' : Int), err (readO W s).e]) w') : oCall Tryd.prog Tryd.n_bits_Read #[.int .i64 W, .string s] w K := by
  refine c_bits_Read (fun hn w' e => ?_) (fun h0 h1 i hi w' e => ?_) (fun h0 h1 ws hw v w' e hf => ?_) hs
  · rw [readO_bad hn] at h; exact h _ _ e (row0_fresh _ _)
  · rw [readO_inl ⟨h0, h1⟩ hi] at h; exact h _ _ e (row0_fresh _ _)
  · rw [readO_inr ⟨h0, h1⟩ hw] at h; exact h _ _ e hf
theorem c_ref01_ReadO {w : World} {W : Int} {s : ByteArray} {K : Value → World → Prop} (hs : s.size < 9223372036854775807)
    (h : ∀ v w', Ext w w' → FreshRow w' w.heap.size v (readO W s).W (readO W s).ws → K (.tuple #[v, .int .i64 ((readO W s).at' : Int), .int .i64 (readO W s).e]) w') : oCall Tryd.prog Tryd.n_ref01_Read #[.int .i64 W, .string s] w K := by
  refine c_ref01_Read (fun hn w' e => ?_) (fun h0 h1 i hi w' e => ?_) (fun h0 h1 ws hw v w' e hf => ?_) hs
  · rw [readO_bad hn] at h; exact h _ _ e (row0_fresh _ _)
  · rw [readO_inl ⟨h0, h1⟩ hi] at h; exact h _ _ e (row0_fresh _ _)
  · rw [readO_inr ⟨h0, h1⟩ hw] at h; exact h _ _ e hf
theorem FreshRow.lt {w : World} {n : Nat} {v : Value} {W : Int} {ws : List (BitVec 64)} (h : FreshRow w n v W ws) : ws ≠ [] → ∀ b cap, v = .agg #[.int .i64 W, .slice (some ⟨b, 0, none⟩) ws.length cap] → b < w.heap.size := by
  obtain ⟨p, cap', h1, h2⟩ := h
  intro hne b cap hv
  rw [h1] at hv; cases hv
  rcases h2.2.2 with h | ⟨b', c, q1, q2, q3, _⟩
  · exact absurd h hne
  · cases q1; exact q3.lt
/-- a row of the outer memory, behind writes to blocks of the call's own -/
theorem RowV.keep {S : Nat → Prop} {w w1 w2 : World} {v : Value} {W : Int} {ws : List (BitVec 64)} (h : RowV w v W ws) (e : Ext w w1) (x : ExtBut S w1 w2) (hS : ∀ b, S b → w.heap.size ≤ b) : RowV w2 v W ws :=
  ((h.rowS e hS).but x).row
/-- two rows that were told, the same, and the one that it must be: the one is written over -/
theorem k_held {w : World} {va vb vc : Value} {W : Int} {ws : List (BitVec 64)} {n m : Nat} {wa : World} {K : Value → World → Prop}
    (ha : FreshRow wa n va W ws) (hma : wa.heap.size ≤ m) (ea : Ext wa w) (hb : RowS (fun b => n ≤ b ∧ b < m) w vb W ws) (hc : RowS (fun b => n ≤ b ∧ b < m) w vc W ws) (hlen : ws.length < 9223372036854775807) (hm : m ≤ w.heap.size)
    (h : ∀ w', ExtBut (fun b => n ≤ b ∧ b < m) w w' → K (.bool true) w') : oCall Tryd.prog Tryd.n_law01_held #[va, vb, vc] w K :=
  c_law01_held (ha.ext ea) (fun hne b cap hv => by have := ha.lt hne b cap hv; omega) hm hb hc hlen h

/-! ### Each answer told at once -/
noncomputable def bytesO (W : Int) (ws : List (BitVec 64)) : ByteArray × Int := if mayB W ws then (strOf (bytesOf W ws), 0) else (⟨#[]⟩, 2)
theorem bytesO_may {W : Int} {ws : List (BitVec 64)} (h : May W ws) : bytesO W ws = (strOf (bytesOf W ws), 0) := by simp [bytesO, mayB_true h]
theorem bytesO_not {W : Int} {ws : List (BitVec 64)} (h : ¬ May W ws) : bytesO W ws = (⟨#[]⟩, 2) := by simp [bytesO, mayB_false h]
theorem c_bits_BytesO {w : World} {v : Value} {W : Int} {ws : List (BitVec 64)} {K : Value → World → Prop} (hT : Tab w) (hr : RowV w v W ws)
    (h : ∀ w', Ext w w' → K (.tuple #[.string (bytesO W ws).1, err (bytesO W ws).2]) w') : oCall Tryd.prog Tryd.n_bits_Bytes #[v] w K := by
  refine c_bits_Bytes hT hr (fun hm w' e => ?_) (fun hm w' e => ?_)
  · rw [bytesO_not hm] at h; exact h _ e
  · rw [bytesO_may hm] at h; exact h _ e
/-- what is told of a row: width, words, error -/
structure RwO where
  W : Int
  ws : List (BitVec 64)
  e : Int
noncomputable def RwO.of (p : Prop) (W : Int) (ws : List (BitVec 64)) : RwO := @ite _ p (Classical.propDecidable _) ⟨W, ws, 0⟩ ⟨0, [], 2⟩
theorem RwO.pos {p : Prop} {W : Int} {ws : List (BitVec 64)} (h : p) : RwO.of p W ws = ⟨W, ws, 0⟩ := by unfold RwO.of; rw [if_pos h]
theorem RwO.neg {p : Prop} {W : Int} {ws : List (BitVec 64)} (h : ¬ p) : RwO.of p W ws = ⟨0, [], 2⟩ := by unfold RwO.of; rw [if_neg h]
theorem RwO.of_length {p : Prop} {W : Int} {ws : List (BitVec 64)} {n : Nat} (h : p → ws.length ≤ n) : (RwO.of p W ws).ws.length ≤ n := by
  by_cases hp : p
  · rw [RwO.pos hp]; exact h hp
  · rw [RwO.neg hp]; exact Nat.zero_le _
theorem RwO.step {p : Prop} {W : Int} {ws : List (BitVec 64)} {w : World} {K : Value → World → Prop}
    (h : ∀ v' w', Ext w w' → FreshRow w' w.heap.size v' (RwO.of p W ws).W (RwO.of p W ws).ws → K (.tuple #[v', err (RwO.of p W ws).e]) w') :
    (¬ p → ∀ w', Ext w w' → K (.tuple #[row0, err 2]) w') ∧ (p → ∀ v' w', Ext w w' → FreshRow w' w.heap.size v' W ws → K (.tuple #[v', err 0]) w') := by
  constructor
  · intro hp w' e; rw [RwO.neg hp] at h; exact h _ _ e (row0_fresh _ _)
  · intro hp v' w' e hf; rw [RwO.pos hp] at h; exact h _ _ e hf
noncomputable def newO (W : Int) : RwO := RwO.of (0 ≤ W ∧ W ≤ 1032) W (zeros W)
noncomputable def ownO (W : Int) (ws : List (BitVec 64)) : RwO := RwO.of (May W ws) W ws
noncomputable def turnO (g : BitVec 64 → BitVec 64 → BitVec 64) (W : Int) (ws : List (BitVec 64)) (ls : List Int) : RwO := RwO.of (May W ws ∧ AllIn W ls) W (turnAll g ws ls)
noncomputable def joinO (g : BitVec 64 → BitVec 64 → BitVec 64) (W : Int) (ws : List (BitVec 64)) (W2 : Int) (vs : List (BitVec 64)) : RwO := RwO.of (May W ws ∧ May W2 vs ∧ W = W2) W (List.zipWith g ws vs)
theorem may_length {W : Int} {ws : List (BitVec 64)} (h : May W ws) : ws.length ≤ 17 := by have := h.2.1; have := h.2.2.1; omega
theorem newO_length (W : Int) : (newO W).ws.length ≤ 17 := RwO.of_length fun h => by rw [zeros, List.length_replicate]; omega
theorem ownO_length (W : Int) (ws : List (BitVec 64)) : (ownO W ws).ws.length ≤ 17 := RwO.of_length fun h => may_length h
theorem turnO_length (g : BitVec 64 → BitVec 64 → BitVec 64) (W : Int) (ws : List (BitVec 64)) (ls : List Int) : (turnO g W ws ls).ws.length ≤ 17 := RwO.of_length fun h => by rw [turnAll_length]; exact may_length h.1
theorem joinO_length (g : BitVec 64 → BitVec 64 → BitVec 64) (W : Int) (ws : List (BitVec 64)) (W2 : Int) (vs : List (BitVec 64)) : (joinO g W ws W2 vs).ws.length ≤ 17 :=
  RwO.of_length fun h => by rw [List.length_zipWith]; have := may_length h.1; omega
theorem c_bits_NewO {w : World} {W : Int} {K : Value → World → Prop} (h : ∀ v' w', Ext w w' → FreshRow w' w.heap.size v' (newO W).W (newO W).ws → K (.tuple #[v', err (newO W).e]) w') : oCall Tryd.prog Tryd.n_bits_New #[.int .i64 W] w K :=
  c_bits_New (RwO.step h).1 fun h1 h2 => (RwO.step h).2 ⟨h1, h2⟩
theorem c_ref01_NewO {w : World} {W : Int} {K : Value → World → Prop} (h : ∀ v' w', Ext w w' → FreshRow w' w.heap.size v' (newO W).W (newO W).ws → K (.tuple #[v', err (newO W).e]) w') : oCall Tryd.prog Tryd.n_ref01_New #[.int .i64 W] w K :=
  c_ref01_New (RwO.step h).1 fun h1 h2 => (RwO.step h).2 ⟨h1, h2⟩
theorem c_bits_OwnO {w : World} {v : Value} {W : Int} {ws : List (BitVec 64)} {K : Value → World → Prop} (hr : RowV w v W ws)
    (h : ∀ v' w', Ext w w' → FreshRow w' w.heap.size v' (ownO W ws).W (ownO W ws).ws → K (.tuple #[v', err (ownO W ws).e]) w') : oCall Tryd.prog Tryd.n_bits_Own #[v] w K :=
  c_bits_Own hr (RwO.step h).1 (RwO.step h).2
theorem c_bits_SetO {w : World} {v : Value} {W : Int} {ws : List (BitVec 64)} {p1 : Option Addr} {cap1 : Nat} {ls : List Int} {K : Value → World → Prop} (hr : RowV w v W ws) (hl : Sl w p1 (ls.map (Value.int .i64))) (hlen : ls.length < 9223372036854775807)
    (h : ∀ v' w', Ext w w' → FreshRow w' w.heap.size v' (turnO (turnG true) W ws ls).W (turnO (turnG true) W ws ls).ws → K (.tuple #[v', err (turnO (turnG true) W ws ls).e]) w') :
    oCall Tryd.prog Tryd.n_bits_Set #[v, .slice p1 ls.length cap1] w K :=
  c_bits_Set hr hl hlen (RwO.step h).1 fun h1 h2 => (RwO.step h).2 ⟨h1, h2⟩
theorem c_bits_ClearO {w : World} {v : Value} {W : Int} {ws : List (BitVec 64)} {p1 : Option Addr} {cap1 : Nat} {ls : List Int} {K : Value → World → Prop} (hr : RowV w v W ws) (hl : Sl w p1 (ls.map (Value.int .i64))) (hlen : ls.length < 9223372036854775807)
    (h : ∀ v' w', Ext w w' → FreshRow w' w.heap.size v' (turnO (turnG false) W ws ls).W (turnO (turnG false) W ws ls).ws → K (.tuple #[v', err (turnO (turnG false) W ws ls).e]) w') :
    oCall Tryd.prog Tryd.n_bits_Clear #[v, .slice p1 ls.length cap1] w K :=
  c_bits_Clear hr hl hlen (RwO.step h).1 fun h1 h2 => (RwO.step h).2 ⟨h1, h2⟩
theorem c_ref01_TurnO {w : World} {v : Value} {W : Int} {ws : List (BitVec 64)} {p1 : Option Addr} {cap1 : Nat} {ls : List Int} {set : Bool} {K : Value → World → Prop} (hr : RowV w v W ws) (hl : Sl w p1 (ls.map (Value.int .i64))) (hlen : ls.length < 9223372036854775807)
    (h : ∀ v' w', Ext w w' → FreshRow w' w.heap.size v' (turnO (turnG set) W ws ls).W (turnO (turnG set) W ws ls).ws → K (.tuple #[v', err (turnO (turnG set) W ws ls).e]) w') :
    oCall Tryd.prog Tryd.n_ref01_Turn #[v, .slice p1 ls.length cap1, .bool set] w K :=
  c_ref01_Turn hr hl hlen (RwO.step h).1 fun h1 h2 => (RwO.step h).2 ⟨h1, h2⟩
theorem c_bits_OrO {w : World} {va vb : Value} {W W2 : Int} {ws vs : List (BitVec 64)} {K : Value → World → Prop} (hr : RowV w va W ws) (hq : RowV w vb W2 vs)
    (h : ∀ v' w', Ext w w' → FreshRow w' w.heap.size v' (joinO (gW 0) W ws W2 vs).W (joinO (gW 0) W ws W2 vs).ws → K (.tuple #[v', err (joinO (gW 0) W ws W2 vs).e]) w') : oCall Tryd.prog Tryd.n_bits_Or #[va, vb] w K :=
  c_bits_Or hr hq (RwO.step h).1 fun h1 h2 h3 => (RwO.step h).2 ⟨h1, h2, h3⟩
theorem c_bits_AndO {w : World} {va vb : Value} {W W2 : Int} {ws vs : List (BitVec 64)} {K : Value → World → Prop} (hr : RowV w va W ws) (hq : RowV w vb W2 vs)
    (h : ∀ v' w', Ext w w' → FreshRow w' w.heap.size v' (joinO (gW 1) W ws W2 vs).W (joinO (gW 1) W ws W2 vs).ws → K (.tuple #[v', err (joinO (gW 1) W ws W2 vs).e]) w') : oCall Tryd.prog Tryd.n_bits_And #[va, vb] w K :=
  c_bits_And hr hq (RwO.step h).1 fun h1 h2 h3 => (RwO.step h).2 ⟨h1, h2, h3⟩
theorem c_bits_LessO {w : World} {va vb : Value} {W W2 : Int} {ws vs : List (BitVec 64)} {K : Value → World → Prop} (hr : RowV w va W ws) (hq : RowV w vb W2 vs)
    (h : ∀ v' w', Ext w w' → FreshRow w' w.heap.size v' (joinO (gW 2) W ws W2 vs).W (joinO (gW 2) W ws W2 vs).ws → K (.tuple #[v', err (joinO (gW 2) W ws W2 vs).e]) w') : oCall Tryd.prog Tryd.n_bits_Less #[va, vb] w K :=
  c_bits_Less hr hq (RwO.step h).1 fun h1 h2 h3 => (RwO.step h).2 ⟨h1, h2, h3⟩
theorem c_ref01_JoinO {w : World} {va vb : Value} {W W2 : Int} {ws vs : List (BitVec 64)} {how : Nat} {K : Value → World → Prop} (hr : RowV w va W ws) (hq : RowV w vb W2 vs) (hhow : how < 3)
    (h : ∀ v' w', Ext w w' → FreshRow w' w.heap.size v' (joinO (gW how) W ws W2 vs).W (joinO (gW how) W ws W2 vs).ws → K (.tuple #[v', err (joinO (gW how) W ws W2 vs).e]) w') :
    oCall Tryd.prog Tryd.n_ref01_Join #[va, vb, .int .i64 (how : Int)] w K :=
  c_ref01_Join hr hq hhow (RwO.step h).1 fun h1 h2 h3 => (RwO.step h).2 ⟨h1, h2, h3⟩
end Go.Proofs
