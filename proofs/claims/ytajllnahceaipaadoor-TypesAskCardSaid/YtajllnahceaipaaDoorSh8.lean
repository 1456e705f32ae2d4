/-
  Steps of the shallow reading: memory.
-/
import Derived.Test.YtajllnahceaipaaDoorSh7
namespace Go.Sh
open Go.RowKit

/-! ### Facts on memory -/
/-- block b is a row of cells that may be written -/
def Blk (w : World) (b : Nat) (c : List Value) (T : TypeId) : Prop := w.heap[b]? = some (.cells c.toArray T (0, 0))
theorem Blk.lt {w : World} {b : Nat} {c : List Value} {T : TypeId} (h : Blk w b c T) : b < w.heap.size := (Array.getElem?_eq_some_iff.1 h).1
theorem Blk.cell {w : World} {b : Nat} {c : List Value} {T : TypeId} (h : Blk w b c T) (i : Nat) : w.cell? ⟨b, i, none⟩ = c[i]? := by
  simp [World.cell?, show w.heap[b]? = _ from h]
theorem Blk.unfrozen {w : World} {b : Nat} {c : List Value} {T : TypeId} (h : Blk w b c T) (i : Nat) : w.frozen? ⟨b, i, none⟩ = false := by
  simp [World.frozen?, show w.heap[b]? = _ from h]
theorem Blk.ext {w w' : World} {b : Nat} {c : List Value} {T : TypeId} (h : Blk w b c T) (e : Ext w w') : Blk w' b c T := (e.block b h.lt).trans h
theorem Blk.but {w w' : World} {S : Nat → Prop} {b : Nat} {c : List Value} {T : TypeId} (h : Blk w b c T) (e : ExtBut S w w') (hb : ¬ S b) : Blk w' b c T := (e.block b h.lt hb).trans h
theorem Blk.nl {w w' : World} {n : Nat} {b : Nat} {c : List Value} {T : TypeId} (h : Blk w b c T) (e : Nl n w w') : Blk w' b c T := e.block b _ h (.inr rfl)
theorem Blk.shuts {w w' : World} {n : Nat} {b : Nat} {c : List Value} {T : TypeId} (h : Blk w b c T) (e : Shuts n w w') : Blk w' b c T := by
  have : w.heap[b]? = _ := h
  exact (e.block b (.inr fun ds hd => by rw [this] at hd; cases hd)).trans h
theorem Blk.ne {w : World} {b b' : Nat} {c : List Value} {T : TypeId} (h : Blk w b c T) (hb : b' = w.heap.size ∨ w.heap.size ≤ b') : b ≠ b' := by have := h.lt; omega

theorem cell_lt {w : World} {a : Addr} {v : Value} (h : w.cell? a = some v) : a.block < w.heap.size := by
  unfold World.cell? at h
  cases ho : w.heap[a.block]? with
  | none => rw [ho] at h; cases h
  | some o => exact (Array.getElem?_eq_some_iff.1 ho).1
theorem cell_ext {w w' : World} {a : Addr} {v : Value} (h : w.cell? a = some v) (e : Ext w w') : w'.cell? a = some v := by
  rw [World.cell?_of_block (w := w) (e.block _ (cell_lt h))]; exact h
theorem cell_but {w w' : World} {S : Nat → Prop} {a : Addr} {v : Value} (h : w.cell? a = some v) (e : ExtBut S w w') (hb : ¬ S a.block) : w'.cell? a = some v := by
  rw [World.cell?_of_block (w := w) (e.block _ (cell_lt h) hb)]; exact h
theorem cell_nl {w w' : World} {n : Nat} {a : Addr} {v : Value} (h : w.cell? a = some v) (e : Nl n w w') : w'.cell? a = some v := by
  have h' := h
  unfold World.cell? at h'
  cases ho : w.heap[a.block]? with
  | none => rw [ho] at h'; cases h'
  | some o =>
    rw [ho] at h'
    rw [World.cell?_of_block (w := w) ((e.block _ o ho (.inr (by cases o <;> first | rfl | cases h'))).trans ho.symm)]; exact h
theorem cell_shuts {w w' : World} {n : Nat} {a : Addr} {v : Value} (h : w.cell? a = some v) (e : Shuts n w w') : w'.cell? a = some v := by
  have h' := h
  unfold World.cell? at h'
  cases ho : w.heap[a.block]? with
  | none => rw [ho] at h'; cases h'
  | some o =>
    rw [ho] at h'
    rw [World.cell?_of_block (w := w) (e.block _ (.inr fun ds hd => by rw [ho] at hd; cases hd; cases h'))]; exact h

theorem ExtBut.of_ext {S : Nat → Prop} {w w' : World} (e : Ext w w') : ExtBut S w w' := ⟨e.os, e.tape, e.output, e.size, fun k hk _ => e.block k hk⟩
theorem ExtBut.refl (S : Nat → Prop) (w : World) : ExtBut S w w := ⟨rfl, rfl, rfl, Nat.le_refl _, fun _ _ _ => rfl⟩
theorem ExtBut.trans {S : Nat → Prop} {a b c : World} (h : ExtBut S a b) (k : ExtBut S b c) : ExtBut S a c :=
  ⟨k.os.trans h.os, k.tape.trans h.tape, k.output.trans h.output, Nat.le_trans h.size k.size, fun i hi hn => by
    have := h.size
    rw [k.block i (by omega) hn, h.block i hi hn]⟩
theorem ExtBut.mono {S S' : Nat → Prop} {w w' : World} (h : ExtBut S w w') (hs : ∀ k, k < w.heap.size → S k → S' k) : ExtBut S' w w' :=
  ⟨h.os, h.tape, h.output, h.size, fun k hk hn => h.block k hk fun hS => hn (hs k hk hS)⟩
/-- what lay when the call began lies on where the call's own blocks are written -/
theorem Ext.but {w0 w w' : World} {S : Nat → Prop} (h : Ext w0 w) (k : ExtBut S w w') (hs : ∀ k, S k → w0.heap.size ≤ k) : Ext w0 w' :=
  ⟨k.os.trans h.os, k.tape.trans h.tape, k.output.trans h.output, Nat.le_trans h.size k.size, fun i hi => by
    have := h.size
    rw [k.block i (by omega) fun hS => by have := hs i hS; omega, h.block i hi]⟩
theorem Ext.drew (w : World) : Ext w w.drew := (Below.refl _ w).drew
theorem Ext.shuts {w w' : World} (e : Shuts w.heap.size w w') : Ext w w' := ⟨e.os, e.tape, e.output, Nat.le_of_eq e.size.symm, fun k hk => e.block k (.inl hk)⟩
theorem Ext.shut {w0 w w' : World} (h : Ext w0 w) (e : Shuts w0.heap.size w w') : Ext w0 w' :=
  ⟨e.os.trans h.os, e.tape.trans h.tape, e.output.trans h.output, by rw [e.size]; exact h.size, fun k hk => (e.block k (.inl hk)).trans (h.block k hk)⟩
theorem Ext.nl {w0 w w' : World} {n : Nat} (h : Ext w0 w) (hn : w0.heap.size ≤ n) (e : Nl n w w') : Ext w0 w' :=
  ⟨e.os.trans h.os, e.tape.trans h.tape, e.output.trans h.output, Nat.le_trans h.size e.size, fun k hk => by
    have h1 := h.block k hk
    rw [← h1]
    have hk' : k < w.heap.size := Nat.lt_of_lt_of_le hk h.size
    have := e.block k _ (Array.getElem?_eq_getElem hk') (.inl (by omega))
    rw [this, Array.getElem?_eq_getElem hk']⟩
theorem NC.of_ext {w w' : World} (e : Ext w w') : NC w w' := ⟨e.size, fun b _ hb _ => by rw [e.block b (Array.getElem?_eq_some_iff.1 hb).1]; exact hb⟩

/-- values that lie from an address on, one a cell -/
def Sl (w : World) (p : Option Addr) (vs : List Value) : Prop :=
  ∀ i v, vs[i]? = some v → ∃ b off, p = some ⟨b, off, none⟩ ∧ w.cell? ⟨b, off + i, none⟩ = some v
theorem Sl.ext {w w' : World} {p : Option Addr} {vs : List Value} (h : Sl w p vs) (e : Ext w w') : Sl w' p vs := fun i v hv =>
  let ⟨b, off, hp, hc⟩ := h i v hv; ⟨b, off, hp, cell_ext hc e⟩
theorem Sl.but {w w' : World} {S : Nat → Prop} {p : Option Addr} {vs : List Value} (h : Sl w p vs) (e : ExtBut S w w') (hb : ∀ b off, p = some ⟨b, off, none⟩ → ¬ S b) : Sl w' p vs := fun i v hv =>
  let ⟨b, off, hp, hc⟩ := h i v hv; ⟨b, off, hp, cell_but hc e (hb b off hp)⟩
theorem Sl.nl {w w' : World} {n : Nat} {p : Option Addr} {vs : List Value} (h : Sl w p vs) (e : Nl n w w') : Sl w' p vs := fun i v hv =>
  let ⟨b, off, hp, hc⟩ := h i v hv; ⟨b, off, hp, cell_nl hc e⟩
theorem Sl.shuts {w w' : World} {n : Nat} {p : Option Addr} {vs : List Value} (h : Sl w p vs) (e : Shuts n w w') : Sl w' p vs := fun i v hv =>
  let ⟨b, off, hp, hc⟩ := h i v hv; ⟨b, off, hp, cell_shuts hc e⟩
theorem Sl.nil (w : World) (p : Option Addr) : Sl w p [] := fun i v h => by cases h
theorem Sl.take {w : World} {p : Option Addr} {vs : List Value} (h : Sl w p vs) (n : Nat) : Sl w p (vs.take n) := fun i v hv => h i v (by
  rw [List.getElem?_take] at hv; split at hv <;> first | exact hv | cases hv)
theorem Sl.blk {w : World} {b : Nat} {c : List Value} {T : TypeId} (h : Blk w b c T) : Sl w (some ⟨b, 0, none⟩) c := fun i v hv => ⟨b, 0, rfl, by rw [Nat.zero_add, h.cell i]; exact hv⟩
theorem Sl.at {w : World} {p : Option Addr} {vs : List Value} (h : Sl w p vs) {i : Nat} (hi : i < vs.length) : ∃ b off, p = some ⟨b, off, none⟩ ∧ w.cell? ⟨b, off + i, none⟩ = some vs[i] :=
  h i _ (List.getElem?_eq_getElem hi)

section
variable {P : Program} {w : World} {t : TypeId}

/-! ### Loads -/
theorem run_load1 {a : Addr} {v : Value} (ht : ld1 P t = true) (h : w.cell? a = some v) : (Instr.loadAt t (.pointer (some a))).run P w = .ok v w := by
  unfold ld1 at ht
  cases hu : P.underlying t with
  | none => rw [hu] at ht; cases ht
  | some d =>
    rw [hu] at ht
    have hag : (isAgg t).run P w = .ok false w := by
      simp only [isAgg, Sem.run_bind, run_underlying' hu, Result.andThen]
      cases d <;> first | (cases ht; done) | rfl
    simp [Instr.loadAt, Instr.sureAddr, loadVar, Sem.run_bind, Sem.run, pure, Result.andThen, hag, load, h]
theorem q_load {K : Value → Prop} {a : Addr} {v : Value} (ht : ld1 P t = true) (h : w.cell? a = some v) (k : K v) : opQ P w (Instr.loadAt t (.pointer (some a))) K :=
  q_of (fun _ e => run_load1 ht (cell_ext h e)) k

theorem run_loadCellsFrom {a : Addr} : ∀ (vs : List Value) (i : Nat) (acc : Array Value), (∀ j v, vs[j]? = some v → w.cell? (a.add (i + j)) = some v) →
    (loadCellsFrom a i vs.length acc).run P w = .ok (acc ++ vs.toArray) w
  | [], i, acc, _ => by simp [loadCellsFrom, pure]
  | v :: vs, i, acc, h => by
    have h0 : w.cell? (a.add i) = some v := h 0 v rfl
    have := run_loadCellsFrom vs (i + 1) (acc.push v) fun j u hj => by
      have := h (j + 1) u (by simpa using hj)
      rwa [show i + 1 + j = i + (j + 1) by omega]
    simp only [List.length_cons, loadCellsFrom, Sem.run_bind, load, Sem.run, h0, Result.andThen, this]
    simp
theorem addr_add (b off n : Nat) : (⟨b, off, none⟩ : Addr).add n = ⟨b, off + n, none⟩ := by
  unfold Addr.add; split
  · rename_i h; rw [h]; rfl
  · rfl
theorem run_loadN {b off : Nat} {vs : List Value} (ht : ldN P t = some vs.length) (h : ∀ j v, vs[j]? = some v → w.cell? ⟨b, off + j, none⟩ = some v) :
    (Instr.loadAt t (.pointer (some ⟨b, off, none⟩))).run P w = .ok (.agg vs.toArray) w := by
  have hc := run_loadCellsFrom (P := P) (w := w) (a := ⟨b, off, none⟩) vs 0 #[] fun j v hj => by rw [addr_add, Nat.zero_add]; exact h j v hj
  have hag : (isAgg t).run P w = .ok true w ∧ szT P t = some vs.length := by
    unfold ldN at ht
    cases hu : P.underlying t with
    | none => rw [hu] at ht; cases ht
    | some d =>
      rw [hu] at ht
      cases d <;> first | (cases ht; done) | exact ⟨by simp [isAgg, Sem.run_bind, run_underlying' hu, Result.andThen, Sem.run, pure], ht⟩
  simp [Instr.loadAt, Instr.sureAddr, loadVar, Sem.run_bind, Sem.run, pure, Result.andThen, hag.1, run_sizeOf' hag.2, loadCells, hc]
theorem q_loadN {K : Value → Prop} {b off : Nat} {vs : List Value} (ht : ldN P t = some vs.length) (h : ∀ j v, vs[j]? = some v → w.cell? ⟨b, off + j, none⟩ = some v) (k : K (.agg vs.toArray)) :
    opQ P w (Instr.loadAt t (.pointer (some ⟨b, off, none⟩))) K :=
  q_of (fun _ e => run_loadN ht fun j v hj => cell_ext (h j v hj) e) k
theorem q_loadB {K : Value → Prop} {b : Nat} {c : List Value} {T : TypeId} (ht : ldN P t = some c.length) (h : Blk w b c T) (k : K (.agg c.toArray)) :
    opQ P w (Instr.loadAt t (.pointer (some ⟨b, 0, none⟩))) K := q_loadN ht (fun j v hj => by rw [Nat.zero_add, h.cell]; exact hj) k
theorem q_cellB {K : Value → Prop} {b : Nat} {c : List Value} {T : TypeId} (ht : ldN P t = some c.length) (h : Blk w b c T) (k : K (.agg c.toArray)) :
    opQ P w (cellSem t (.pointer (some ⟨b, 0, none⟩))) K := q_loadB ht h k
theorem q_cell1 {K : Value → Prop} {a : Addr} {v : Value} (ht : ld1 P t = true) (h : w.cell? a = some v) (k : K v) :
    opQ P w (cellSem t (.pointer (some a))) K := q_load ht h k

/-! ### New blocks -/
theorem alloc_facts (w : World) (c : List Value) (T : TypeId) : Ext w (w.alloc (.cells c.toArray T)) ∧ (w.alloc (.cells c.toArray T)).heap.size = w.heap.size + 1 ∧ Blk (w.alloc (.cells c.toArray T)) w.heap.size c T :=
  ⟨ext_alloc w _, by simp, World.alloc_heap_new w _⟩
theorem w_box {K : Value → World → Prop} {v : Value}
    (h : ∀ b w', b = w.heap.size → Ext w w' → w'.heap.size = w.heap.size + 1 → Blk w' b v.cells.toList t → K (.pointer (some ⟨b, 0, none⟩)) w') : opW P w (Instr.box t v) K := by
  obtain ⟨h1, h2, h3⟩ := alloc_facts w v.cells.toList t
  exact ⟨_, _, by simp [Instr.box, newVar, newRow, newObj, Sem.run_bind, Sem.run, pure, Result.andThen], h _ _ rfl h1 h2 h3⟩
theorem run_zero {c : List Value} (hz : zrT P t = some c) : ∃ z : Value, z.cells.toList = c ∧ ∀ w, (zeroValue t).run P w = .ok z w := by
  unfold zrT at hz
  cases hi : P.info? t with
  | none => rw [hi] at hz; cases hz
  | some i =>
    rw [hi] at hz
    simp only [Option.bind_some, Option.map_eq_some_iff] at hz
    obtain ⟨z, hz, hc⟩ := hz
    exact ⟨z, hc, fun w => by simp [zeroValue, typeInfo, program, Sem.run_bind, Sem.run, pure, Result.andThen, hi, hz]⟩
theorem w_alloc {K : Value → World → Prop} {c : List Value} (hz : zrT P t = some c)
    (h : ∀ b w', b = w.heap.size → Ext w w' → w'.heap.size = w.heap.size + 1 → Blk w' b c t → K (.pointer (some ⟨b, 0, none⟩)) w') : opW P w (Instr.alloc t true (.tuple #[])) K := by
  obtain ⟨z, hzc, hz⟩ := run_zero hz
  obtain ⟨h1, h2, h3⟩ := alloc_facts w c t
  refine ⟨_, _, ?_, h _ _ rfl h1 h2 h3⟩
  simp only [Instr.alloc, Sem.run_bind, hz, Result.andThen, newVar, newRow, newObj, Sem.run, pure]
  subst hzc
  simp
end
end Go.Sh
