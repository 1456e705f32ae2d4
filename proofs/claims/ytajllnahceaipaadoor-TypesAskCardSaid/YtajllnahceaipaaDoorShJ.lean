/-
  Whatever an argument reads as, it is a datum: one theorem for all types of numbers, texts, structs and slices.
-/
import Derived.Test.YtajllnahceaipaaDoorShI
import Derived.Test.YtajllnahceaipaaDoorShE
import Derived.ChangeArms
import Derived.DataReads
namespace Go.Sh
open Go.RowKit

mutual
/-- is it a datum of the type? -/
def Dat.ok (P : Program) : Dat → TypeId → Prop
  | .int k n, t => P.underlying t = some (.int k) ∧ (Lit.int k n).wf = true
  | .bool _, t => P.underlying t = some .bool
  | .str s, t => P.underlying t = some .string ∧ s.size ≤ maxLen
  | .agg ds, t => ∃ fs, P.underlying t = some (.struct fs) ∧ Dat.okF P ds (fs.toList.map (·.type))
  | .sl sz es, t => ∃ e, P.underlying t = some (.slice e) ∧ sz = P.cellsOf e ∧ es.length ≤ maxLen ∧ Dat.okS P es e
def Dat.okF (P : Program) : List Dat → List TypeId → Prop
  | [], ts => ts = []
  | d :: ds, ts => ∃ t r, ts = t :: r ∧ Dat.ok P d t ∧ Dat.okF P ds r
def Dat.okS (P : Program) : List Dat → TypeId → Prop
  | [], _ => True
  | d :: ds, t => Dat.ok P d t ∧ Dat.okS P ds t
end
theorem okS_of {P : Program} {t : TypeId} : ∀ {es : List Dat}, (∀ (i : Nat) (d : Dat), es[i]? = some d → d.ok P t) → Dat.okS P es t
  | [], _ => trivial
  | d :: es, h => ⟨h 0 d rfl, okS_of fun i d hi => h (i + 1) d (by simpa using hi)⟩
theorem okS_mem {P : Program} {t : TypeId} : ∀ {es : List Dat}, Dat.okS P es t → ∀ d ∈ es, d.ok P t
  | [], _, d, hd => by cases hd
  | e :: es, h, d, hd => by
    rcases List.mem_cons.1 hd with rfl | hd
    · exact h.1
    · exact okS_mem h.2 d hd
def layT (P : Program) (total : Nat) : Nat → List Field → Bool
  | off, [] => off == total
  | off, f :: fs => f.offset == off && layT P total (off + P.cellsOf f.type) fs
/-- types of numbers, texts, structs and slices, each of whose parts is among them -/
def plainS (P : Program) (ts : List TypeId) : Bool :=
  ts.all fun t => match P.underlying t with
    | some (.int _) => true
    | some .bool => true
    | some .string => true
    | some (.struct fs) => layT P (P.cellsOf t) 0 fs.toList && fs.toList.all (fun f => ts.contains f.type)
    | some (.slice e) => decide (0 < P.cellsOf e) && ts.contains e
    | _ => false
theorem choose_list {Q : Nat → Dat → Prop} : ∀ n : Nat, (∀ i, i < n → ∃ d, Q i d) → ∃ es : List Dat, es.length = n ∧ ∀ i d, es[i]? = some d → Q i d
  | 0, _ => ⟨[], rfl, fun i d h => by cases h⟩
  | n + 1, h => by
    obtain ⟨es, h1, h2⟩ := choose_list n fun i hi => h i (by omega)
    obtain ⟨d, hd⟩ := h n (by omega)
    refine ⟨es ++ [d], by simp [h1], fun i x hx => ?_⟩
    rcases Nat.lt_or_ge i es.length with hi | hi
    · rw [List.getElem?_append_left hi] at hx; exact h2 i x hx
    · rw [List.getElem?_append_right hi] at hx
      have hl := (List.getElem?_eq_some_iff.1 hx).1
      have : i = n := by simp at hl; omega
      subst this
      rw [h1, Nat.sub_self] at hx
      cases hx; exact hd
section
variable {H : Type} {enc : TypeId × Value → H} {P : Program} {W : World}
theorem rep_fields {cs : List Value} {total : Nat} (hcs : cs.length = total) : ∀ (fl : List Field) (off : Nat), layT P total off fl = true →
    (∀ f ∈ fl, ∃ d, Rep (all W) d ((cs.drop f.offset).take (P.cellsOf f.type)) ∧ d.ok P f.type) → ∃ ds, RepA (all W) ds (cs.drop off) ∧ Dat.okF P ds (fl.map (·.type))
  | [], off, hl, _ => ⟨[], by
    have : off = total := by simpa [layT] using hl
    rw [RepA, List.drop_eq_nil_iff]; omega, rfl⟩
  | f :: fl, off, hl, h => by
    simp only [layT, Bool.and_eq_true, beq_iff_eq] at hl
    obtain ⟨d, h1, h2⟩ := h f List.mem_cons_self
    obtain ⟨ds, h3, h4⟩ := rep_fields hcs fl _ hl.2 fun g hg => h g (List.mem_cons_of_mem _ hg)
    refine ⟨d :: ds, ⟨_, _, ?_, h1, h3⟩, _, _, rfl, h2, h4⟩
    rw [hl.1, ← List.drop_drop, List.take_append_drop]
theorem rep_of_trod {ts : List TypeId} (hp : plainS P ts = true) {sp : Nat → Bool} : ∀ (fuel : Nat) (t : TypeId) (cs : List Value) (x : DataW H × List MemPlace), t ∈ ts →
    DataW.trod enc P W 0 sp true fuel t cs = some x → ∃ d, Rep (all W) d cs ∧ d.ok P t
  | 0, _, _, _, _, h => by simp [DataW.trod] at h
  | fuel + 1, t, cs, x, ht, h => by
    have hpt := List.all_eq_true.1 hp t ht
    cases hu : P.underlying t with
    | none => rw [hu] at hpt; cases hpt
    | some k =>
      rw [hu] at hpt
      cases k with
      | int k => obtain ⟨n, rfl, _, hw⟩ := DataW.trod_int hu h; exact ⟨.int k n, rfl, hu, hw⟩
      | bool => obtain ⟨b, rfl, _⟩ := DataW.trod_bool hu h; exact ⟨.bool b, rfl, hu⟩
      | string => obtain ⟨s, rfl, _, hs⟩ := DataW.trod_string hu h; exact ⟨.str s, rfl, hu, hs⟩
      | struct fs =>
        simp only [Bool.and_eq_true] at hpt
        obtain ⟨xs, n, hn, _, hl, hxl, hx⟩ := DataW.trod_struct hu h
        obtain rfl : fuel = n := by omega
        obtain ⟨ds, h1, h2⟩ := rep_fields (P := P) (W := W) hl fs.toList 0 hpt.1 (fun f hf => by
          obtain ⟨i, hi, rfl⟩ := List.getElem_of_mem hf
          have hi' : i < fs.size := by simpa using hi
          have h1 := hx i fs[i] (Array.getElem?_eq_getElem hi')
          rw [List.getElem?_eq_getElem (by omega)] at h1
          have hmem : fs[i].type ∈ ts := by
            have := List.all_eq_true.1 hpt.2 _ hf
            simpa using this
          exact rep_of_trod hp fuel _ _ _ hmem h1)
        rw [List.drop_zero] at h1
        exact ⟨.agg ds, h1, fs, hu, h2⟩
      | slice e =>
        simp only [Bool.and_eq_true, decide_eq_true_eq] at hpt
        have he : e ∈ ts := by simpa using hpt.2
        rcases DataW.trod_slice hu h with ⟨rfl, _⟩ | ⟨a, len, cap, elems, rest, n, hn, rfl, _, _, hlc, hcm, hel, hget, _, _⟩
        · exact ⟨.sl (P.cellsOf e) [], ⟨none, 0, rfl, fun _ => rfl, Nat.le_refl _, trivial⟩, e, hu, rfl, Nat.zero_le _, trivial⟩
        obtain rfl : fuel = n := by omega
        have hspot : 0 < len → a.spot = none := fun h0 => by
          have h1 := hget 0 h0
          rw [List.getElem?_eq_getElem (by omega)] at h1
          obtain ⟨c, hc, _⟩ := Option.bind_eq_some_iff.1 h1
          obtain ⟨_, hcl, hcc⟩ := World.cells?_some hc
          have hcell := (hcc 0 hpt.1).trans (List.getElem?_eq_getElem (by omega))
          have := World.cell?_spot hcell
          simpa [Addr.add] using this
        obtain ⟨es, h1, h2⟩ := choose_list (Q := fun i d => d.ok P e ∧ ∃ c, c.length = P.cellsOf e ∧ CellsAt (all W) (some a) (i * P.cellsOf e) c ∧ Rep (all W) d c) len (fun i hi => by
          have h1 := hget i hi
          rw [List.getElem?_eq_getElem (by omega)] at h1
          obtain ⟨c, hc, ht⟩ := Option.bind_eq_some_iff.1 h1
          obtain ⟨_, hcl, hcc⟩ := World.cells?_some hc
          obtain ⟨d, hd, hok⟩ := rep_of_trod hp fuel e c _ he ht
          refine ⟨d, hok, c, hcl, fun j v hj => ?_, hd⟩
          have hjl := (List.getElem?_eq_some_iff.1 hj).1
          have hcell : W.cell? ((a.add (i * P.cellsOf e)).add j) = some v := (hcc j (by omega)).trans hj
          obtain ⟨b, off, sp⟩ := a
          have hsp : sp = none := hspot (by omega)
          subst hsp
          rw [addr_add', addr_add'] at hcell
          exact ⟨b, off, rfl, cell_all hcell⟩)
        refine ⟨.sl (P.cellsOf e) es, ⟨some a, cap, by rw [h1], by simp, by omega, RepS.of fun i d hi => ?_⟩, e, hu, rfl, by omega, okS_of fun i d hi => (h2 i d hi).1⟩
        rw [Nat.zero_add]; exact (h2 i d hi).2
      | _ => cases hpt
end
end Go.Sh
