/-
  What every law of layer 1 opens: the table, a row, the program's facts.
-/
import Derived.Test.YtgbfpnnimnjbdaaDoorGa
import Derived.Test.YtgbfpnnimnjbdaaDoorShE
import Derived.Test.YtgbfpnnimnjbdaaDoorCards
import Derived.Test.YtgbfpnnimnjbdaaDoorTie
import Derived.WalkKit
namespace Go.Proofs.YtgbfpnnimnjbdaaDoor.open1
open Go.Sh Go.BM Go.ChangeShapes Go.WideShapes Go.ChangeAt Go.RowKit
set_option maxRecDepth 100000

theorem own : ownKnob Tryd.prog.godebug = none := by kernel_rfl
theorem u0 : Tryd.prog.underlying 75 = some (.array 64 5) := by kernel_rfl
theorem u5 : Tryd.prog.underlying 5 = some (.int .u8) := by kernel_rfl
theorem u3 : Tryd.prog.underlying 3 = some (.int .i64) := by kernel_rfl
theorem u4 : Tryd.prog.underlying 4 = some .bool := by kernel_rfl
theorem u9 : Tryd.prog.underlying 9 = some .string := by kernel_rfl
theorem u22 : Tryd.prog.underlying 22 = some (.slice 64) := by kernel_rfl
theorem u45 : Tryd.prog.underlying 45 = some (.slice 3) := by kernel_rfl
theorem u64' : Tryd.prog.underlying 64 = some (.int .u64) := by kernel_rfl
abbrev fW : Field := ⟨ "Width", 3, 0, false, "", "", 0⟩
abbrev fWs : Field := ⟨ "Words", 22, 1, false, "", "", 8⟩
theorem u24 : Tryd.prog.underlying 24 = some (.struct #[fW, fWs]) := by kernel_rfl
theorem gTab : Tryd.prog.globalNamed "math/bits.deBruijn64tab" = some 0 := by kernel_rfl
theorem gTabType : (Tryd.prog.globals[0]?).map (·.type) = some 75 := by kernel_rfl
theorem cells75 : Tryd.prog.cellsOf 75 = 64 := by kernel_rfl
theorem cells5 : Tryd.prog.cellsOf 5 = 1 := by kernel_rfl
theorem laidOut : laidOutB Tryd.prog = true := by kernel_rfl
theorem rowed : mapsRowed Tryd.prog = true := by kernel_rfl
theorem full : ((List.range Tryd.prog.types.size).all fun t => match Tryd.prog.underlying t with | some (.slice e) => decide (0 < Tryd.prog.cellsOf e) | _ => true) = true := by kernel_rfl

theorem table {W : World} (h : laidMetH Tryd.prog Rows.bitsBytesRow.laid W) : Tab W := by
  have ht : Lib.TabIs Tryd.prog W "math/bits.deBruijn64tab" .u8 (Lib.deBruijn64tab.map fun n : Nat => (n : Int)) :=
    Lib.tabIs_of_head (rest := []) gTab gTabType u0 u5 cells5 cells75 h
  intro j hj
  have hc := ht.cell gTab j (by rw [List.length_map]; exact hj)
  rw [hc]
  congr 2
  have hj' : j < Lib.deBruijn64tab.length := hj
  simp [List.getD_eq_getElem?_getD, hj']

theorem row_open {H : Type} {enc : TypeId × Value → H} {W : World} {base : Nat} {v : Value} {d : DataW H} {p : List MemPlace} (hv : Value.okWide Tryd.prog W .any base 24 v) (h : DataW.Trod enc Tryd.prog W 0 (fun _ => true) true 24 v d p) :
    ∃ Wd ws, RowV W v Wd ws := by
  obtain ⟨v0, v1, y0, y1, n, rfl, _, _, h0, h1⟩ := Joins.open_agg2 u24 (by kernel_rfl) (by kernel_rfl) hv h
  obtain ⟨Wd, hc0, _, _⟩ := DataW.trod_int u3 h0
  cases hc0
  rcases open_ints u22 u64' (by kernel_rfl) h1 with ⟨hcs, _⟩ | ⟨a, len, cap, zs, hcs, _, hlen, _, hz, _, hcell, hwz⟩
  · cases hcs
    exact ⟨Wd, [], none, 0, rfl, Sl.nil _ _, fun _ => rfl, Nat.le_refl _⟩
  · cases hcs
    simp only [if_true] at hz
    have hzl : ((zs.take len).map (BitVec.ofInt 64)).length = len := by rw [List.length_map, List.length_take]; omega
    refine ⟨Wd, (zs.take len).map (BitVec.ofInt 64), some a, cap, by rw [hzl], ?_, by simp, by rw [hzl]; exact hlen⟩
    intro i v hi
    have hil : i < len := by
      have := (List.getElem?_eq_some_iff.1 hi).1
      simp only [List.length_map, List.length_take] at this; omega
    have hiz : i < zs.length := by omega
    have hc := hcell i hiz
    obtain ⟨b, off, sp⟩ := a
    have hsp : sp = none := by simpa [Addr.add] using World.cell?_spot (hcell 0 (by omega))
    subst hsp
    refine ⟨b, off, rfl, ?_⟩
    rw [addr_add'] at hc
    rw [hc]
    have hv : v = u64 (BitVec.ofInt 64 (zs[i])) := by
      simp only [List.map_map, List.getElem?_map, List.getElem?_take, if_pos hil, List.getElem?_eq_getElem hiz, Option.map_some, Option.some.injEq] at hi
      exact hi.symm
    rw [hv]
    have hw := hwz zs[i] (List.getElem_mem hiz)
    simp only [Lit.wf, Bool.and_eq_true, decide_eq_true_eq] at hw
    have h1 : (0 : Int) ≤ zs[i] := hw.1
    have h2 : zs[i] ≤ 18446744073709551615 := hw.2
    have hval : ((BitVec.ofInt 64 zs[i]).toNat : Int) = zs[i] := by
      rw [BitVec.toNat_ofInt]
      have e : (2 ^ 64 : Nat) = 18446744073709551616 := by decide
      omega
    show some (Value.int .u64 (zs.getD i 0)) = some (Value.int .u64 ((BitVec.ofInt 64 zs[i]).toNat : Int))
    rw [hval, List.getD_eq_getElem?_getD, List.getElem?_eq_getElem hiz]; rfl
theorem ints_open {H : Type} {enc : TypeId × Value → H} {W : World} {base : Nat} {v : Value} {d : DataW H} {p : List MemPlace} (hv : Value.okWide Tryd.prog W .any base 45 v) (h : DataW.Trod enc Tryd.prog W 0 (fun _ => true) true 45 v d p) :
    ∃ q cap ls, v = .slice q (List.length ls) cap ∧ Sl W q (ls.map (Value.int .i64)) ∧ (q = none → cap = 0) := by
  obtain ⟨a0, len, cap, rfl⟩ := Go.WideShapes.okWide_slice u45 hv
  obtain ⟨fuel, hf⟩ := h
  rcases open_ints u45 u3 (by kernel_rfl) hf with ⟨hcs, _⟩ | ⟨a, len', cap', zs, hcs, _, hlen, _, hz, _, hcell, hwz⟩
  · cases hcs
    exact ⟨none, 0, [], rfl, Sl.nil _ _, fun _ => rfl⟩
  · cases hcs
    simp only [if_true] at hz
    have hzl : (zs.take len).length = len := by rw [List.length_take]; omega
    refine ⟨some a, cap, zs.take len, by rw [hzl], ?_, by simp⟩
    intro i v hi
    have hil : i < len := by
      have := (List.getElem?_eq_some_iff.1 hi).1
      simp only [List.length_map, List.length_take] at this; omega
    have hiz : i < zs.length := by omega
    have hc := hcell i hiz
    obtain ⟨b, off, sp⟩ := a
    have hsp : sp = none := by simpa [Addr.add] using World.cell?_spot (hcell 0 (by omega))
    subst hsp
    refine ⟨b, off, rfl, ?_⟩
    rw [addr_add'] at hc
    rw [hc]
    have hv : v = .int .i64 (zs[i]) := by
      simp only [List.getElem?_map, List.getElem?_take, if_pos hil, List.getElem?_eq_getElem hiz, Option.map_some, Option.some.injEq] at hi
      exact hi.symm
    rw [hv, List.getD_eq_getElem?_getD, List.getElem?_eq_getElem hiz]; rfl
/-- A WORLD FOR THE WITNESSES: the settled one, the table holding what its initialiser lays. -/
noncomputable def laidWorld (os : Os) : World :=
  { World.holding Tryd.prog os ⟨#[], #[], []⟩ with heap := (World.holding Tryd.prog os ⟨#[], #[], []⟩).heap.modify 0 fun
      | .cells _ t frozen => .cells ((Lib.deBruijn64tab.map fun n : Nat => Value.int .u8 (n : Int)).toArray) t frozen
      | o => o }
end Go.Proofs.YtgbfpnnimnjbdaaDoor.open1
