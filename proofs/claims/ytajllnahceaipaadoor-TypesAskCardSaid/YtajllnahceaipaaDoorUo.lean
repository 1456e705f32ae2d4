/-
  What every law of layer 6 opens: types, lists, numbers, texts; the program's facts.
-/
import Derived.Test.YtajllnahceaipaaDoorTa
import Derived.Test.YtajllnahceaipaaDoorShJ
import Derived.Test.YtajllnahceaipaaDoorCards
import Derived.Test.YtajllnahceaipaaDoorTie
import Derived.WalkKit
namespace Go.Proofs
open Go.Sh
set_option maxRecDepth 100000
set_option linter.unusedSimpArgs false
set_option linter.unusedVariables false
def inI (n : Int) : Prop := -9223372036854775808 ≤ n ∧ n ≤ 9223372036854775807
mutual
/-- the numbers of a type are of their kinds -/
def TyD.good : TyD → Prop
  | .mk k _ re st of => (0 ≤ k ∧ k ≤ 255) ∧ inI re ∧ inI st ∧ of.length ≤ Go.maxLen ∧ TyD.goods of
def TyD.goods : List TyD → Prop
  | [] => True
  | t :: l => TyD.good t ∧ TyD.goods l
end
theorem TyD.goods_mem : ∀ {l : List TyD}, TyD.goods l → ∀ t ∈ l, t.good
  | [], _, t, h => by cases h
  | x :: l, h, t, ht => by
    rcases List.mem_cons.1 ht with rfl | ht
    · exact h.1
    · exact TyD.goods_mem h.2 t ht
theorem TyD.goods_of : ∀ {l : List TyD}, (∀ t ∈ l, t.good) → TyD.goods l
  | [], _ => trivial
  | x :: l, h => ⟨h x List.mem_cons_self, TyD.goods_of fun t ht => h t (List.mem_cons_of_mem _ ht)⟩
end Go.Proofs
namespace Go.Proofs.YtajllnahceaipaaDoor.open6
open Go.Sh Go.ChangeShapes Go.WideShapes Go.ChangeAt Go.RowKit
set_option maxRecDepth 100000
set_option linter.unusedSimpArgs false
set_option linter.unusedVariables false

theorem own : ownKnob Tryd.prog.godebug = none := by kernel_rfl
theorem u3 : Tryd.prog.underlying 3 = some (.int .i64) := by kernel_rfl
theorem u4 : Tryd.prog.underlying 4 = some .bool := by kernel_rfl
theorem u9 : Tryd.prog.underlying 9 = some .string := by kernel_rfl
theorem u22 : Tryd.prog.underlying 22 = some (.int .u8) := by kernel_rfl
theorem u23 : Tryd.prog.underlying 23 = some (.slice 25) := by kernel_rfl
theorem c25 : Tryd.prog.cellsOf 25 = 5 := by kernel_rfl
noncomputable def structB (t : TypeId) (ts : List TypeId) : Bool := match Tryd.prog.underlying t with | some (.struct fs) => decide (fs.toList.map (·.type) = ts) | _ => false
theorem struct_of {t : TypeId} {ts : List TypeId} (h : structB t ts = true) : ∃ fs, Tryd.prog.underlying t = some (.struct fs) ∧ fs.toList.map (·.type) = ts := by
  unfold structB at h
  split at h
  · rename_i fs hu; exact ⟨fs, hu, of_decide_eq_true h⟩
  · cases h
theorem u25 : ∃ fs, Tryd.prog.underlying 25 = some (.struct fs) ∧ fs.toList.map (·.type) = [22, 4, 3, 3, 23] := struct_of (by kernel_rfl)
theorem laidOut : laidOutB Tryd.prog = true := by kernel_rfl
theorem rowed : mapsRowed Tryd.prog = true := by kernel_rfl
theorem full : ((List.range Tryd.prog.types.size).all fun t => match Tryd.prog.underlying t with | some (.slice e) => decide (0 < Tryd.prog.cellsOf e) | _ => true) = true := by kernel_rfl
theorem plain25 : plainS Tryd.prog [25, 22, 4, 3, 23] = true := by kernel_rfl

theorem dat_int {d : Dat} {t : TypeId} {k : IntKind} (u : Tryd.prog.underlying t = some (.int k)) (h : d.ok Tryd.prog t) : ∃ n, d = .int k n ∧ (Lit.int k n).wf = true := by
  cases d <;> simp only [Dat.ok, u] at h <;> try simp at h
  obtain ⟨rfl, h⟩ := h
  exact ⟨_, rfl, h⟩
theorem dat_bool {d : Dat} (h : d.ok Tryd.prog 4) : ∃ b, d = .bool b := by
  cases d <;> simp only [Dat.ok, u4] at h <;> try simp at h
  exact ⟨_, rfl⟩
theorem dat_str {d : Dat} (h : d.ok Tryd.prog 9) : ∃ s, d = .str s ∧ s.size ≤ maxLen := by
  cases d <;> simp only [Dat.ok, u9] at h <;> try simp at h
  exact ⟨_, rfl, h⟩
theorem dat_sl {d : Dat} {t e : TypeId} (u : Tryd.prog.underlying t = some (.slice e)) (h : d.ok Tryd.prog t) : ∃ es, d = .sl (Tryd.prog.cellsOf e) es ∧ es.length ≤ maxLen ∧ ∀ x ∈ es, x.ok Tryd.prog e := by
  cases d <;> simp only [Dat.ok, u] at h <;> try simp at h
  obtain ⟨rfl, h1, h2⟩ := h
  exact ⟨_, rfl, h1, okS_mem h2⟩
theorem dat_agg {d : Dat} {t : TypeId} {ts : List TypeId} (u : ∃ fs, Tryd.prog.underlying t = some (.struct fs) ∧ fs.toList.map (·.type) = ts) (h : d.ok Tryd.prog t) : ∃ ds, d = .agg ds ∧ Dat.okF Tryd.prog ds ts := by
  obtain ⟨fs, u, rfl⟩ := u
  cases d <;> simp only [Dat.ok, u] at h <;> try simp at h
  exact ⟨_, rfl, by simpa using h⟩
theorem okF_cons {ds : List Dat} {t : TypeId} {ts : List TypeId} (h : Dat.okF Tryd.prog ds (t :: ts)) : ∃ d r, ds = d :: r ∧ d.ok Tryd.prog t ∧ Dat.okF Tryd.prog r ts := by
  cases ds with
  | nil => cases h
  | cons d r => obtain ⟨t', r', h1, h2, h3⟩ := h; cases h1; exact ⟨d, r, rfl, h2, h3⟩
theorem okF_nil {ds : List Dat} (h : Dat.okF Tryd.prog ds []) : ds = [] := by
  cases ds with
  | nil => rfl
  | cons d r => obtain ⟨t', r', h1, _⟩ := h; cases h1
theorem wf_int {n : Int} (h : (Lit.int .i64 n).wf = true) : inI n := by
  simp only [Lit.wf, Bool.and_eq_true, decide_eq_true_eq] at h
  exact ⟨h.1, h.2⟩
theorem wf_u8 {n : Int} (h : (Lit.int .u8 n).wf = true) : 0 ≤ n ∧ n ≤ 255 := by
  simp only [Lit.wf, Bool.and_eq_true, decide_eq_true_eq] at h
  exact ⟨h.1, h.2⟩
theorem list_of {α : Type} {Q : Dat → α → Prop} : ∀ es : List Dat, (∀ d ∈ es, ∃ t, Q d t) → ∃ l : List α, l.length = es.length ∧ ∀ (i : Nat) d t, es[i]? = some d → l[i]? = some t → Q d t
  | [], _ => ⟨[], rfl, fun i d t h => by cases h⟩
  | d :: es, h => by
    obtain ⟨t, ht⟩ := h d List.mem_cons_self
    obtain ⟨l, hl, hq⟩ := list_of es fun x hx => h x (List.mem_cons_of_mem _ hx)
    refine ⟨t :: l, by simp [hl], fun i x y hx hy => ?_⟩
    cases i with
    | zero => simp at hx hy; subst hx hy; exact ht
    | succ i => exact hq i x y (by simpa using hx) (by simpa using hy)
theorem list_map {α : Type} {f : α → Dat} {G : α → Prop} : ∀ es : List Dat, (∀ d ∈ es, ∃ t, d = f t ∧ G t) → ∃ l : List α, es = l.map f ∧ ∀ t ∈ l, G t
  | [], _ => ⟨[], rfl, fun t h => by cases h⟩
  | d :: es, h => by
    obtain ⟨t, rfl, ht⟩ := h d List.mem_cons_self
    obtain ⟨l, rfl, hq⟩ := list_map es fun x hx => h x (List.mem_cons_of_mem _ hx)
    refine ⟨t :: l, rfl, fun x hx => ?_⟩
    rcases List.mem_cons.1 hx with rfl | hx
    · exact ht
    · exact hq x hx
theorem ty_of_ok : ∀ (n : Nat) (d : Dat), SizeOf.sizeOf d ≤ n → d.ok Tryd.prog 25 → ∃ t : TyD, d = t.dat ∧ t.good := by
  intro n
  induction n with
  | zero => intro d h _; cases d <;> simp at h
  | succ n ih =>
    intro d hs h
    obtain ⟨ds, rfl, e0⟩ := dat_agg u25 h
    obtain ⟨d0, ds, rfl, h0, e1⟩ := okF_cons e0
    obtain ⟨d1, ds, rfl, h1, e2⟩ := okF_cons e1
    obtain ⟨d2, ds, rfl, h2, e3⟩ := okF_cons e2
    obtain ⟨d3, ds, rfl, h3, e4⟩ := okF_cons e3
    obtain ⟨d4, ds, rfl, h4, e5⟩ := okF_cons e4
    obtain rfl := okF_nil e5
    obtain ⟨k, rfl, g0⟩ := dat_int u22 h0
    obtain ⟨m, rfl⟩ := dat_bool h1
    obtain ⟨re, rfl, g2⟩ := dat_int u3 h2
    obtain ⟨st, rfl, g3⟩ := dat_int u3 h3
    obtain ⟨es, rfl, hl, k4⟩ := dat_sl u23 h4
    obtain ⟨l, rfl, hg⟩ := list_map (f := TyD.dat) (G := TyD.good) es fun x hx => ih x (by
      have := List.sizeOf_lt_of_mem hx
      simp only [Dat.agg.sizeOf_spec, List.cons.sizeOf_spec, Dat.sl.sizeOf_spec] at hs
      omega) (k4 x hx)
    refine ⟨.mk k m re st l, ?_, wf_u8 g0, wf_int g2, wf_int g3, by simpa using hl, TyD.goods_of hg⟩
    rw [TyD.dat, TyD.dats_map, c25]
theorem ty_open {H : Type} {enc : TypeId × Value → H} {W : World} {base : Nat} {v : Value} {d : DataW H} {p : List MemPlace} (hv : Value.okWide Tryd.prog W .any base 25 v) (h : DataW.Trod enc Tryd.prog W 0 (fun _ => true) true 25 v d p) :
    ∃ t : TyD, TyG (all W) v t ∧ t.good := by
  obtain ⟨fs, hu, _⟩ := u25
  obtain ⟨cs, rfl, hsz⟩ := okWide_struct hu hv
  obtain ⟨fuel, hf⟩ := h
  obtain ⟨d, hr, hd⟩ := rep_of_trod plain25 fuel 25 _ _ (by simp) hf
  obtain ⟨t, rfl, hg⟩ := ty_of_ok _ d (Nat.le_refl _) hd
  exact ⟨t, by simpa [Value.cells] using TyG.of_rep hr, hg⟩
def cellsD : DataW Unit → List Value
  | .agg l => l.map fun
    | .lit (.int k n) => .int k n
    | _ => undef
  | _ => []
def laying (d : DataW Unit) : Obj → Obj
  | .cells _ t frozen => .cells (cellsD d).toArray t frozen
  | o => o
/-- A WORLD FOR THE WITNESSES: the settled one, the tables holding what their initialisers lay. -/
noncomputable def laidWorld (os : Os) : World :=
  { World.holding Tryd.prog os ⟨#[], #[], []⟩ with heap := (((World.holding Tryd.prog os ⟨#[], #[], []⟩).heap.modify 0 (laying Rows.laid_internal_strconv_uint64pow10)).modify 1 (laying Rows.laid_math_bits_deBruijn32tab)).modify 2 (laying Rows.laid_math_bits_deBruijn64tab) }
end Go.Proofs.YtajllnahceaipaaDoor.open6
