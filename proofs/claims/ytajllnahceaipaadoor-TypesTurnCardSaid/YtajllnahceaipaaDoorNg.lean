/-
  Openings: what an argument that is a slice tells; numbers, structs.
  loanwordlaw06.TypesTurn: the card: whatever the input, the law returns true and the input reads as it did.
-/
import Derived.Test.YtajllnahceaipaaDoorNf

section
namespace Go.Proofs.YtajllnahceaipaaDoor.open6
open Go.Sh Go.ChangeShapes Go.WideShapes Go.ChangeAt Go.RowKit
set_option maxRecDepth 100000
set_option linter.unusedSimpArgs false
set_option linter.unusedVariables false
theorem sl_open {H : Type} {enc : TypeId × Value → H} {W : World} {base : Nat} {v : Value} {d : DataW H} {p : List MemPlace} {T e : TypeId} {ts : List TypeId} (u : Tryd.prog.underlying T = some (.slice e)) (hp : plainS Tryd.prog ts = true) (ht : T ∈ ts)
    (hv : Value.okWide Tryd.prog W .any base T v) (h : DataW.Trod enc Tryd.prog W 0 (fun _ => true) true T v d p) :
    ∃ q cap es, v = .slice q (List.length es) cap ∧ (q = none → cap = 0) ∧ es.length ≤ cap ∧ RepS (all W) (Tryd.prog.cellsOf e) q 0 es ∧ es.length ≤ maxLen ∧ ∀ x ∈ es, x.ok Tryd.prog e := by
  obtain ⟨a0, len, cap, rfl⟩ := Go.WideShapes.okWide_slice u hv
  obtain ⟨fuel, hf⟩ := h
  obtain ⟨d, hr, hd⟩ := rep_of_trod hp fuel T _ _ ht hf
  obtain ⟨es, rfl, hl, hk⟩ := dat_sl u hd
  obtain ⟨q, cap', hq, h1, h2, h3⟩ := hr
  have hq : [Value.slice a0 len cap] = [.slice q es.length cap'] := hq
  injection hq with hq
  exact ⟨q, cap', es, hq, h1, h2, h3, hl, hk⟩
theorem u68 : Tryd.prog.underlying 68 = some (.slice 3) := by kernel_rfl
theorem c3 : Tryd.prog.cellsOf 3 = 1 := by kernel_rfl
theorem plain68 : plainS Tryd.prog [68, 3] = true := by kernel_rfl
theorem ints_open {H : Type} {enc : TypeId × Value → H} {W : World} {base : Nat} {v : Value} {d : DataW H} {p : List MemPlace} (hv : Value.okWide Tryd.prog W .any base 68 v) (h : DataW.Trod enc Tryd.prog W 0 (fun _ => true) true 68 v d p) :
    ∃ q cap l, v = .slice q (List.length l) cap ∧ (q = none → cap = 0) ∧ l.length ≤ cap ∧ (Ob (all W) fun w => Sl w q (ints l)) ∧ ∀ n ∈ l, inI n := by
  obtain ⟨q, cap, es, rfl, h1, h2, h3, h4, h5⟩ := sl_open u68 plain68 (by simp) hv h
  obtain ⟨l, rfl, hg⟩ := list_map (f := Dat.int .i64) (G := inI) es fun x hx => by
    obtain ⟨n, rfl, hw⟩ := dat_int u3 (h5 x hx)
    exact ⟨n, rfl, wf_int hw⟩
  rw [List.length_map] at h2
  refine ⟨q, cap, l, by rw [List.length_map], h1, h2, fun w hw i v hi => ?_, hg⟩
  obtain ⟨n, hn, rfl⟩ : ∃ n, l[i]? = some n ∧ v = .int .i64 n := by
    rw [ints, List.getElem?_map] at hi
    cases hl : l[i]? with
    | none => rw [hl] at hi; cases hi
    | some n => rw [hl] at hi; exact ⟨n, rfl, (Option.some.inj hi).symm⟩
  obtain ⟨c, hc, hcc, hr⟩ := h3.get (i := i) (d := .int .i64 n) (by rw [List.getElem?_map, hn]; rfl)
  obtain rfl : c = _ := hr
  obtain ⟨b, off, rfl, ho⟩ := hcc 0 _ rfl
  refine ⟨b, off, rfl, ?_⟩
  have := ho w hw
  rw [c3] at this
  simpa using this
theorem u50 : Tryd.prog.underlying 50 = some (.slice 99) := by kernel_rfl
theorem c99 : Tryd.prog.cellsOf 99 = 2 := by kernel_rfl
theorem u99 : ∃ fs, Tryd.prog.underlying 99 = some (.struct fs) ∧ fs.toList.map (·.type) = [9, 97] := struct_of (by kernel_rfl)
theorem u97 : Tryd.prog.underlying 97 = some (.slice 101) := by kernel_rfl
theorem c101 : Tryd.prog.cellsOf 101 = 6 := by kernel_rfl
theorem u101 : ∃ fs, Tryd.prog.underlying 101 = some (.struct fs) ∧ fs.toList.map (·.type) = [9, 25] := struct_of (by kernel_rfl)
theorem plain50 : plainS Tryd.prog [50, 99, 9, 97, 101, 25, 22, 4, 3, 23] = true := by kernel_rfl
theorem fld_of_ok {d : Dat} (h : d.ok Tryd.prog 101) : ∃ f : ByteArray × TyD, d = fdat f ∧ f.2.good := by
  obtain ⟨ds, rfl, e0⟩ := dat_agg u101 h
  obtain ⟨d0, ds, rfl, h0, e1⟩ := okF_cons e0
  obtain ⟨d1, ds, rfl, h1, e2⟩ := okF_cons e1
  obtain rfl := okF_nil e2
  obtain ⟨s, rfl, _⟩ := dat_str h0
  obtain ⟨t, rfl, hg⟩ := ty_of_ok _ d1 (Nat.le_refl _) h1
  exact ⟨(s, t), rfl, hg⟩
theorem st_of_ok {d : Dat} (h : d.ok Tryd.prog 99) : ∃ s : StD, d = s.dat ∧ ∀ f ∈ s.fs, f.2.good := by
  obtain ⟨ds, rfl, e0⟩ := dat_agg u99 h
  obtain ⟨d0, ds, rfl, h0, e1⟩ := okF_cons e0
  obtain ⟨d1, ds, rfl, h1, e2⟩ := okF_cons e1
  obtain rfl := okF_nil e2
  obtain ⟨s, rfl, _⟩ := dat_str h0
  obtain ⟨es, rfl, hl, k4⟩ := dat_sl u97 h1
  obtain ⟨l, rfl, hg⟩ := list_map (f := fdat) (G := fun f => f.2.good) es fun x hx => fld_of_ok (k4 x hx)
  refine ⟨⟨s, l⟩, ?_, hg⟩
  rw [StD.dat, c101]
theorem structs_open {H : Type} {enc : TypeId × Value → H} {W : World} {base : Nat} {v : Value} {d : DataW H} {p : List MemPlace} (hv : Value.okWide Tryd.prog W .any base 50 v) (h : DataW.Trod enc Tryd.prog W 0 (fun _ => true) true 50 v d p) :
    ∃ q cap ss, v = .slice q (List.length ss) cap ∧ (q = none → cap = 0) ∧ ss.length ≤ cap ∧ StG (all W) q ss ∧ ∀ s ∈ ss, ∀ f ∈ s.fs, f.2.good := by
  obtain ⟨q, cap, es, rfl, h1, h2, h3, h4, h5⟩ := sl_open u50 plain50 (by simp) hv h
  obtain ⟨l, rfl, hg⟩ := list_map (f := StD.dat) (G := fun s => ∀ f ∈ s.fs, f.2.good) es fun x hx => st_of_ok (h5 x hx)
  rw [List.length_map] at h2
  rw [c99] at h3
  exact ⟨q, cap, l, by rw [List.length_map], h1, h2, h3, hg⟩
end Go.Proofs.YtajllnahceaipaaDoor.open6
end

section
namespace Go.Proofs.YtajllnahceaipaaDoor.typesTurn
open Go.Sh Go.ChangeShapes Go.WideShapes Go.ChangeAt Go.RowKit open6
set_option maxRecDepth 100000
set_option linter.unusedVariables false

theorem contract (H : Type) (enc : TypeId × Value → H) (W : World) (base : Nat) (args : Array Value) (ds gs : List (DataW H)) (before : List MemPlace)
    (hval : ∀ (j : Nat) t v, Tryd.f8.params[j]? = some t → args[j]? = some v → Value.okWide Tryd.prog W .any base t v)
    (hW : DataW.Whole enc Tryd.prog Tryd.f8.params.toList Rows.typesTurnSpec.vars false W args.toList ds gs before) (hL : laidMetH Tryd.prog Rows.typesTurnRow.laid W) :
    Calls Tryd.prog 8 args W fun e W' => ∃ v, e = .returned v ∧ Rows.typesTurnSpec.post enc Tryd.prog Tryd.f8 false true false false W args v W' := by
  have hW' := hW
  obtain ⟨p, q, hA, hV, rfl, hfz, hnd⟩ := hW
  rw [show Tryd.f8.params.toList = [25, 25, 3, 68] by kernel_rfl] at hA
  obtain ⟨v0, vs0, d0, ds0, p0, q100, hargs, rfl, rfl, h0, r0⟩ := trodAll_cons hA
  obtain ⟨v1, vs1, d1, ds1, p1, q101, rfl, rfl, rfl, h1, r1⟩ := trodAll_cons r0
  obtain ⟨v2, vs2, d2, ds2, p2, q102, rfl, rfl, rfl, h2, r2⟩ := trodAll_cons r1
  obtain ⟨v3, vs3, d3, ds3, p3, q103, rfl, rfl, rfl, h3, r3⟩ := trodAll_cons r2
  obtain ⟨rfl, rfl, rfl⟩ := trodAll_nil r3
  obtain rfl : args = #[v0, v1, v2, v3] := by cases args; simp_all
  obtain ⟨rfl, rfl⟩ := trodVars_none hV
  obtain ⟨t0, ht0, hg0⟩ := ty_open (hval 0 25 v0 (by kernel_rfl) rfl) h0
  obtain ⟨t1, ht1, hg1⟩ := ty_open (hval 1 25 v1 (by kernel_rfl) rfl) h1
  obtain ⟨n2, rfl, lo2, hi2, _⟩ := open_int u3 (hval 2 3 v2 (by kernel_rfl) rfl) h2
  obtain ⟨q3, cap3, ls3, rfl, hn3, hc3, hl3, _⟩ := ints_open (hval 3 68 v3 (by kernel_rfl) rfl) h3
  refine Calls.mono (c_law06_TypesTurn (K := fun v W' => v = .bool true ∧ Ext W W') (all_holds W) ht0 ht1 hl3 hc3 hn3 fun w' e => ⟨rfl, e⟩) ?_
  rintro e W' ⟨v, he, rfl, hE⟩
  exact ⟨_, he, post_told laidOut rowed full (by rw [show Tryd.f8.params.toList = [25, 25, 3, 68] by kernel_rfl]; decide) rfl (by kernel_rfl) u4 hW' rfl hE⟩

def wit : Array Value := #[.agg #[.int .u8 0, .bool false, .int .i64 0, .int .i64 0, .slice none 0 0], .agg #[.int .u8 0, .bool false, .int .i64 0, .int .i64 0, .slice none 0 0], .int .i64 0, .slice none 0 0]
theorem laid_met (os : Os) : laidMet Tryd.prog Rows.typesTurnRow.laid ((laidWorld os).forCall (fun _ _ => 0) ⟨#[], wit, []⟩).memory :=
  laidMet_of_run' 8 (by kernel_rfl) (by kernel_rfl)
theorem reads (os : Os) {H : Type} (enc : TypeId × Value → H) : ∃ ds places, DataW.whole enc Tryd.prog ((laidWorld os).forCall (fun _ _ => 0) ⟨#[], wit, []⟩).memory Tryd.f8.params.toList Rows.typesTurnSpec.vars false wit.toList 8 = some (ds, [], places) :=
  ⟨[.agg [.lit (.int .u8 0), .lit (.bool false), .lit (.int .i64 0), .lit (.int .i64 0), .nil], .agg [.lit (.int .u8 0), .lit (.bool false), .lit (.int .i64 0), .lit (.int .i64 0), .nil], .lit (.int .i64 0), .nil], [], by kernel_rfl⟩
theorem lifted (os : Os) (started : os.Started) (H : Type) (enc : TypeId × Value → H) (F : Stop.Interp) :
    ReturnsInHanded {} Tryd.checked os 8 .any ((OpenSpec.ofChange Rows.typesTurnSpec).preRow enc Tryd.prog Tryd.f8 Rows.typesTurnRow.domain false Rows.typesTurnRow.laid) (((OpenSpec.ofChange Rows.typesTurnSpec).at F).post enc Tryd.prog Tryd.f8 false true false false) := by
  obtain ⟨ds, places, hx⟩ := reads os enc
  refine returnsInHanded_of_row (C := Tryd.checked) (s := OpenSpec.ofChange Rows.typesTurnSpec) own started (by kernel_rfl) Tryd.func8
    (witness_row_at (enc := enc) (C := Tryd.checked) false (laidWorld os) wit rfl (by kernel_rfl) (by kernel_rfl) (by kernel_rfl)
      (OpenSpec.preRow_of_cond 8 hx (by kernel_rfl) (fun k hk => by cases hk) (by kernel_rfl) (laid_met os))) ?_
  intro W base args ds gs before hval hW _ _ _ hL _ _
  exact contract H enc W base args ds gs before hval hW hL
theorem said : Rows.TypesTurnSaid :=
  OpenClaim.holds_of_cond 8 Tryd.f8 rfl rfl rfl rfl rfl rfl rfl ⟨rfl, rfl, rfl, rfl, rfl⟩ rfl rfl rfl rfl rfl (by kernel_rfl) Tryd.func8 (by kernel_rfl)
    (of_decide_eq_true (by kernel_rfl)) (by unfold Func.isWrapper; first | (rw [if_pos (by decide +kernel)]; kernel_rfl) | (rw [if_neg (by decide +kernel)]; exact ⟨rfl, rfl⟩))
    (fun os started H enc _ F => by rw [OpenClaim.pre_eq_preRow]; exact lifted os started H enc F)
theorem plain (f : FuncId) (fn : Func) (hf : Tryd.pinned.checked.prog.funcNamed "loanword/loanwordlaw06.TypesTurn" = some f) (hfn : Tryd.pinned.checked.prog.funcs[f]? = some fn) :
    true = Tryd.pinned.checked.prog.looks [] ∧ ∀ (j : Nat) t, fn.params[j]? = some t → Tryd.pinned.checked.prog.wantsStandIn t = false := by
  obtain rfl : f = 8 := Option.some.inj ((show Tryd.prog.funcNamed "loanword/loanwordlaw06.TypesTurn" = some 8 by kernel_rfl).symm.trans hf) |>.symm
  obtain rfl : fn = Tryd.f8 := (Option.some.inj (Tryd.func8.symm.trans hfn)).symm
  refine ⟨by kernel_rfl, fun j t ht => ?_⟩
  have hall : (Tryd.f8.params.all fun t => !(Tryd.prog.wantsStandIn t)) = true := by kernel_rfl
  have := Array.all_eq_true_iff_forall_mem.1 hall t (Array.mem_of_getElem? ht)
  show Tryd.prog.wantsStandIn t = false
  simpa using this
theorem card : Rows.TypesTurnCardSaid :=
  Claim7.holds_tied_plain_at .later [] _ _ _ _ said (fun _ h => by cases h) (by kernel_rfl) (fun _ h => by cases h) typesTurn_row_tie rfl ⟨rfl, rfl⟩ (by kernel_rfl) rfl plain (by kernel_rfl)
end Go.Proofs.YtajllnahceaipaaDoor.typesTurn
end
