/-
  Plain facts of RegionShapes: what regions are laid anew keeps its shape.
  loanwordlaw13.RegionShapes: whatever the program, the function, the point: the law returns true.
  Openings: what arguments that are types, programs, lists of numbers tell.
  loanwordlaw13.RegionShapes: whatever the input, the law returns true and the input reads as it did.
-/
import Derived.Test.YtngfnikkdhbajaaQVe
import Derived.Test.YtngfnikkdhbajaaQVc
import Derived.Test.YtngfnikkdhbajaaRows
import Derived.WalkKit

section
namespace Go.Proofs

open Go.Sh

set_option maxRecDepth 100000

set_option linter.unusedSimpArgs false

set_option linter.unusedVariables false

theorem bare_k {t : TyD} : (bare t).k = t.k ∧ (bare t).m = t.m ∧ (bare t).st = t.st := by cases t; exact ⟨rfl, rfl, rfl⟩
theorem bare_bare {s : Int} : ∀ (n : Nat) {t : TyD}, lookB s n t = true → bare (bare t) = bare t := by
  intro n
  induction n with
  | zero => intro t h; cases h
  | succ n ih =>
    intro t h
    obtain ⟨k1, k2, k3⟩ := bare_k (t := t)
    rcases look_cases h with ⟨ho, hk⟩ | ⟨u, ho, hu, hk⟩
    · have e : bare t = t := by
        show t.mapR fBare = t
        rw [mapR_nil ho, if_neg (by omega)]
        cases t; simp only [TyD.of] at ho; subst ho; rfl
      rw [e, e]
    · have hb : (bare t).of = [bare u] := by show (t.mapR fBare).of = _; rw [mapR_one ho]; rfl
      refine bare_mk k1 k2 k3 (fun h4 => ?_) hb ho (ih hu)
      show (t.mapR fBare).re = _
      rw [mapR_one ho]
      exact if_neg (by rw [k1] at h4; exact h4)
theorem look_map {s : Int} : ∀ (n : Nat) {t : TyD}, lookB s n t = true → lookB s n (bare t) = true := by
  intro n
  induction n with
  | zero => intro t h; cases h
  | succ n ih =>
    intro t h
    obtain ⟨k1, k2, k3⟩ := bare_k (t := t)
    rcases look_cases h with ⟨ho, hk⟩ | ⟨u, ho, hu, hk⟩
    · have e : bare t = t := by
        show t.mapR fBare = t
        rw [mapR_nil ho, if_neg (by omega)]
        cases t; simp only [TyD.of] at ho; subst ho; rfl
      rw [e]; exact h
    · have hm : t.mapR fBare = .mk t.k t.m (if t.k = 4 then -1 else t.re) t.st [bare u] := mapR_one ho
      refine look_bare (n + 1) h (bare_bare _ h).symm (fun h4 => ?_) (fun y hy => ?_) (fun h4 => ?_)
      · show (t.mapR fBare).re = 0
        rw [hm]
        rw [k1] at h4
        show (if t.k = 4 then (-1 : Int) else t.re) = 0
        rw [if_neg h4, look_re0 h h4]
      · have hy : (t.mapR fBare).of = [y] := hy
        rw [hm] at hy
        cases hy
        exact ⟨n, ih hu⟩
      · show -1 ≤ (t.mapR fBare).re
        rw [hm]
        show -1 ≤ (if t.k = 4 then (-1 : Int) else t.re)
        rw [k1] at h4
        rw [if_pos h4]; omega
theorem pt_isU {u : UnD} {n q : Int} (h0 : ptE u n q = 0) : isU u n q = true ∧ isU u n (-1) = true ∧ 0 ≤ q := by
  obtain ⟨hf, hq0, hn, hql⟩ := ptE_ok h0
  obtain ⟨hM, hn0, _⟩ := fnE_ok hf
  have hm := mayU_iff.2 hM
  have key : ∀ x : Int, x < u.fs[n.toNat].pts.length → isU u n x = true := fun x hx => by
    rw [isU, hm, List.getElem?_eq_getElem hn, decide_eq_true hn0, decide_eq_true (show n < u.fs.length by omega)]
    show (true && true && (true && decide (x < ((u.fs[n.toNat].pts.length : Nat) : Int)))) = true
    rw [decide_eq_true hx]; rfl
  exact ⟨key q (by omega), key (-1) (by omega), hq0⟩
theorem isU_all {u : UnD} {n x : Int} {g : GrD} (hi : isU u n x = true) (hg : u.fs[n.toNat]? = some g) : allT u n x = (allD u g, 0) := by
  obtain ⟨hM, hn0, hlt, _, hT⟩ := isU_spec hi
  rw [List.getElem?_eq_getElem hlt] at hg
  cases hg; exact hT
/-- what a place of the graph is among the numbered regions -/
theorem place_rg {u : UnD} {n : Int} {g : GrD} {p : PlD} {fn : Nat} (hM : MayU u) (hH : HeadU u fn g) (ho : (spotG u.ss g.tys p).2.2 = true) :
    ∃ x, placeR u.ss (allD u g).tys p = (x, 0) ∧ isB x = true ∧ bare x = bare (spotG u.ss g.tys p).1 ∧ placeW u.ss (allD u g).tys p ≠ none := by
  obtain ⟨x, hw, hb⟩ := place_spot hM hH ho
  have hw : placeW u.ss (allD u g).tys p = some x := hw
  obtain ⟨hf, h32⟩ := placeW_fine hw
  exact ⟨x.1, by rw [placeR, hw], hf.is h32, hb, by rw [hw]; simp⟩
theorem rg_place {u : UnD} {n : Int} {g : GrD} {p : PlD} {fn : Nat} (hM : MayU u) (hH : HeadU u fn g) (hi : isU u n (-1) = true) (hg : u.fs[n.toNat]? = some g) (ho : (spotG u.ss g.tys p).2.2 = true) :
    (512 < (allD u g).ct ∧ rgPlace u n p = (zeroD, 5)) ∨ ((allD u g).ct ≤ 512 ∧ ∃ x, rgPlace u n p = (x, 0) ∧ isB x = true ∧ bare x = bare (spotG u.ss g.tys p).1) := by
  obtain ⟨x, h1, h2, h3, h4⟩ := place_rg (n := n) hM hH ho
  have e := isU_all hi hg
  have hn : ¬ ((allT u n (-1)).2 ≠ 0 ∨ placeW u.ss (allT u n (-1)).1.tys p = none) := by
    rw [e]; rintro (h | h)
    · exact h rfl
    · exact h4 h
  rw [rgPlace, if_neg hn, e]
  by_cases hc : 512 < (allD u g).ct
  · refine .inl ⟨hc, ?_⟩
    have : fewT (allD u g, (0 : Int)) = (zeroRg, 5) := by rw [fewT, if_pos rfl, if_pos hc]
    rw [this]; rfl
  · refine .inr ⟨by omega, x, ?_, h2, h3⟩
    have : fewT (allD u g, (0 : Int)) = (allD u g, 0) := by rw [fewT, if_pos rfl, if_neg hc]
    rw [this]
    show (if (0 : Int) ≠ 0 then _ else placeR u.ss (allD u g).tys p) = _
    rw [if_neg (by decide), h1]
theorem atE_op {u : UnD} {n q op : Int} {p : PtD} (h : atE u n q op = 0) (hp : ptAt u n q = some p) : p.op = op := by
  rw [atE] at h
  split at h
  · cases h
  split at h
  · contradiction
  · rw [show (u.fs[n.toNat]?.bind fun g => g.pts[q.toNat]?) = some p from hp] at h
    dsimp only at h
    split at h
    · cases h
    · omega
theorem bor_alike {u : UnD} {n q : Int} {p : PtD} {g : GrD} {t : TyD} {fn : Nat} (hM : MayU u) (hH : HeadU u fn g) (h0 : ptE u n q = 0) (hp : ptAt u n q = some p) (hg : u.fs[n.toNat]? = some g) (hpg : pointG u g p = true)
    (ht : isB t = true) (hb : bare t = bare (spotG u.ss g.tys p.to).1) (h : (borT u n q).2 = 0) : alikeT fAll (borT u n q).1 t = true := by
  obtain ⟨hi, _, hq0⟩ := pt_isU h0
  have e := isU_all hi hg
  unfold borT at h ⊢
  by_cases ha : atE u n q 4 ≠ 0
  · rw [if_pos ha] at h; exact absurd h ha
  rw [if_neg ha, hp, e] at h ⊢
  dsimp only at h ⊢
  have hop := atE_op (op := 4) (by omega) hp
  have h2 := point_pt hpg
  rw [ptG] at h2
  simp only [hop, Int.reduceEq, if_false, if_true, Bool.and_eq_true, decide_eq_true_eq, isK] at h2
  obtain ⟨⟨⟨⟨⟨_, hto, _⟩, hfr⟩, hk4⟩, hm⟩, hal, _⟩ := h2
  obtain ⟨x, h1, h2, h3, _⟩ := place_rg (n := n) hM hH hfr
  rw [h1] at h ⊢
  dsimp only
  have hff := hH.fine hM.ok
  have hfs := spot_fine hff hto
  obtain ⟨ha1, _⟩ := at_low hi hq0 hp (by rw [ptN, if_pos hop]; decide)
  rw [e] at ha1
  have ha1 : 0 ≤ atL (allD u g).at' q := ha1
  generalize (spotG u.ss g.tys p.to).1 = T at *
  have hTB := hfs.is hff.few
  rcases hfs.cases with ⟨_, hk⟩ | ⟨y, ho, hy, hk⟩
  · omega
  rw [ho] at hal
  have hal : alikeT fAll y (spotG u.ss g.tys p.fr).1 = true := hal
  obtain ⟨_, _, hyb⟩ := alikeT_bare hal
  have hbb : bare T = bare (.mk 4 p.mu (atL (allD u g).at' q) 0 [x]) := by
    refine bare_mk (u := y) (x := x) hk4 hm ?_ (fun h => absurd hk4 h) ho rfl (by rw [hyb, h3])
    show T.st = 0
    have := hTB
    rw [isB, lookB_succ, if_neg (by omega), if_neg (by omega), if_neg (by omega), if_pos hk4] at this
    simp only [Bool.and_eq_true, decide_eq_true_eq] at this
    omega
  refine (alikeT_iff ?_ ht).2 (by rw [hb, hbb])
  refine look_bare 48 hTB hbb (fun h => absurd rfl h) (fun z hz => ?_) (fun _ => ?_)
  · cases hz; exact ⟨48, h2⟩
  · show -1 ≤ atL (allD u g).at' q
    omega
theorem noneO_no {o : OpD} (h : noneO o = true) : o.k = 0 := by
  simp only [noneO, Bool.and_eq_true, decide_eq_true_eq] at h
  exact h.1.1
theorem inst_bare {t : TyD} {a : Int} (hB : isB t = true) (hr : ∀ x ∈ t.regs, 0 ≤ x) (ha : t.regs ≠ [] → 0 ≤ a) : isB (instT a t) = true ∧ bare (instT a t) = bare t := by
  have hrT : regsT t = t.regs := by rw [regsT, hB]; rfl
  refine ⟨look_lay 48 hB (by rw [hrT, List.length_map]; exact Nat.le_refl _) (fun x hx => ?_), bare_lay 48 hB⟩
  rw [hrT] at hx
  obtain ⟨k, hk, rfl⟩ := List.mem_map.1 hx
  have := hr k hk
  have := ha (List.ne_nil_of_mem hk)
  omega
theorem cal_alike {u : UnD} {n q : Int} {p : PtD} {g : GrD} {t : TyD} {fn : Nat} (hM : MayU u) (hH : HeadU u fn g) (h0 : ptE u n q = 0) (hp : ptAt u n q = some p) (hg : u.fs[n.toNat]? = some g) (hpg : pointG u g p = true)
    (ht : isB t = true) (hb : bare t = bare (spotG u.ss g.tys p.to).1) (h : (calT u n q).2.2 = 0) :
    opersG p = p.args ∧ p.args.length = (calT u n q).1.length ∧ alikeT fAll (calT u n q).2.1 t = true ∧
      ∀ (i : Nat) (hi : i < p.args.length) (hj : i < (calT u n q).1.length), (operG u.ss g.tys p.args[i]).2 = true ∧ isB (calT u n q).1[i] = true ∧ bare (calT u n q).1[i] = bare (operG u.ss g.tys p.args[i]).1 := by
  obtain ⟨hi, _, hq0⟩ := pt_isU h0
  have e := isU_all hi hg
  by_cases ha : atE u n q 7 ≠ 0
  · unfold calT at h; rw [if_pos ha] at h; exact absurd h ha
  have hop := atE_op (op := 7) (by omega) hp
  have hpc := point_call hpg hop
  have hltf : p.fn.toNat < u.fs.length := by omega
  have hC : calT u n q = (((u.fs[p.fn.toNat].tys.drop 1).take u.fs[p.fn.toNat].pn.toNat).map (instT (atL (allD u g).at' q)), instT (atL (allD u g).at' q) (u.fs[p.fn.toNat].tys.headD zeroD), 0) := by
    unfold calT
    rw [if_neg ha, hp, e]
    dsimp only
    rw [List.getElem?_eq_getElem hltf]
  have h2 := point_pt hpg
  rw [ptG] at h2
  simp only [hop, Int.reduceEq, if_false, if_true, Bool.and_eq_true, decide_eq_true_eq, List.getElem?_eq_getElem hltf] at h2
  obtain ⟨⟨⟨hrest, hto, _⟩, _⟩, hal, hargs⟩ := h2
  simp only [restG, restL, List.all_cons, Bool.and_eq_true, Bool.or_eq_true, id, Bool.false_eq_true, false_or, true_or, true_and] at hrest
  have hka : p.a.k = 0 := noneO_no hrest.1
  have hkb : p.b.k = 0 := noneO_no hrest.2.1
  obtain ⟨hlen, hat⟩ := argsG_at hargs
  have hall : ∀ o ∈ p.args, o.k ≠ 0 := fun o ho => by
    obtain ⟨i, hi, rfl⟩ := List.getElem_of_mem ho
    exact oper_kind (hat i hi (by omega)).1
  have hHf := hM.hd hltf
  have hff := hHf.fine hM.ok
  have hptn : ptN u p = u.fs[p.fn.toNat].lv := by rw [ptN, if_neg (by omega), if_pos hop, lvOf, List.getElem?_eq_getElem hltf]
  have hlow := at_low hi hq0 hp
  rw [hptn, e] at hlow
  have hlow : u.fs[p.fn.toNat].lv ≠ 0 → 0 ≤ atL (allD u g).at' q := fun hn => (hlow hn).1
  rw [hC]
  generalize atL (allD u g).at' q = A at hlow ⊢
  generalize u.fs[p.fn.toNat] = f at hHf hff hlow hal hargs hlen hat ⊢
  dsimp only
  have hfacts : ∀ (j : Nat) (hj : j < f.tys.length), (j : Int) ≤ f.pn → isB (instT A f.tys[j]) = true ∧ bare (instT A f.tys[j]) = bare f.tys[j] ∧ isB f.tys[j] = true := fun j hj hjp => by
    have hB := (hff.all _ (List.getElem_mem hj)).is hff.few
    have hrT : regsT f.tys[j] = f.tys[j].regs := by rw [regsT, hB]; rfl
    have hr := tysG_low hHf.tys hj (by omega)
    rw [hrT] at hr
    obtain ⟨h1, h2⟩ := inst_bare (a := A) hB (fun x hx => (hr x hx).1) fun hne => by
      obtain ⟨x, hx⟩ := List.exists_mem_of_ne_nil _ hne
      have := hr x hx
      exact hlow (by omega)
    exact ⟨h1, h2, hB⟩
  have hpn1 := hHf.pn1
  have hpn0 := hHf.pn0
  have hpos : 0 < f.tys.length := by omega
  have hhd : f.tys.headD zeroD = f.tys[0] := by rw [List.headD_eq_head?_getD, List.head?_eq_getElem?, List.getElem?_eq_getElem hpos, Option.getD_some]
  rw [hhd] at hal ⊢
  obtain ⟨_, _, halb⟩ := alikeT_bare hal
  obtain ⟨f1, f2, f3⟩ := hfacts 0 hpos (by omega)
  refine ⟨?_, by rw [List.length_map]; exact hlen, (alikeT_iff f1 ht).2 (by rw [f2, ← halb, hb]), fun i hi hj => ?_⟩
  · rw [opersG, show p.a :: p.b :: p.args = [p.a] ++ ([p.b] ++ p.args) from rfl, List.filter_append, List.filter_append, filt_no hka, filt_no hkb, filter_all hall]; rfl
  · have hlt : i < ((f.tys.drop 1).take f.pn.toNat).length := by rwa [List.length_map] at hj
    obtain ⟨h1, h2⟩ := hat i hi hlt
    obtain ⟨_, _, h2b⟩ := alikeT_bare h2
    refine ⟨h1, ?_⟩
    rw [List.getElem_map]
    rw [List.length_take, List.length_drop] at hlt
    simp only [List.getElem_take, List.getElem_drop] at h2b ⊢
    obtain ⟨f1, f2, f3⟩ := hfacts (1 + i) (by omega) (by omega)
    exact ⟨f1, by rw [f2, h2b]⟩
end Go.Proofs
end

section
namespace Go.Proofs

open Go.Sh

set_option maxRecDepth 100000

set_option linter.unusedSimpArgs false

set_option linter.unusedVariables false

set_option maxHeartbeats 4000000 in
theorem c_law13_RegionShapes {u : UnD} {n q : Int} {v : Value} {w : World} {r : Gh} {K : Value → World → Prop} (hr : Holds r w) (hu : UnG r v u)
    (h : ∀ w', Ext w w' → K (.bool true) w') : oCall Try.prog Try.n_law13_RegionShapes #[v, .int .i64 n, .int .i64 q] w K := by
  refine Try.ok_law13_RegionShapes ?_
  unfold Try.F_law13_RegionShapes
  have hu0 := hu
  obtain ⟨p0, cap0, vf, rfl, _, _, hst, hsl, hfn⟩ := hu
  obtain ⟨qf, capf, rfl, _, _⟩ := hfn.sl.shape
  have S := St.start hr
  refine S.box fun b3 w1 S => ?_
  have S : StX noX w r w1 [.cell b3 [.slice p0 u.ss.length cap0, .slice qf u.fs.length capf, .int .i64 u.mn] 43] := S
  refine S.ldB (b := b3) ?_ rfl
  refine c_law13_fits S.holds hu0 fun x w2 e2 => ?_
  have S := S.go e2
  ((with_reducible refine p_id ?_);first|refine s_p ?_|refine s_c (by omega) ?_)
  refine c_b (fun _ => c_law13_awake fun w3 e3 => h _ (S.go e3).ext) (fun _ => ?_)
  refine S.ldB (b := b3) ?_ rfl
  refine c_graph_Assigns S.holds hu0 (fun e w4 hA e4 => ?_) (fun to cto sto w4 hA e4 n4 hto => ?_)
  · have S := S.go e4
    (repeat (first | refine s_p ?_ | refine s_c (by omega) ?_))
    refine S.al fun b7 w5 S => ?_
    refine S.stB (b := b7) fun w6 S => ?_
    ((with_reducible refine p_id ?_);first|refine s_p ?_|refine s_c (by omega) ?_)
    refine j_borH (c := true) (fun _ K2 hK2 => by (repeat (first|((with_reducible refine p_id ?_);first|refine s_p ?_|refine s_c (by omega) ?_)|((with_reducible refine q_id ?_);first|refine S.ld ?_|refine S.ldB ?_|refine S.ce ?_|refine S.ceB ?_|refine s_q ?_|refine s_qc (by omega) ?_)|with_reducible refine n_some ?_|rw [List.getD_cons_zero]|rw [List.getD_cons_succ])); exact hK2) ?_
    exact c_t (by simp) (c_law13_awake fun w7 e7 => h _ (S.go e7).ext)
  obtain ⟨S, d4, a4⟩ := S.tell e4 n4
  -- what stands there
  have h0 : ptE u n q = 0 := by
    unfold assE at hA
    split at hA
    · cases hA
    · omega
  obtain ⟨p, hpn, hop, rfl⟩ : ∃ p, ptAt u n q = some p ∧ (1 ≤ p.op ∧ p.op ≤ 8) ∧ p.to = to := by
    rw [assE, if_neg (by omega)] at hA
    cases hp : ptAt u n q with
    | none => rw [hp] at hA; cases hA
    | some p =>
      rw [hp] at hA
      dsimp only at hA
      split at hA
      · cases hA
      · exact ⟨p, rfl, by omega, Option.some.inj hA⟩
  obtain ⟨hM, g, hgm, hgi, hpm, hpg, hH⟩ := pt_good h0 hpn
  obtain ⟨hiq, hi1, hq0⟩ := pt_isU h0
  have hspo := point_to hpg hop
  have hff := hH.fine hM.ok
  have hfe : fnE u n = 0 := (ptE_ok h0).1
  have hGT : grTy u n p.to = ((spotG u.ss g.tys p.to).1, 0) := by rw [grTy, if_neg (by omega), hgi]; dsimp only; rw [if_pos hspo]
  have hspB := (spot_fine hff hspo).is hff.few
  obtain ⟨vto, rfl, hlto⟩ := id hto
  obtain ⟨qto, cto, rfl, _, _⟩ := hlto.sl.shape
  (repeat (first | refine s_p ?_ | refine s_c (by omega) ?_))
  refine S.al fun b7 w5 S => ?_
  refine S.stB (b := b7) fun w6 S => ?_
  ((with_reducible refine p_id ?_);first|refine s_p ?_|refine s_c (by omega) ?_)
  refine j_borH (c := false) (fun _ K2 hK2 => by (repeat (first|((with_reducible refine p_id ?_);first|refine s_p ?_|refine s_c (by omega) ?_)|((with_reducible refine q_id ?_);first|refine S.ld ?_|refine S.ldB ?_|refine S.ce ?_|refine S.ceB ?_|refine s_q ?_|refine s_qc (by omega) ?_)|with_reducible refine n_some ?_|rw [List.getD_cons_zero]|rw [List.getD_cons_succ])); exact hK2) ?_
  refine c_f (by simp) ?_
  refine S.ldB (b := b3) ?_ rfl
  refine S.ldB (b := b7) ?_ rfl
  refine c_region_Place S.holds hu0.up (hto.up (s := r.or sto)) fun v8 s8 w8 e8 n8 h8 c8 => ?_
  obtain ⟨S, d8, a8⟩ := S.tell e8 n8
  rcases rg_place hM hH hi1 hgi hspo with ⟨_, hR⟩ | ⟨hct, x, hR, hxB, hxb⟩
  · rw [hR] at h8 ⊢
    obtain ⟨p8, cap8, rfl, _⟩ := id h8
    (repeat (first | refine s_p ?_ | refine s_c (by omega) ?_))
    refine S.al fun b10 w9 S => ?_
    refine S.stB (b := b10) fun w10 S => ?_
    ((with_reducible refine p_id ?_);first|refine s_p ?_|refine s_c (by omega) ?_)
    refine c_t (by decide) ?_
    ((with_reducible refine p_id ?_);first|refine s_p ?_|refine s_c (by omega) ?_)
    refine j_bandE (c := true) (fun _ K2 hK2 => c_law13_awake fun w8 e8 => hK2 _ e8) fun w8 e8 => ?_
    have := h _ (S.go e8).ext
    simpa using this
  rw [hR] at h8 ⊢
  obtain ⟨p8, cap8, rfl, _⟩ := id h8
  dsimp only at h8 ⊢
  (repeat (first | refine s_p ?_ | refine s_c (by omega) ?_))
  refine S.al fun b10 w9 S => ?_
  refine S.stB (b := b10) fun w10 S => ?_
  ((with_reducible refine p_id ?_);first|refine s_p ?_|refine s_c (by omega) ?_)
  refine c_f (by decide) ?_
  have hE : eraseT x = (bare x, 0) := by rw [eraseT, hxB]; rfl
  refine S.ldB (b := b10) ?_ rfl
  refine c_region_Erase S.holds h8.up fun v11 s11 w11 e11 n11 h11 _ => ?_
  obtain ⟨S, d11, a11⟩ := S.tell e11 n11
  rw [hE] at h11 ⊢
  obtain ⟨p11, cap11, rfl, _⟩ := id h11
  (repeat (first | refine s_p ?_ | refine s_c (by omega) ?_))
  refine S.al fun b11 w12 S => ?_
  refine S.stB (b := b11) fun w13 S => ?_
  refine S.ldB (b := b3) ?_ rfl
  refine S.ldB (b := b7) ?_ rfl
  refine c_graph_Type S.holds hu0.up (hto.up (s := (((r.or sto).or s8).or s11))) fun v13 s13 w14 e13 n13 h13 => ?_
  obtain ⟨S, d13, a13⟩ := S.tell e13 n13
  rw [hGT] at h13 ⊢
  obtain ⟨p13, cap13, rfl, _⟩ := id h13
  (repeat (first | refine s_p ?_ | refine s_c (by omega) ?_))
  refine S.al fun b13 w15 S => ?_
  refine S.stB (b := b13) fun w16 S => ?_
  ((with_reducible refine p_id ?_);first|refine s_p ?_|refine s_c (by omega) ?_)
  refine j_borH (c := false) (fun _ K2 hK2 => by (repeat (first|((with_reducible refine p_id ?_);first|refine s_p ?_|refine s_c (by omega) ?_)|((with_reducible refine q_id ?_);first|refine S.ld ?_|refine S.ldB ?_|refine S.ce ?_|refine S.ceB ?_|refine s_q ?_|refine s_qc (by omega) ?_)|with_reducible refine n_some ?_|rw [List.getD_cons_zero]|rw [List.getD_cons_succ])); exact hK2) ?_
  refine j_borE (c := false) (fun _ K2 hK2 => ?_) fun w17 e17 => ?_
  · refine S.ldB (b := b10) ?_ rfl
    refine S.ldB (b := b13) ?_ rfl
    refine c_types_Alike S.holds h8.up h13.up fun w18 e18 => ?_
    rw [(alikeT_iff hxB hspB).2 hxb]
    ((with_reducible refine p_id ?_);first|refine s_p ?_|refine s_c (by omega) ?_)
    exact hK2 _ e18
  have S := S.go e17
  refine j_borE (c := false) (fun _ K2 hK2 => ?_) fun w18 e18 => ?_
  · refine S.ldB (b := b11) ?_ rfl
    refine S.ldB (b := b10) ?_ rfl
    refine c_types_Alike S.holds h11.up h8.up fun w18 e18 => ?_
    rw [(alikeT_iff (look_map 48 hxB) hxB).2 (bare_bare 48 hxB)]
    ((with_reducible refine p_id ?_);first|refine s_p ?_|refine s_c (by omega) ?_)
    exact hK2 _ e18
  have S := S.go e18
  refine c_f (by simp) ?_
  refine S.ldB (b := b3) ?_ rfl
  refine c_region_Borrowed S.holds hu0.up fun v15 s15 w19 e15 n15 h15 => ?_
  obtain ⟨S, d15, a15⟩ := S.tell e15 n15
  have hbor := bor_alike hM hH h0 hpn hgi hpg hxB hxb
  generalize borT u n q = B at h15 hbor ⊢
  obtain ⟨tB, eB⟩ := B
  dsimp only at h15 hbor ⊢
  obtain ⟨p15, cap15, rfl, _⟩ := id h15
  (repeat (first | refine s_p ?_ | refine s_c (by omega) ?_))
  refine S.al fun b15 w20 S => ?_
  refine S.stB (b := b15) fun w21 S => ?_
  ((with_reducible refine p_id ?_);first|refine s_p ?_|refine s_c (by omega) ?_)
  refine j_bandE (c := false) (fun hb K2 hK2 => ?_) fun w22 e22 => ?_
  · refine S.ldB (b := b15) ?_ rfl
    refine S.ldB (b := b10) ?_ rfl
    refine c_types_Alike S.holds h15.up h8.up fun w18 e18 => ?_
    rw [hbor (by simpa using hb)]
    ((with_reducible refine p_id ?_);first|refine s_p ?_|refine s_c (by omega) ?_)
    exact hK2 _ e18
  have S := S.go e22
  refine c_f (by simp) ?_
  refine S.ldB (b := b3) ?_ rfl
  refine c_region_Called S.holds hu0.up fun vl v17 s17 w23 e17 n17 hsl17 h17 => ?_
  obtain ⟨S, d17, a17⟩ := S.tell e17 n17
  have hcal := cal_alike hM hH h0 hpn hgi hpg hxB hxb
  generalize calT u n q = C at hsl17 h17 hcal ⊢
  obtain ⟨ps, tC, eC⟩ := C
  dsimp only at hsl17 h17 hcal ⊢
  obtain ⟨p17, cap17, rfl, _⟩ := id h17
  obtain ⟨pl, capl, rfl, _, _⟩ := hsl17.shape
  (repeat (first | refine s_p ?_ | refine s_c (by omega) ?_))
  refine S.al fun b17 w24 S => ?_
  refine S.stB (b := b17) fun w25 S => ?_
  ((with_reducible refine p_id ?_);first|refine s_p ?_|refine s_c (by omega) ?_)
  refine c_if (fun _ => c_law13_awake fun w26 e26 => h _ (S.go e26).ext) (fun heC => ?_)
  obtain ⟨hopp, hlen, hans, hats⟩ := hcal (by omega)
  have hG : gopE u n q = (p.args, 0) := by rw [gopE, if_neg (by omega), hpn]; dsimp only; rw [hopp]
  have harg := args_few hM hpg
  refine S.ldB (b := b3) ?_ rfl
  refine c_graph_Operands S.holds hu0.up fun vo sO w27 e27 n27 hO => ?_
  obtain ⟨S, d27, a27⟩ := S.tell e27 n27
  rw [hG] at hO ⊢
  dsimp only at hO ⊢
  obtain ⟨po, capo, rfl, _, _⟩ := hO.shape
  (repeat (first | refine s_p ?_ | refine s_c (by omega) ?_))
  refine j_borH (c := false) (fun _ K2 hK2 => by (repeat (first|((with_reducible refine p_id ?_);first|refine s_p ?_|refine s_c (by omega) ?_)|((with_reducible refine q_id ?_);first|refine S.ld ?_|refine S.ldB ?_|refine S.ce ?_|refine S.ceB ?_|refine s_q ?_|refine s_qc (by omega) ?_)|with_reducible refine n_some ?_|rw [List.getD_cons_zero]|rw [List.getD_cons_succ])); rw [hlen]; simpa using hK2) ?_
  refine j_borE (c := false) (fun _ K2 hK2 => ?_) fun w28 e28 => ?_
  · refine S.ldB (b := b17) ?_ rfl
    refine S.ldB (b := b10) ?_ rfl
    refine c_types_Alike S.holds h17.up h8.up fun w18 e18 => ?_
    rw [hans]
    ((with_reducible refine p_id ?_);first|refine s_p ?_|refine s_c (by omega) ?_)
    exact hK2 _ e18
  have S := S.go e28
  refine c_f (by simp) ?_
  have S := ((((((S.drop b17).drop b15).drop b13).drop b11).drop b10).drop b7).to ((r.or s17).or sO)
  refine l_intro (ι := Nat) (fun i => [.int .i64 (i : Nat)]) (fun i w' => i ≤ p.args.length ∧ StX noX w ((r.or s17).or sO) w' [.cell b3 [.slice p0 u.ss.length cap0, .slice qf u.fs.length capf, .int .i64 u.mn] 43]) (fun i => p.args.length - i) 0 rfl ⟨Nat.zero_le _, S⟩ ?_
  clear S
  rintro i d w29 ⟨hi, S⟩ K6 hK6
  rw [List.getD_cons_zero]
  (repeat (first|((with_reducible refine p_id ?_);first|refine s_p ?_|refine s_c (by omega) ?_)|((with_reducible refine q_id ?_);first|refine S.ld ?_|refine S.ldB ?_|refine S.ce ?_|refine S.ceB ?_|refine s_q ?_|refine s_qc (by omega) ?_)|with_reducible refine n_some ?_|rw [List.getD_cons_zero]|rw [List.getD_cons_succ]))
  refine c_if (fun hlt => ?_) (fun hge => ?_)
  rotate_left
  · exact c_law13_awake fun w30 e30 => h _ (S.go e30).ext
  have hlt : i < p.args.length := by omega
  obtain ⟨hoo, hpsB, hpsb⟩ := hats i hlt (by omega)
  obtain ⟨bo, oo, co, rfl, hco, hoc, hocell⟩ := hO.get (by decide) hlt
  obtain ⟨bt, ot, ct, rfl, hct3, htc, hto3⟩ := hsl17.get (by decide) (show i < ps.length by omega)
  obtain ⟨qt, ct4, rfl, htt⟩ := ty_form htc
  obtain ⟨vq, rfl, hlq⟩ := id hoc
  obtain ⟨qo, ko, rfl, _, _⟩ := hlq.sl.shape
  have lk : Ob sO fun w => w.cell? ⟨bo, oo + i * 4, none⟩ = some (.int .u8 p.args[i].k) := by simpa using hocell 0 _ rfl
  have hspot := oper_spot hoo
  generalize p.args[i] = o at hoo hpsb hoc hocell hlq lk hspot
  refine j_intro (fun _ w' => StX noX w ((r.or s17).or sO) w' [.cell b3 [.slice p0 u.ss.length cap0, .slice qf u.fs.length capf, .int .i64 u.mn] 43]) (fun K7 hK7 => ?_) ?_
  rotate_left
  · clear S
    rintro _ w30 S d30
    (repeat (first|((with_reducible refine p_id ?_);first|refine s_p ?_|refine s_c (by omega) ?_)|((with_reducible refine q_id ?_);first|refine S.ld ?_|refine S.ldB ?_|refine S.ce ?_|refine S.ceB ?_|refine s_q ?_|refine s_qc (by omega) ?_)|with_reducible refine n_some ?_|rw [List.getD_cons_zero]|rw [List.getD_cons_succ]))
    rw [show ((i : Int) + 1) = ((i + 1 : Nat) : Int) by omega]
    exact hK6 (i + 1) _ ⟨hlt, S⟩ (by omega)
  (repeat (first|((with_reducible refine p_id ?_);first|refine s_p ?_|refine s_c (by omega) ?_)|((with_reducible refine q_id ?_);first|refine S.ld ?_|refine S.ldB ?_|refine S.ce ?_|refine S.ceB ?_|refine s_q ?_|refine s_qc (by omega) ?_)|with_reducible refine n_some ?_|rw [List.getD_cons_zero]|rw [List.getD_cons_succ]))
  refine s_ld1 (by simpa using S.at lk) ?_
  (repeat (first|((with_reducible refine p_id ?_);first|refine s_p ?_|refine s_c (by omega) ?_)|((with_reducible refine q_id ?_);first|refine S.ld ?_|refine S.ldB ?_|refine S.ce ?_|refine S.ceB ?_|refine s_q ?_|refine s_qc (by omega) ?_)|with_reducible refine n_some ?_|rw [List.getD_cons_zero]|rw [List.getD_cons_succ]))
  refine j_bandH (c := decide (o.k ≠ 4)) (fun _ K2 hK2 => ?_) ?_
  · (repeat (first|((with_reducible refine p_id ?_);first|refine s_p ?_|refine s_c (by omega) ?_)|((with_reducible refine q_id ?_);first|refine S.ld ?_|refine S.ldB ?_|refine S.ce ?_|refine S.ceB ?_|refine s_q ?_|refine s_qc (by omega) ?_)|with_reducible refine n_some ?_|rw [List.getD_cons_zero]|rw [List.getD_cons_succ]))
    refine s_ld1 (by simpa using S.at lk) ?_
    (repeat (first|((with_reducible refine p_id ?_);first|refine s_p ?_|refine s_c (by omega) ?_)|((with_reducible refine q_id ?_);first|refine S.ld ?_|refine S.ldB ?_|refine S.ce ?_|refine S.ceB ?_|refine s_q ?_|refine s_qc (by omega) ?_)|with_reducible refine n_some ?_|rw [List.getD_cons_zero]|rw [List.getD_cons_succ]))
    exact hK2
  refine c_b (fun hb => hK7 [] _ S) (fun hb => ?_)
  have hk : o.k = 3 ∨ o.k = 4 := by
    simp only [Bool.and_eq_false_iff, decide_eq_false_iff_not, Decidable.not_not] at hb
    exact hb
  obtain ⟨hsp, hspe⟩ := hspot hk
  rw [hspe] at hpsb
  rcases rg_place hM hH hi1 hgi hsp with ⟨hbad, _⟩ | ⟨_, y, hRy, hyB, hyb⟩
  · omega
  refine j_intro (fun s w' => ∃ b20 py cy sy, s = [.pointer (some ⟨b20, 0, none⟩), .int .i64 0] ∧ StX noX w (((r.or s17).or sO).or sy) w' [.cell b20 (tyL y py cy) 25, .cell b3 [.slice p0 u.ss.length cap0, .slice qf u.fs.length capf, .int .i64 u.mn] 43] ∧ TyG sy (tyV y py cy) y) (fun K8 hK8 => ?_) ?_
  · have S := S.go (Ext.drew _)
    have pl : ∀ {w9 : World} {M : List Asr} {K9 : Value → World → Prop}, StX noX w ((r.or s17).or sO) w9 M → (∀ py cy sy w', StX noX w (((r.or s17).or sO).or sy) w' M → TyG sy (tyV y py cy) y → K9 (.tuple #[tyV y py cy, .int .i64 0]) w') →
        oCall Try.prog Try.n_region_Place #[.agg #[.slice p0 u.ss.length cap0, .slice qf u.fs.length capf, .int .i64 u.mn], .int .i64 n, .agg #[.int .i64 o.pl.l, .slice qo o.pl.ps.length ko]] w9 K9 := by
      intro w9 M K9 S hk
      refine c_region_Place (p := o.pl) S.holds hu0.up (PlG.up (r := sO) (s := (r.or s17).or sO) ⟨_, rfl, hlq⟩) fun vx sx w' e' n' hx hcx => ?_
      rw [hRy] at hx ⊢
      obtain ⟨S, d, a⟩ := S.tell e' n'
      obtain ⟨px, cx, rfl, _⟩ := id hx
      exact hk px cx sx w' S hx
    refine S.ldB (b := b3) ?_ rfl
    (repeat (first|((with_reducible refine p_id ?_);first|refine s_p ?_|refine s_c (by omega) ?_)|((with_reducible refine q_id ?_);first|refine S.ld ?_|refine S.ldB ?_|refine S.ce ?_|refine S.ceB ?_|refine s_q ?_|refine s_qc (by omega) ?_)|with_reducible refine n_some ?_|rw [List.getD_cons_zero]|rw [List.getD_cons_succ]))
    refine s_ldN (n := 2) (show ([.int .i64 o.pl.l, .slice qo o.pl.ps.length ko] : List Value).length = 2 from rfl) (fun j v hj => ?_) ?_
    · have := S.at (hocell (2 + j) v (by rw [Nat.add_comm]; exact hj))
      simpa [Nat.add_assoc] using this
    refine And.intro ?_ ?_
    · refine pl S fun py cy sy w9 S hy => ?_
      (repeat (first | refine s_p ?_ | refine s_c (by omega) ?_))
      refine S.alU fun b20 w10 S => ?_
      refine S.stB (b := b20) fun w11 S => ?_
      exact hK8 _ _ ⟨b20, py, cy, sy, rfl, S, hy⟩
    · refine S.alU fun b20 w10 S => ?_
      refine pl S fun py cy sy w9 S hy => ?_
      (repeat (first | refine s_p ?_ | refine s_c (by omega) ?_))
      refine S.stB (b := b20) fun w11 S => ?_
      exact hK8 _ _ ⟨b20, py, cy, sy, rfl, S, hy⟩
  clear S
  rintro _ w31 ⟨b20, py, cy, sy, rfl, S, hy⟩ d31
  simp only [List.getD_cons_zero, List.getD_cons_succ]
  ((with_reducible refine p_id ?_);first|refine s_p ?_|refine s_c (by omega) ?_)
  have S := S.go (Ext.drew _)
  refine j_borE (c := false) (fun _ K2 hK2 => ?_) fun w32 e32 => ?_
  · refine S.ldB (b := b20) ?_ rfl
    (repeat (first|((with_reducible refine p_id ?_);first|refine s_p ?_|refine s_c (by omega) ?_)|((with_reducible refine q_id ?_);first|refine S.ld ?_|refine S.ldB ?_|refine S.ce ?_|refine S.ceB ?_|refine s_q ?_|refine s_qc (by omega) ?_)|with_reducible refine n_some ?_|rw [List.getD_cons_zero]|rw [List.getD_cons_succ]))
    refine s_ldN (n := 5) hct3 (fun j v hj => by rw [Int.toNat_natCast]; exact S.at (hto3 j v hj)) ?_
    refine c_types_Alike S.holds hy.up htt.up fun w18 e18 => ?_
    rw [(alikeT_iff hyB hpsB).2 (by rw [hyb, hpsb])]
    ((with_reducible refine p_id ?_);first|refine s_p ?_|refine s_c (by omega) ?_)
    exact hK2 _ e18
  have S := S.go e32
  refine c_f (by simp) ?_
  exact hK7 [] _ ((S.drop b20).to _)
end Go.Proofs
end

section
namespace Go.Proofs.Ytngfnikkdhbajaa.openG

open Go.Sh Go.ChangeShapes Go.WideShapes Go.ChangeAt Go.RowKit

set_option maxRecDepth 100000

set_option linter.unusedSimpArgs false

set_option linter.unusedVariables false

theorem own : ownKnob Try.prog.godebug = none := by kernel_rfl
theorem laidOut : laidOutB Try.prog = true := by kernel_rfl
theorem rowed : mapsRowed Try.prog = true := by kernel_rfl
theorem full : ((List.range Try.prog.types.size).all fun t => match Try.prog.underlying t with | some (.slice e) => decide (0 < Try.prog.cellsOf e) | _ => true) = true := by kernel_rfl
theorem uInt : Try.prog.underlying 3 = some (.int .i64) := by kernel_rfl
theorem uI64 : Try.prog.underlying 2 = some (.int .i64) := by kernel_rfl
theorem uStp : Try.prog.underlying 107 = some (.int .i64) := by kernel_rfl
theorem uBool : Try.prog.underlying 4 = some .bool := by kernel_rfl
theorem uStr : Try.prog.underlying 9 = some .string := by kernel_rfl
theorem uTk : Try.prog.underlying 22 = some (.int .u8) := by kernel_rfl
theorem uOk : Try.prog.underlying 59 = some (.int .u8) := by kernel_rfl
theorem uPo : Try.prog.underlying 55 = some (.int .u8) := by kernel_rfl
theorem sTy : Try.prog.underlying 23 = some (.slice 25) ∧ Try.prog.cellsOf 25 = 5 := ⟨by kernel_rfl, by kernel_rfl⟩
theorem sFd : Try.prog.underlying 82 = some (.slice 122) ∧ Try.prog.cellsOf 122 = 6 := ⟨by kernel_rfl, by kernel_rfl⟩
theorem sSt : Try.prog.underlying 40 = some (.slice 84) ∧ Try.prog.cellsOf 84 = 2 := ⟨by kernel_rfl, by kernel_rfl⟩
theorem sGr : Try.prog.underlying 41 = some (.slice 53) ∧ Try.prog.cellsOf 53 = 7 := ⟨by kernel_rfl, by kernel_rfl⟩
theorem sOu : Try.prog.underlying 49 = some (.slice 157) ∧ Try.prog.cellsOf 157 = 2 := ⟨by kernel_rfl, by kernel_rfl⟩
theorem sSs : Try.prog.underlying 50 = some (.slice 9) ∧ Try.prog.cellsOf 9 = 1 := ⟨by kernel_rfl, by kernel_rfl⟩
theorem sPt : Try.prog.underlying 51 = some (.slice 64) ∧ Try.prog.cellsOf 64 = 21 := ⟨by kernel_rfl, by kernel_rfl⟩
theorem sOp : Try.prog.underlying 62 = some (.slice 61) ∧ Try.prog.cellsOf 61 = 4 := ⟨by kernel_rfl, by kernel_rfl⟩
theorem sSp : Try.prog.underlying 56 = some (.slice 107) ∧ Try.prog.cellsOf 107 = 1 := ⟨by kernel_rfl, by kernel_rfl⟩
theorem aTy : ∃ fs, Try.prog.underlying 25 = some (.struct fs) ∧ fs.toList.map (·.type) = [22, 4, 3, 3, 23] := struct_of (by kernel_rfl)
theorem aFd : ∃ fs, Try.prog.underlying 122 = some (.struct fs) ∧ fs.toList.map (·.type) = [9, 25] := struct_of (by kernel_rfl)
theorem aSt : ∃ fs, Try.prog.underlying 84 = some (.struct fs) ∧ fs.toList.map (·.type) = [9, 82] := struct_of (by kernel_rfl)
theorem aPl : ∃ fs, Try.prog.underlying 58 = some (.struct fs) ∧ fs.toList.map (·.type) = [3, 56] := struct_of (by kernel_rfl)
theorem aOp : ∃ fs, Try.prog.underlying 61 = some (.struct fs) ∧ fs.toList.map (·.type) = [59, 2, 58] := struct_of (by kernel_rfl)
theorem aPt : ∃ fs, Try.prog.underlying 64 = some (.struct fs) ∧ fs.toList.map (·.type) = [55, 58, 61, 61, 62, 9, 58, 4, 3, 3, 3, 3, 3] := struct_of (by kernel_rfl)
theorem aOu : ∃ fs, Try.prog.underlying 157 = some (.struct fs) ∧ fs.toList.map (·.type) = [3, 3] := struct_of (by kernel_rfl)
theorem aGr : ∃ fs, Try.prog.underlying 53 = some (.struct fs) ∧ fs.toList.map (·.type) = [9, 3, 49, 3, 23, 50, 51] := struct_of (by kernel_rfl)
theorem aUn : ∃ fs, Try.prog.underlying 43 = some (.struct fs) ∧ fs.toList.map (·.type) = [40, 41, 3] := struct_of (by kernel_rfl)
theorem plainUn : plainS Try.prog [43, 40, 84, 82, 122, 9, 25, 22, 4, 3, 23, 41, 53, 49, 157, 50, 51, 64, 55,
  58, 56, 107, 61, 59, 2, 62] = true := by kernel_rfl
theorem sl_of {α : Type} {f : α → Dat} {G : α → Prop} {d : Dat} {T e : TypeId} {n : Nat} (u : Try.prog.underlying T = some (.slice e) ∧ Try.prog.cellsOf e = n) (h : d.ok Try.prog T) (hf : ∀ x : Dat, SizeOf.sizeOf x < SizeOf.sizeOf d → x.ok Try.prog e → ∃ t, x = f t ∧ G t) :
    ∃ l : List α, d = .sl n (l.map f) ∧ l.length ≤ maxLen ∧ ∀ t ∈ l, G t := by
  obtain ⟨es, rfl, hl, hk⟩ := dat_sl u.1 h
  obtain ⟨l, rfl, hg⟩ := list_map (f := f) (G := G) es fun x hx => hf x (by
    have := List.sizeOf_lt_of_mem hx
    simp only [Dat.sl.sizeOf_spec]; omega) (hk x hx)
  exact ⟨l, by rw [u.2], by simpa using hl, hg⟩
theorem ty_of : ∀ (n : Nat) (d : Dat), SizeOf.sizeOf d ≤ n → d.ok Try.prog 25 → ∃ t : TyD, d = t.dat := by
  intro n
  induction n with
  | zero => intro d h _; cases d <;> simp at h
  | succ n ih =>
    intro d hs h
    obtain ⟨ds, rfl, e0⟩ := dat_agg aTy h
    obtain ⟨d0, ds, rfl, h0, e1⟩ := okF_cons e0
    obtain ⟨d1, ds, rfl, h1, e2⟩ := okF_cons e1
    obtain ⟨d2, ds, rfl, h2, e3⟩ := okF_cons e2
    obtain ⟨d3, ds, rfl, h3, e4⟩ := okF_cons e3
    obtain ⟨d4, ds, rfl, h4, e5⟩ := okF_cons e4
    obtain rfl := okF_nil e5
    obtain ⟨k, rfl, _⟩ := dat_int uTk h0
    obtain ⟨m, rfl⟩ := dat_bool uBool h1
    obtain ⟨re, rfl, _⟩ := dat_int uInt h2
    obtain ⟨st, rfl, _⟩ := dat_int uInt h3
    obtain ⟨l, rfl, _, _⟩ := sl_of (f := TyD.dat) (G := fun _ => True) sTy h4 fun x hx hk => by
      obtain ⟨t, ht⟩ := ih x (by
        simp only [Dat.agg.sizeOf_spec, List.cons.sizeOf_spec] at hs
        omega) hk
      exact ⟨t, ht, trivial⟩
    exact ⟨.mk k m re st l, by rw [TyD.dat, TyD.dats_map]⟩
theorem ty_of' {d : Dat} (h : d.ok Try.prog 25) : ∃ t : TyD, d = t.dat ∧ True := by
  obtain ⟨t, ht⟩ := ty_of _ d (Nat.le_refl _) h
  exact ⟨t, ht, trivial⟩
theorem str_of {d : Dat} (h : d.ok Try.prog 9) : ∃ s : ByteArray, d = .str s ∧ True := by
  obtain ⟨s, hs, _⟩ := dat_str uStr h
  exact ⟨s, hs, trivial⟩
theorem in64_of {n : Int} (h : (Lit.int .i64 n).wf = true) : in64 n := by have := wf_i64 h; exact ⟨this.1, by omega⟩
theorem stp_of {d : Dat} (h : d.ok Try.prog 107) : ∃ n : Int, d = Dat.int .i64 n ∧ in64 n := by
  obtain ⟨n, hn, hw⟩ := dat_int uStp h
  exact ⟨n, hn, in64_of hw⟩
theorem fd_of {d : Dat} (h : d.ok Try.prog 122) : ∃ f : ByteArray × TyD, d = fdat f ∧ True := by
  obtain ⟨ds, rfl, e0⟩ := dat_agg aFd h
  obtain ⟨d0, ds, rfl, h0, e1⟩ := okF_cons e0
  obtain ⟨d1, ds, rfl, h1, e2⟩ := okF_cons e1
  obtain rfl := okF_nil e2
  obtain ⟨s, rfl, _⟩ := str_of h0
  obtain ⟨t, rfl, _⟩ := ty_of' h1
  exact ⟨(s, t), rfl, trivial⟩
theorem st_of {d : Dat} (h : d.ok Try.prog 84) : ∃ s : StD, d = s.dat ∧ True := by
  obtain ⟨ds, rfl, e0⟩ := dat_agg aSt h
  obtain ⟨d0, ds, rfl, h0, e1⟩ := okF_cons e0
  obtain ⟨d1, ds, rfl, h1, e2⟩ := okF_cons e1
  obtain rfl := okF_nil e2
  obtain ⟨s, rfl, _⟩ := str_of h0
  obtain ⟨l, rfl, _, _⟩ := sl_of (f := fdat) (G := fun _ => True) sFd h1 fun x _ hk => fd_of hk
  exact ⟨⟨s, l⟩, rfl, trivial⟩
theorem pl_of {d : Dat} (h : d.ok Try.prog 58) : ∃ p : PlD, d = p.dat ∧ p.ok := by
  obtain ⟨ds, rfl, e0⟩ := dat_agg aPl h
  obtain ⟨d0, ds, rfl, h0, e1⟩ := okF_cons e0
  obtain ⟨d1, ds, rfl, h1, e2⟩ := okF_cons e1
  obtain rfl := okF_nil e2
  obtain ⟨n, rfl, _⟩ := dat_int uInt h0
  obtain ⟨l, rfl, hl, hg⟩ := sl_of (f := Dat.int .i64) (G := in64) sSp h1 fun x _ hk => stp_of hk
  exact ⟨⟨n, l⟩, rfl, hl, hg⟩
theorem op_of {d : Dat} (h : d.ok Try.prog 61) : ∃ o : OpD, d = o.dat ∧ o.ok := by
  obtain ⟨ds, rfl, e0⟩ := dat_agg aOp h
  obtain ⟨d0, ds, rfl, h0, e1⟩ := okF_cons e0
  obtain ⟨d1, ds, rfl, h1, e2⟩ := okF_cons e1
  obtain ⟨d2, ds, rfl, h2, e3⟩ := okF_cons e2
  obtain rfl := okF_nil e3
  obtain ⟨k, rfl, _⟩ := dat_int uOk h0
  obtain ⟨n, rfl, _⟩ := dat_int uI64 h1
  obtain ⟨p, rfl, hp⟩ := pl_of h2
  exact ⟨⟨k, n, p⟩, rfl, hp⟩
theorem pt_of {d : Dat} (h : d.ok Try.prog 64) : ∃ p : PtD, d = p.dat ∧ p.ok := by
  obtain ⟨ds, rfl, e0⟩ := dat_agg aPt h
  obtain ⟨d0, ds, rfl, h0, e1⟩ := okF_cons e0
  obtain ⟨d1, ds, rfl, h1, e2⟩ := okF_cons e1
  obtain ⟨d2, ds, rfl, h2, e3⟩ := okF_cons e2
  obtain ⟨d3, ds, rfl, h3, e4⟩ := okF_cons e3
  obtain ⟨d4, ds, rfl, h4, e5⟩ := okF_cons e4
  obtain ⟨d5, ds, rfl, h5, e6⟩ := okF_cons e5
  obtain ⟨d6, ds, rfl, h6, e7⟩ := okF_cons e6
  obtain ⟨d7, ds, rfl, h7, e8⟩ := okF_cons e7
  obtain ⟨d8, ds, rfl, h8, e9⟩ := okF_cons e8
  obtain ⟨d9, ds, rfl, h9, e10⟩ := okF_cons e9
  obtain ⟨d10, ds, rfl, h10, e11⟩ := okF_cons e10
  obtain ⟨d11, ds, rfl, h11, e12⟩ := okF_cons e11
  obtain ⟨d12, ds, rfl, h12, e13⟩ := okF_cons e12
  obtain rfl := okF_nil e13
  obtain ⟨op, rfl, _⟩ := dat_int uPo h0
  obtain ⟨to, rfl, g1⟩ := pl_of h1
  obtain ⟨a, rfl, g2⟩ := op_of h2
  obtain ⟨b, rfl, g3⟩ := op_of h3
  obtain ⟨l, rfl, hl, g4⟩ := sl_of (f := OpD.dat) (G := OpD.ok) sOp h4 fun x _ hk => op_of hk
  obtain ⟨s, rfl, _⟩ := str_of h5
  obtain ⟨fr, rfl, g6⟩ := pl_of h6
  obtain ⟨mu, rfl⟩ := dat_bool uBool h7
  obtain ⟨fn, rfl, _⟩ := dat_int uInt h8
  obtain ⟨st, rfl, _⟩ := dat_int uInt h9
  obtain ⟨nx, rfl, _⟩ := dat_int uInt h10
  obtain ⟨el, rfl, _⟩ := dat_int uInt h11
  obtain ⟨tx, rfl, _⟩ := dat_int uInt h12
  exact ⟨⟨op, to, a, b, l, s, fr, mu, fn, st, nx, el, tx⟩, rfl, g1, g2, g3, ⟨hl, g4⟩, g6⟩
theorem ou_of {d : Dat} (h : d.ok Try.prog 157) : ∃ x : Int × Int, d = twoD x ∧ True := by
  obtain ⟨ds, rfl, e0⟩ := dat_agg aOu h
  obtain ⟨d0, ds, rfl, h0, e1⟩ := okF_cons e0
  obtain ⟨d1, ds, rfl, h1, e2⟩ := okF_cons e1
  obtain rfl := okF_nil e2
  obtain ⟨a, rfl, _⟩ := dat_int uInt h0
  obtain ⟨b, rfl, _⟩ := dat_int uInt h1
  exact ⟨(a, b), rfl, trivial⟩
theorem gr_of {d : Dat} (h : d.ok Try.prog 53) : ∃ g : GrD, d = g.dat ∧ g.ok := by
  obtain ⟨ds, rfl, e0⟩ := dat_agg aGr h
  obtain ⟨d0, ds, rfl, h0, e1⟩ := okF_cons e0
  obtain ⟨d1, ds, rfl, h1, e2⟩ := okF_cons e1
  obtain ⟨d2, ds, rfl, h2, e3⟩ := okF_cons e2
  obtain ⟨d3, ds, rfl, h3, e4⟩ := okF_cons e3
  obtain ⟨d4, ds, rfl, h4, e5⟩ := okF_cons e4
  obtain ⟨d5, ds, rfl, h5, e6⟩ := okF_cons e5
  obtain ⟨d6, ds, rfl, h6, e7⟩ := okF_cons e6
  obtain rfl := okF_nil e7
  obtain ⟨s, rfl, _⟩ := str_of h0
  obtain ⟨lv, rfl, _⟩ := dat_int uInt h1
  obtain ⟨lo, rfl, g2, _⟩ := sl_of (f := twoD) (G := fun _ => True) sOu h2 fun x _ hk => ou_of hk
  obtain ⟨pn, rfl, _⟩ := dat_int uInt h3
  obtain ⟨lt, rfl, g4, _⟩ := sl_of (f := TyD.dat) (G := fun _ => True) sTy h4 fun x _ hk => ty_of' hk
  obtain ⟨ln, rfl, g5, _⟩ := sl_of (f := Dat.str) (G := fun _ => True) sSs h5 fun x _ hk => str_of hk
  obtain ⟨lp, rfl, g6, hp⟩ := sl_of (f := PtD.dat) (G := PtD.ok) sPt h6 fun x _ hk => pt_of hk
  exact ⟨⟨s, lv, lo, pn, lt, ln, lp⟩, rfl, g2, g4, g5, g6, hp⟩
theorem un_of {d : Dat} (h : d.ok Try.prog 43) : ∃ u : UnD, d = u.dat ∧ u.ok := by
  obtain ⟨ds, rfl, e0⟩ := dat_agg aUn h
  obtain ⟨d0, ds, rfl, h0, e1⟩ := okF_cons e0
  obtain ⟨d1, ds, rfl, h1, e2⟩ := okF_cons e1
  obtain ⟨d2, ds, rfl, h2, e3⟩ := okF_cons e2
  obtain rfl := okF_nil e3
  obtain ⟨ss, rfl, g0, _⟩ := sl_of (f := StD.dat) (G := fun _ => True) sSt h0 fun x _ hk => st_of hk
  obtain ⟨fs, rfl, g1, hg⟩ := sl_of (f := GrD.dat) (G := GrD.ok) sGr h1 fun x _ hk => gr_of hk
  obtain ⟨mn, rfl, _⟩ := dat_int uInt h2
  exact ⟨⟨ss, fs, mn⟩, rfl, g0, g1, hg⟩
section

variable {H : Type} {enc : TypeId × Value → H} {W : World} {base : Nat} {v : Value} {d : DataW H} {p : List MemPlace}

theorem un_open (hv : Value.okWide Try.prog W .any base 43 v) (h : DataW.Trod enc Try.prog W 0 (fun _ => true) true 43 v d p) : ∃ u : UnD, UnG (all W) v u := by
  obtain ⟨fs, hu, _⟩ := aUn
  obtain ⟨cs, rfl, hsz⟩ := okWide_struct hu hv
  obtain ⟨fuel, hf⟩ := h
  obtain ⟨d, hr, hd⟩ := rep_of_trod plainUn fuel 43 _ _ (by simp) hf
  obtain ⟨u, rfl, hk⟩ := un_of hd
  exact ⟨u, by simpa [Value.cells] using un_of_rep hr hk⟩
theorem int_open (hv : Value.okWide Try.prog W .any base 3 v) (h : DataW.Trod enc Try.prog W 0 (fun _ => true) true 3 v d p) : ∃ n : Int, v = .int .i64 n ∧ -9223372036854775808 ≤ n ∧ n ≤ 9223372036854775807 := by
  obtain ⟨n, rfl, _, _, hw⟩ := open_int uInt hv h
  exact ⟨n, rfl, wf_i64 hw⟩
end

/-- a world for the witnesses: the settled one -/
noncomputable def laidWorld (os : Os) : World := World.holding Try.prog os ⟨#[], #[], []⟩
end Go.Proofs.Ytngfnikkdhbajaa.openG
end

section
namespace Go.Proofs.Ytngfnikkdhbajaa.regionShapes

open Go.Sh Go.ChangeShapes Go.WideShapes Go.ChangeAt Go.RowKit openG

set_option maxRecDepth 100000

set_option linter.unusedVariables false

theorem contract (H : Type) (enc : TypeId × Value → H) (W : World) (base : Nat) (args : Array Value) (ds gs : List (DataW H)) (before : List MemPlace)
    (hval : ∀ (j : Nat) t v, Try.f5.params[j]? = some t → args[j]? = some v → Value.okWide Try.prog W .any base t v)
    (hW : DataW.Whole enc Try.prog Try.f5.params.toList Rows.regionShapesSpec.vars false W args.toList ds gs before) :
    Calls Try.prog 5 args W fun e W' => ∃ v, e = .returned v ∧ Rows.regionShapesSpec.post enc Try.prog Try.f5 false true false false W args v W' := by
  have hW' := hW
  obtain ⟨p, q, hA, hV, rfl, hfz, hnd⟩ := hW
  rw [show Try.f5.params.toList = [43, 3, 3] by kernel_rfl] at hA
  obtain ⟨v0, vs0, d0, ds0, p0, q100, hargs, rfl, rfl, h0, r0⟩ := trodAll_cons hA
  obtain ⟨v1, vs1, d1, ds1, p1, q101, rfl, rfl, rfl, h1, r1⟩ := trodAll_cons r0
  obtain ⟨v2, vs2, d2, ds2, p2, q102, rfl, rfl, rfl, h2, r2⟩ := trodAll_cons r1
  obtain ⟨rfl, rfl, rfl⟩ := trodAll_nil r2
  obtain rfl : args = #[v0, v1, v2] := by cases args; simp_all
  obtain ⟨rfl, rfl⟩ := trodVars_none hV
  obtain ⟨u0, hu0⟩ := un_open (hval 0 43 v0 (by kernel_rfl) rfl) h0
  obtain ⟨n1, rfl, hi1⟩ := int_open (hval 1 3 v1 (by kernel_rfl) rfl) h1
  obtain ⟨n2, rfl, hi2⟩ := int_open (hval 2 3 v2 (by kernel_rfl) rfl) h2
  refine Calls.mono (c_law13_RegionShapes (K := fun v W' => v = .bool true ∧ Ext W W') (all_holds W) hu0 fun w' e => ⟨rfl, e⟩) ?_
  rintro e W' ⟨v, he, rfl, hE⟩
  exact ⟨_, he, post_told laidOut rowed full (by rw [show Try.f5.params.toList = [43, 3, 3] by kernel_rfl]; decide) rfl (by kernel_rfl) uBool hW' rfl hE⟩
def wit : Array Value := #[.agg #[.slice none 0 0, .slice none 0 0, .int .i64 0], .int .i64 0, .int .i64 0]
theorem reads (os : Os) {H : Type} (enc : TypeId × Value → H) : ∃ ds places, DataW.whole enc Try.prog ((laidWorld os).forCall (fun _ _ => 0) ⟨#[], wit, []⟩).memory Try.f5.params.toList Rows.regionShapesSpec.vars false wit.toList 8 = some (ds, [], places) :=
  ⟨[.agg [.nil, .nil, .lit (.int .i64 0)], .lit (.int .i64 0), .lit (.int .i64 0)], [], by kernel_rfl⟩
theorem laid_met (os : Os) : laidMet Try.prog Rows.regionShapesRow.laid ((laidWorld os).forCall (fun _ _ => 0) ⟨#[], wit, []⟩).memory :=
  laidMet_of_run' 8 (by kernel_rfl) (by kernel_rfl)
theorem lifted (os : Os) (started : os.Started) (H : Type) (enc : TypeId × Value → H) (F : Stop.Interp) :
    ReturnsInHanded {} Try.checked os 5 .any ((OpenSpec.ofChange Rows.regionShapesSpec).preRow enc Try.prog Try.f5 Rows.regionShapesRow.domain false Rows.regionShapesRow.laid) (((OpenSpec.ofChange Rows.regionShapesSpec).at F).post enc Try.prog Try.f5 false true false false) := by
  obtain ⟨ds, places, hx⟩ := reads os enc
  refine returnsInHanded_of_row (C := Try.checked) (s := OpenSpec.ofChange Rows.regionShapesSpec) own started (by kernel_rfl) Try.func5
    (witness_row_at (enc := enc) (C := Try.checked) false (laidWorld os) wit rfl (by kernel_rfl) (by kernel_rfl) (by kernel_rfl)
      (OpenSpec.preRow_of_cond 8 hx (by kernel_rfl) (fun k hk => by cases hk) (by kernel_rfl) (laid_met os))) ?_
  intro W base args ds gs before hval hW _ _ _ hL _ _
  exact contract H enc W base args ds gs before hval hW
theorem said : Rows.RegionShapesSaid :=
  OpenClaim.holds_of_cond 5 Try.f5 rfl rfl rfl rfl rfl rfl rfl ⟨rfl, rfl, rfl, rfl, rfl⟩ rfl rfl rfl rfl rfl (by kernel_rfl) Try.func5 (by kernel_rfl)
    (of_decide_eq_true (by kernel_rfl)) (by unfold Func.isWrapper; first | (rw [if_pos (by decide +kernel)]; kernel_rfl) | (rw [if_neg (by decide +kernel)]; exact ⟨rfl, rfl⟩))
    (fun os started H enc _ F => by rw [OpenClaim.pre_eq_preRow]; exact lifted os started H enc F)
end Go.Proofs.Ytngfnikkdhbajaa.regionShapes
end
