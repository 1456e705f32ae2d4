/-
  Which programs may be: what it tells when one may.
  Contracts: heads of graphs; Check and May of graph.
  Contracts: the regions of a function, numbered.
  Contracts: all regions of a function; Of, Width.
  Contracts: Of, Width, Place, Borrowed, Called of region.
  Contracts: Borrowed, Called of region.
  Contracts: SameType of the reference, typeFits and spoil of law 13.
  Contracts: the example of law 13, and what is told of it.
  What is told of the example of law 13; awake.
  Contracts: fits of law 13; lists of numbers read in a memory that stays.
  What is cleared: the end of a slice of one's own.
  Contracts: a function, a point of a program; Assigns, Type, Operands of graph.
  Contracts: the operands of a point.
  Shapes: what regions say nothing of; the plain law of RegionShapes.
  Contracts: Operands of graph.
-/
import Derived.Test.YtngfnikkdhbajaaQVd
import Derived.Test.YtngfnikkdhbajaaQVc
import Derived.Test.YtngfnikkdhbajaaQVb
import GoSem.Builtin.Clear

section
namespace Go.Proofs

open Go.Sh

set_option linter.unusedVariables false

theorem headsG_none {u : UnD} : ∀ {l : List GrD} {i : Nat}, headsG u i l = none ↔ ∀ (j : Nat) (h : j < l.length), headG u (i + j) l[j] = true
  | [], i => ⟨fun _ j h => absurd h (Nat.not_lt_zero _), fun _ => rfl⟩
  | g :: l, i => by
    rw [headsG]
    constructor
    · intro h j hj
      split at h
      · rename_i hg
        cases j with
        | zero => exact hg
        | succ j =>
          have := (headsG_none (l := l) (i := i + 1)).1 h j (by simpa using hj)
          rw [List.getElem_cons_succ, show i + (j + 1) = i + 1 + j by omega]; exact this
      · cases h
    · intro h
      rw [if_pos (show headG u i g = true from h 0 (Nat.zero_lt_succ _))]
      refine (headsG_none (l := l) (i := i + 1)).2 fun j hj => ?_
      have := h (j + 1) (by simpa using hj)
      rwa [List.getElem_cons_succ, show i + (j + 1) = i + 1 + j by omega] at this
theorem badPt_none {u : UnD} {g : GrD} : ∀ {l : List PtD} {q : Nat}, badPt u g q l = none ↔ ∀ p ∈ l, pointG u g p = true
  | [], q => ⟨fun _ p h => (by cases h), fun _ => rfl⟩
  | x :: l, q => by
    rw [badPt]
    constructor
    · intro h p hp
      split at h
      · rename_i hx
        rcases List.mem_cons.1 hp with rfl | hp
        · exact hx
        · exact (badPt_none (l := l) (q := q + 1)).1 h p hp
      · cases h
    · intro h
      rw [if_pos (h x List.mem_cons_self)]
      exact (badPt_none (l := l) (q := q + 1)).2 fun p hp => h p (List.mem_cons_of_mem _ hp)
theorem badG_none {u : UnD} : ∀ {l : List GrD} {i : Nat}, badG u i l = none ↔ ∀ g ∈ l, ∀ p ∈ g.pts, pointG u g p = true
  | [], i => ⟨fun _ g h => (by cases h), fun _ => rfl⟩
  | x :: l, i => by
    rw [badG]
    constructor
    · intro h g hg
      split at h
      · cases h
      · rename_i hx
        rcases List.mem_cons.1 hg with rfl | hg
        · exact badPt_none.1 hx
        · exact (badG_none (l := l) (i := i + 1)).1 h g hg
    · intro h
      rw [badPt_none.2 (h x List.mem_cons_self)]
      exact (badG_none (l := l) (i := i + 1)).2 fun g hg => h g (List.mem_cons_of_mem _ hg)
/-- a program that may be -/
structure MayU (u : UnD) : Prop where
  ok : (structsT u.ss).2 = 0
  fs1 : 1 ≤ u.fs.length
  fs32 : u.fs.length ≤ 32
  mn0 : 0 ≤ u.mn
  mn1 : u.mn < u.fs.length
  head : ∀ (i : Nat) (h : i < u.fs.length), headG u i u.fs[i] = true
  pts : ∀ g ∈ u.fs, ∀ p ∈ g.pts, pointG u g p = true
theorem checkG_ok {u : UnD} (h : MayU u) : checkG u = (0, 0, 0) := by
  have h1 := h.fs1; have h2 := h.fs32; have h3 := h.mn0; have h4 := h.mn1
  unfold checkG
  rw [if_neg (by rw [h.ok, decide_eq_false (show ¬ u.fs.length < 1 by omega), decide_eq_false (show ¬ 32 < u.fs.length by omega), decide_eq_false (show ¬ u.mn < 0 by omega), decide_eq_false (show ¬ (u.fs.length : Int) ≤ u.mn by omega)]; decide),
    headsG_none.2 (fun j hj => by rw [Nat.zero_add]; exact h.head j hj)]
  dsimp only
  rw [badG_none.2 h.pts]
theorem checkG_no {u : UnD} (h : (checkG u).2.2 = 0) : MayU u := by
  unfold checkG at h
  split at h
  · cases h
  · rename_i h1
    split at h
    · cases h
    · rename_i h2
      split at h
      · cases h
      · rename_i h3
        simp only [Bool.or_eq_true, Bool.not_eq_true', decide_eq_false_iff_not, decide_eq_true_eq, not_or] at h1
        obtain ⟨⟨h4, h5, h6⟩, h7, h8⟩ := h1
        exact ⟨by omega, by omega, by omega, by omega, by omega, fun i hi => by have := headsG_none.1 h2 i hi; rwa [Nat.zero_add] at this, badG_none.1 h3⟩
theorem mayU_iff {u : UnD} : mayU u = true ↔ MayU u := by
  rw [mayU, decide_eq_true_eq]
  exact ⟨checkG_no, fun h => by rw [checkG_ok h]⟩
/-- what a head tells -/
structure HeadU (u : UnD) (fn : Nat) (g : GrD) : Prop where
  lv0 : 0 ≤ g.lv
  lv8 : g.lv ≤ 8
  pn0 : 0 ≤ g.pn
  pn8 : g.pn ≤ 8
  pn1 : g.pn < g.tys.length
  ty512 : g.tys.length ≤ 512
  nms : g.nms.length = g.tys.length
  tys : tysG u g 0 g.tys = true
  pt1 : 1 ≤ g.pts.length
  pt1024 : g.pts.length ≤ 1024
  outs : outsG g = true
  loans : loansG g.pts ≤ 256
  main : (fn : Int) = u.mn → g.lv = 0 ∧ g.pn = 0 ∧ (g.tys.headD zeroD).k = 1
theorem headU {u : UnD} {fn : Nat} {g : GrD} (h : headG u fn g = true) : HeadU u fn g := by
  simp only [headG, Bool.and_eq_true, Bool.or_eq_true, Bool.not_eq_true', decide_eq_true_eq, decide_eq_false_iff_not, isK] at h
  obtain ⟨⟨⟨⟨⟨⟨⟨h1, h2⟩, h3, h4⟩, h5, h6⟩, h7⟩, h8⟩, ⟨h9, h10⟩, h11⟩, h12, h13⟩ := h
  exact ⟨h1, h2, h3, h4, by omega, h6, h7, h8, h9, h10, h11, h12, fun e => by rcases h13 with h | ⟨⟨h, h'⟩, h2⟩
                                                                              · exact absurd e h
                                                                              · exact ⟨h, h', h2⟩⟩
theorem HeadU.fine {u : UnD} {fn : Nat} {g : GrD} (h : HeadU u fn g) (ok : (structsT u.ss).2 = 0) : FineU u.ss g.tys := by
  obtain ⟨h1, h2, h3, h4, _⟩ := structs_ok ok
  exact ⟨h1, h3, h4, fun t ht => (may_ok (tysG_all h.tys t ht)).2⟩
theorem MayU.hd {u : UnD} (h : MayU u) {i : Nat} (hi : i < u.fs.length) : HeadU u i u.fs[i] := headU (h.head i hi)
theorem MayU.mem {u : UnD} (h : MayU u) {g : GrD} (hg : g ∈ u.fs) : ∃ i, HeadU u i g := by
  obtain ⟨i, hi, rfl⟩ := List.getElem_of_mem hg
  exact ⟨i, h.hd hi⟩
theorem MayU.fine {u : UnD} (h : MayU u) {g : GrD} (hg : g ∈ u.fs) : FineU u.ss g.tys := by
  obtain ⟨i, hi⟩ := h.mem hg
  exact hi.fine h.ok
end Go.Proofs
end

section
namespace Go.Sh

/-- 'b1 and (b2 or (b3 and b4 and b5))' -/
theorem j_andora {w : World} {A2 : (List Value → World → Prop) → Prop} {A3 A4 A5 : (List Value → World → Prop) → World → Prop} {Z : Value → World → Prop} {b1 b2 b3 b4 b5 : Bool}
    (h2 : ∀ K : List Value → World → Prop, K [.bool b2] w → A2 K) (h3 : ∀ K : List Value → World → Prop, K [.bool b3] w → A3 K w) (h4 : ∀ K : List Value → World → Prop, K [.bool b4] w → A4 K w) (h5 : ∀ K : List Value → World → Prop, K [.bool b5] w → A5 K w)
    (hZ : Z (.bool (b1 && (b2 || ((b3 && b4) && b5)))) w) :
    sJoin (fun K => gIf (.bool b1) true (A2 K) (K [undef] w)) fun s64 _ w66 =>
      sJoin (fun K => gIf (s64.getD 0 undef) false (A3 K w66) (K [undef] w66)) fun s68 _ w70 =>
        sJoin (fun K => gIf (s68.getD 0 undef) true (A4 K w70) (K [undef] w70)) fun s72 _ w74 =>
          sJoin (fun K => gIf (s64.getD 0 undef) false (oPick (s68.getD 0 undef) (s72.getD 0 undef) (.bool false) fun t => K [t] w74) (K [undef] w74)) fun s76 _ w78 =>
            sJoin (fun K => gIf (s76.getD 0 undef) true (A5 K w78) (K [undef] w78)) fun s80 _ w82 =>
              sJoin (fun K => gIf (s64.getD 0 undef) false (oPick (s76.getD 0 undef) (s80.getD 0 undef) (.bool false) fun t => K [t] w82) (K [undef] w82)) fun s84 _ w86 =>
                sJoin (fun K => gIf (.bool b1) true (oPick (s64.getD 0 undef) (.bool true) (s84.getD 0 undef) fun t => K [t] w86) (K [undef] w86)) fun s88 _ w90 =>
                  oPick (.bool b1) (s88.getD 0 undef) (.bool false) fun t => Z t w90 := by
  cases b1 <;> cases b2 <;> cases b3 <;> cases b4 <;>
    (iterate 7 (intro K hK; first | refine hK _ _ fun _ => ?_ | refine h2 _ (hK _ _ fun _ => ?_) | refine h3 _ (hK _ _ fun _ => ?_) | refine h4 _ (hK _ _ fun _ => ?_) | refine h5 _ (hK _ _ fun _ => ?_) | refine ⟨_, rfl, hK _ _ fun _ => ?_⟩)) <;>
    exact ⟨_, rfl, by simpa using hZ⟩
end Go.Sh

namespace Go.Proofs

open Go.Sh

set_option maxRecDepth 100000

set_option linter.unusedSimpArgs false

set_option linter.unusedVariables false

theorem nat_ne_int {a b : Nat} : decide ((a : Int) ≠ (b : Int)) = decide (a ≠ b) := decide_eq_decide.2 (by omega)
theorem tyG_any {u : UnD} {g : GrD} {i : Nat} {t : TyD} : tyG u g i t = (mayB u.ss t && !((regsT t).any fun r => decide (r < (if (i : Int) ≤ g.pn then 0 else -1)) || decide (g.lv ≤ r))) := by
  rw [tyG, List.not_any_eq_all_not]
set_option maxHeartbeats 4000000 in
theorem c_graph_head {u : UnD} {i : Nat} {v : Value} {w : World} {r : Gh} {K : Value → World → Prop} (hi : i < u.fs.length) (hr : Holds r w) (hu : UnG r v u)
    (h : ∀ w', Ext w w' → K (.bool (headG u i u.fs[i])) w') : oCall Try.prog Try.n_graph_head #[v, .int .i64 i] w K := by
  obtain ⟨p0, cap0, vf, rfl, _, _, hst, hsl, hfn⟩ := hu
  obtain ⟨qf, capf, rfl, _, _⟩ := hfn.sl.shape
  obtain ⟨bf, of, cf, rfl, hcf, hgc, hfo⟩ := hfn.sl.get (by decide) hi
  refine Try.ok_graph_head ?_
  unfold Try.F_graph_head
  generalize hgi : u.fs[i] = g at h hgc
  obtain ⟨vo, vt, vn, vp, rfl, h1, h2, h3, h4⟩ := id hgc
  obtain ⟨qo, capo, rfl, _, _⟩ := h1.sl.shape
  obtain ⟨qt, capt, rfl, _, hct⟩ := h2.sl.shape
  obtain ⟨qn, capn, rfl, _, _⟩ := h3.sl.shape
  obtain ⟨qp, capp, rfl, _, _⟩ := h4.sl.shape
  have hptl : g.pts.length ≤ 9223372036854775807 := h4.few
  have htl : g.tys.length ≤ 9223372036854775807 := h2.few
  have S := St.start hr
  refine S.box fun b2 w1 S => ?_
  (repeat (first | refine s_p ?_ | refine s_c (by omega) ?_ | refine S.ld ?_ | refine S.ldB ?_ | refine S.ce ?_ | refine S.ceB ?_ | refine s_q ?_ | refine s_qc (by omega) ?_ | refine n_some ?_ | rw [List.getD_cons_zero] | rw [List.getD_cons_succ]))
  refine s_ldN (n := 7) hcf (fun j v hj => by rw [Int.toNat_natCast]; exact S.at (hfo j v hj)) ?_
  refine S.al fun b5 w2 S => ?_
  refine S.stB (b := b5) fun w3 S => ?_
  (repeat (first | refine s_p ?_ | refine s_c (by omega) ?_ | refine S.ld ?_ | refine S.ldB ?_ | refine S.ce ?_ | refine S.ceB ?_ | refine s_q ?_ | refine s_qc (by omega) ?_ | refine n_some ?_ | rw [List.getD_cons_zero] | rw [List.getD_cons_succ]))
  have no : (HeadU u i g → False) → headG u i g = false := fun hh => by
    cases e : headG u i g
    · rfl
    · exact (hh (headU e)).elim
  refine j_borH (c := decide (8 < g.lv)) (fun _ K2 hK2 => ?_) ?_
  · (repeat (first | refine s_p ?_ | refine s_c (by omega) ?_ | refine S.ld ?_ | refine S.ldB ?_ | refine S.ce ?_ | refine S.ceB ?_ | refine s_q ?_ | refine s_qc (by omega) ?_ | refine n_some ?_ | rw [List.getD_cons_zero] | rw [List.getD_cons_succ]))
    exact hK2
  refine j_borH (c := decide (g.pn < 0)) (fun _ K2 hK2 => ?_) ?_
  · (repeat (first | refine s_p ?_ | refine s_c (by omega) ?_ | refine S.ld ?_ | refine S.ldB ?_ | refine S.ce ?_ | refine S.ceB ?_ | refine s_q ?_ | refine s_qc (by omega) ?_ | refine n_some ?_ | rw [List.getD_cons_zero] | rw [List.getD_cons_succ]))
    exact hK2
  refine j_borH (c := decide (8 < g.pn)) (fun _ K2 hK2 => ?_) ?_
  · (repeat (first | refine s_p ?_ | refine s_c (by omega) ?_ | refine S.ld ?_ | refine S.ldB ?_ | refine S.ce ?_ | refine S.ceB ?_ | refine s_q ?_ | refine s_qc (by omega) ?_ | refine n_some ?_ | rw [List.getD_cons_zero] | rw [List.getD_cons_succ]))
    exact hK2
  refine j_borH (c := decide ((g.tys.length : Int) ≤ g.pn)) (fun _ K2 hK2 => ?_) ?_
  · (repeat (first | refine s_p ?_ | refine s_c (by omega) ?_ | refine S.ld ?_ | refine S.ldB ?_ | refine S.ce ?_ | refine S.ceB ?_ | refine s_q ?_ | refine s_qc (by omega) ?_ | refine n_some ?_ | rw [List.getD_cons_zero] | rw [List.getD_cons_succ]))
    exact hK2
  refine j_borH (c := decide (512 < g.tys.length)) (fun _ K2 hK2 => ?_) ?_
  · (repeat (first | refine s_p ?_ | refine s_c (by omega) ?_ | refine S.ld ?_ | refine S.ldB ?_ | refine S.ce ?_ | refine S.ceB ?_ | refine s_q ?_ | refine s_qc (by omega) ?_ | refine n_some ?_ | rw [List.getD_cons_zero] | rw [List.getD_cons_succ]))
    rw [show decide ((512 : Int) < (g.tys.length : Int)) = decide (512 < g.tys.length) from decide_eq_decide.2 (by omega)]
    exact hK2
  refine j_borH (c := decide (g.nms.length ≠ g.tys.length)) (fun _ K2 hK2 => ?_) ?_
  · (repeat (first | refine s_p ?_ | refine s_c (by omega) ?_ | refine S.ld ?_ | refine S.ldB ?_ | refine S.ce ?_ | refine S.ceB ?_ | refine s_q ?_ | refine s_qc (by omega) ?_ | refine n_some ?_ | rw [List.getD_cons_zero] | rw [List.getD_cons_succ]))
    rw [nat_ne_int]
    exact hK2
  refine c_b (fun hbad => ?_) (fun hgood => ?_)
  · rw [no fun H => by
      have := H.lv0; have := H.lv8; have := H.pn0; have := H.pn8; have := H.pn1; have := H.ty512; have := H.nms
      simp only [Bool.or_eq_true, decide_eq_true_eq] at hbad; omega] at h
    exact h _ S.ext
  have hnum : (0 ≤ g.lv ∧ g.lv ≤ 8 ∧ 0 ≤ g.pn ∧ g.pn ≤ 8) ∧ g.pn < g.tys.length ∧ g.tys.length ≤ 512 ∧ g.nms.length = g.tys.length := by
    simp only [Bool.or_eq_false_iff, decide_eq_false_iff_not] at hgood; omega
  clear hgood
  obtain ⟨⟨hlv0, hlv8, hpn0, hpn8⟩, hpn1, hty, hnm⟩ := hnum
  (repeat (first | refine s_p ?_ | refine s_c (by omega) ?_ | refine S.ld ?_ | refine S.ldB ?_ | refine S.ce ?_ | refine S.ceB ?_ | refine s_q ?_ | refine s_qc (by omega) ?_ | refine n_some ?_ | rw [List.getD_cons_zero] | rw [List.getD_cons_succ]))
  refine l_intro (ι := Nat) (fun i => [.int .i64 (i : Nat)]) (fun j w' => j ≤ g.tys.length ∧ tysG u g j (g.tys.drop j) = tysG u g 0 g.tys ∧ StX noX w r w' _) (fun i => g.tys.length - i) 0 rfl ⟨Nat.zero_le _, rfl, S⟩ ?_
  clear S
  rintro j d w5 ⟨hj, hd, S⟩ K6 hK6
  rw [List.getD_cons_zero]
  (first | refine s_p ?_ | refine s_c (by omega) ?_)
  refine c_if (fun hlt => ?_) (fun hge => ?_)
  · have hlt : j < g.tys.length := by omega
    obtain ⟨bt, ot, ct, rfl, hct, htc, hcell⟩ := h2.sl.get (by decide) hlt
    obtain ⟨q2, cap2, rfl, ht2⟩ := ty_form htc
    rw [tysG_drop hlt] at hd
    (first | refine s_p ?_ | refine s_c (by omega) ?_)
    refine s_ldN (n := 5) hct (fun j v hj => by rw [Int.toNat_natCast]; exact S.at (hcell j v hj)) ?_
    refine S.al fun b7 w6 S => ?_
    refine S.stB (b := b7) fun w7 S => ?_
    (repeat (first | refine s_p ?_ | refine s_c (by omega) ?_ | refine S.ld ?_ | refine S.ldB ?_ | refine S.ce ?_ | refine S.ceB ?_ | refine s_q ?_ | refine s_qc (by omega) ?_ | refine n_some ?_ | rw [List.getD_cons_zero] | rw [List.getD_cons_succ]))
    refine c_types_May S.holds hst ht2 fun w8 e8 => ?_
    have S := S.go e8
    (first | refine s_p ?_ | refine s_c (by omega) ?_)
    refine c_b (fun hm => ?_) (fun hm => ?_)
    · have hm : mayB u.ss g.tys[j] = false := by simpa using hm
      rw [no fun H => by
        have := H.tys
        rw [← hd, tyG, hm, Bool.false_and, Bool.false_and] at this; cases this] at h
      exact h _ S.ext
    have hm : mayB u.ss g.tys[j] = true := by simpa using hm
    refine S.al fun b8 w9 S => ?_
    refine S.st (b := b8) fun w10 S => ?_
    refine j_intro (fun _ w' => StX noX w r w' [.cell b8 [.int .i64 (if (j : Int) ≤ g.pn then 0 else -1)] 3, .cell b7 (tyL g.tys[j] q2 cap2) 25, .cell b5 [.string g.name, .int .i64 g.lv, .slice qo g.outs.length capo, .int .i64 g.pn, .slice (some ⟨bt, ot, none⟩) g.tys.length capt, .slice qn g.nms.length capn, .slice qp g.pts.length capp] 53,
      .cell b2 [.slice p0 u.ss.length cap0, .slice (some ⟨bf, of, none⟩) u.fs.length capf, .int .i64 u.mn] 43]) (fun K3 hK3 => ?_) ?_
    · (repeat (first | refine s_p ?_ | refine s_c (by omega) ?_ | refine S.ld ?_ | refine S.ldB ?_ | refine S.ce ?_ | refine S.ceB ?_ | refine s_q ?_ | refine s_qc (by omega) ?_ | refine n_some ?_ | rw [List.getD_cons_zero] | rw [List.getD_cons_succ]))
      refine c_if (fun hle => ?_) (fun hgt => ?_)
      · refine S.st (b := b8) fun w11 S => ?_
        refine hK3 [] _ ?_
        rw [if_pos hle]; exact S
      · refine hK3 [] _ ?_
        rw [if_neg hgt]; exact S
    clear S
    rintro _ w11 S d11
    refine S.ldB (b := b7) ?_ rfl
    refine c_types_Regions S.holds ht2 fun v7 w12 e12 o12 => ?_
    have S := S.go e12
    obtain ⟨p7, cap7, rfl, _, _, _, hs7⟩ := own_shape o12
    (first | refine s_p ?_ | refine s_c (by omega) ?_)
    have hr48 : (regsT g.tys[j]).length ≤ 1000 := by
      rw [regsT]; split
      · have := regs_le48 (by assumption); omega
      · simp
    refine c_ContainsFunc_intW (f := fun x => decide (x < (if (j : Int) ≤ g.pn then 0 else -1)) || decide (g.lv ≤ x)) (fun x K hK => ?_) hs7 (by omega) ?_
    · refine v_f12 (by kernel_rfl) ?_
      refine Try.ok_graph_head_1 ?_
      unfold Try.F_graph_head_1
      refine S.ld (b := b8) ?_ rfl
      (first | refine s_p ?_ | refine s_c (by omega) ?_)
      refine j_borH (c := decide (g.lv ≤ x)) (fun _ K2 hK2 => ?_) hK
      (repeat (first | refine s_p ?_ | refine s_c (by omega) ?_ | refine S.ld ?_ | refine S.ldB ?_ | refine S.ce ?_ | refine S.ceB ?_ | refine s_q ?_ | refine s_qc (by omega) ?_ | refine n_some ?_ | rw [List.getD_cons_zero] | rw [List.getD_cons_succ]))
      exact hK2
    have hty : tyG u g j g.tys[j] = !((regsT g.tys[j]).any fun x => decide (x < (if (j : Int) ≤ g.pn then 0 else -1)) || decide (g.lv ≤ x)) := by
      rw [tyG_any, hm, Bool.true_and]
    refine c_b (fun hx => ?_) (fun hx => ?_)
    · rw [hty, hx, Bool.not_true, Bool.false_and] at hd
      rw [no fun H => by have := H.tys; rw [← hd] at this; cases this] at h
      exact h _ S.ext
    · rw [hty, hx, Bool.not_false, Bool.true_and] at hd
      (first | refine s_p ?_ | refine s_c (by omega) ?_)
      rw [show ((j : Int) + 1) = ((j + 1 : Nat) : Int) by omega]
      exact hK6 (j + 1) _ ⟨hlt, hd, (S.drop b8).drop b7⟩ (by omega)
  have hje : j = g.tys.length := by omega
  rw [hje, List.drop_length] at hd
  have htys : tysG u g 0 g.tys = true := hd.symm
  clear hd hK6 K6 hge hj hje
  (repeat (first | refine s_p ?_ | refine s_c (by omega) ?_ | refine S.ld ?_ | refine S.ldB ?_ | refine S.ce ?_ | refine S.ceB ?_ | refine s_q ?_ | refine s_qc (by omega) ?_ | refine n_some ?_ | rw [List.getD_cons_zero] | rw [List.getD_cons_succ]))
  refine j_borH (c := decide (1024 < g.pts.length)) (fun _ K2 hK2 => ?_) ?_
  · (repeat (first | refine s_p ?_ | refine s_c (by omega) ?_ | refine S.ld ?_ | refine S.ldB ?_ | refine S.ce ?_ | refine S.ceB ?_ | refine s_q ?_ | refine s_qc (by omega) ?_ | refine n_some ?_ | rw [List.getD_cons_zero] | rw [List.getD_cons_succ]))
    rw [show decide ((1024 : Int) < (g.pts.length : Int)) = decide (1024 < g.pts.length) from decide_eq_decide.2 (by omega)]
    exact hK2
  refine j_borE (c := !outsG g) (fun _ K2 hK2 => ?_) fun w20 e20 => ?_
  · refine S.ldB (b := b5) ?_ rfl
    refine c_graph_outlives S.holds hgc hlv0 hlv8 hpn0 hpn1 (fun t ht x hx => ?_) fun w21 e21 => ?_
    · obtain ⟨k, hk, rfl⟩ := List.getElem_of_mem ht
      rw [List.length_take] at hk
      rw [List.getElem_take] at hx
      have := tysG_low htys (j := k) (by omega) (by omega) x hx
      omega
    (first | refine s_p ?_ | refine s_c (by omega) ?_)
    exact hK2 _ e21
  have S := S.go e20
  refine c_b (fun hbad => ?_) (fun hgood => ?_)
  · rw [no fun H => by
      have := H.pt1; have := H.pt1024; have h3 := H.outs
      rw [h3] at hbad
      simp only [Bool.or_eq_true, decide_eq_true_eq, Bool.not_true, Bool.false_eq_true, or_false] at hbad; omega] at h
    exact h _ S.ext
  have hnum : (1 ≤ g.pts.length ∧ g.pts.length ≤ 1024) ∧ outsG g = true := by
    cases ho : outsG g
    · rw [ho] at hgood; simp at hgood
    · simp only [Bool.or_eq_false_iff, decide_eq_false_iff_not] at hgood
      exact ⟨by omega, rfl⟩
  clear hgood
  obtain ⟨⟨hp1, hp1024⟩, hout⟩ := hnum
  (repeat (first | refine s_p ?_ | refine s_c (by omega) ?_ | refine S.ld ?_ | refine S.ldB ?_ | refine S.ce ?_ | refine S.ceB ?_ | refine s_q ?_ | refine s_qc (by omega) ?_ | refine n_some ?_ | rw [List.getD_cons_zero] | rw [List.getD_cons_succ]))
  refine l_intro (ι := Nat) (fun i => [.int .i64 (loansG (g.pts.take i) : Nat), .int .i64 (i : Nat)]) (fun j w' => j ≤ g.pts.length ∧ loansG (g.pts.take j) ≤ j ∧ StX noX w r w' _) (fun i => g.pts.length - i) 0 rfl ⟨Nat.zero_le _, Nat.le_refl _, S⟩ ?_
  clear S
  rintro j d w22 ⟨hj, hlj, S⟩ K7 hK7
  simp only [List.getD_cons_zero, List.getD_cons_succ]
  (first | refine s_p ?_ | refine s_c (by omega) ?_)
  refine c_if (fun hlt => ?_) (fun hge => ?_)
  · have hlt : j < g.pts.length := by omega
    obtain ⟨bp, op, cp, rfl, hcp, hpc, hcell⟩ := h4.sl.get (by decide) hlt
    refine j_intro (fun s w' => s = [.int .i64 (loansG (g.pts.take (j + 1)) : Nat)] ∧ StX noX w r w' [.cell b5 [.string g.name, .int .i64 g.lv, .slice qo g.outs.length capo, .int .i64 g.pn, .slice qt g.tys.length capt, .slice qn g.nms.length capn, .slice (some ⟨bp, op, none⟩) g.pts.length capp] 53,
      .cell b2 [.slice p0 u.ss.length cap0, .slice (some ⟨bf, of, none⟩) u.fs.length capf, .int .i64 u.mn] 43]) (fun K3 hK3 => ?_) ?_
    · (first | refine s_p ?_ | refine s_c (by omega) ?_)
      refine s_ldN (n := 21) hcp (fun j v hj => by rw [Int.toNat_natCast]; exact S.at (hcell j v hj)) ?_
      obtain ⟨vto, va, vb, vl, vfr, rfl, k1, k2, k3, k4, k5⟩ := hpc
      obtain ⟨_, _, rfl, _⟩ := k1.sl.shape
      obtain ⟨_, _, rfl, _⟩ := k2.sl.shape
      obtain ⟨_, _, rfl, _⟩ := k3.sl.shape
      obtain ⟨_, _, rfl, _⟩ := k4.sl.shape
      obtain ⟨_, _, rfl, _⟩ := k5.sl.shape
      refine S.al fun b11 w23 S => ?_
      refine S.stB (b := b11) fun w24 S => ?_
      (repeat (first | refine s_p ?_ | refine s_c (by omega) ?_ | refine S.ld ?_ | refine S.ldB ?_ | refine S.ce ?_ | refine S.ceB ?_ | refine s_q ?_ | refine s_qc (by omega) ?_ | refine n_some ?_ | rw [List.getD_cons_zero] | rw [List.getD_cons_succ]))
      have hlo := loans_take hlt
      refine c_if (fun ho => ?_) (fun ho => ?_)
      · rw [if_pos ho] at hlo
        (first | refine s_p ?_ | refine s_c (by omega) ?_)
        rw [show ((loansG (g.pts.take j) : Nat) : Int) + 1 = ((loansG (g.pts.take (j + 1)) : Nat) : Int) by omega]
        exact hK3 _ _ ⟨rfl, S.drop b11⟩
      · rw [if_neg ho] at hlo
        rw [show ((loansG (g.pts.take j) : Nat) : Int) = ((loansG (g.pts.take (j + 1)) : Nat) : Int) by omega]
        exact hK3 _ _ ⟨rfl, S.drop b11⟩
    clear S
    rintro _ w25 ⟨rfl, S⟩ d25
    rw [List.getD_cons_zero]
    (first | refine s_p ?_ | refine s_c (by omega) ?_)
    rw [show ((j : Int) + 1) = ((j + 1 : Nat) : Int) by omega]
    refine hK7 (j + 1) _ ⟨hlt, ?_, S⟩ (by omega)
    rw [loans_take hlt]; split <;> omega
  have hje : j = g.pts.length := by omega
  rw [hje, List.take_length]
  (first | refine s_p ?_ | refine s_c (by omega) ?_)
  have hfin : headG u i g = (decide (loansG g.pts ≤ 256) && (decide ((i : Int) ≠ u.mn) || ((decide (g.lv = 0) && decide (g.pn = 0)) && isK (g.tys.headD zeroD) 1))) := by
    rw [headG, htys, hout, decide_eq_true hlv0, decide_eq_true hlv8, decide_eq_true hpn0, decide_eq_true hpn8, decide_eq_true hpn1, decide_eq_true hty, decide_eq_true hnm, decide_eq_true hp1, decide_eq_true hp1024, decide_not]; rfl
  rw [hfin] at h
  rw [show decide ((loansG g.pts : Int) ≤ 256) = decide (loansG g.pts ≤ 256) from decide_eq_decide.2 (by omega)]
  refine j_andora (b2 := decide ((i : Int) ≠ u.mn)) (b3 := decide (g.lv = 0)) (b4 := decide (g.pn = 0)) (b5 := isK (g.tys.headD zeroD) 1) (fun K2 hK2 => ?_) (fun K2 hK2 => ?_) (fun K2 hK2 => ?_) (fun K2 hK2 => ?_) (h _ S.ext)
  · (repeat (first | refine s_p ?_ | refine s_c (by omega) ?_ | refine S.ld ?_ | refine S.ldB ?_ | refine S.ce ?_ | refine S.ceB ?_ | refine s_q ?_ | refine s_qc (by omega) ?_ | refine n_some ?_ | rw [List.getD_cons_zero] | rw [List.getD_cons_succ]))
    exact hK2
  · (repeat (first | refine s_p ?_ | refine s_c (by omega) ?_ | refine S.ld ?_ | refine S.ldB ?_ | refine S.ce ?_ | refine S.ceB ?_ | refine s_q ?_ | refine s_qc (by omega) ?_ | refine n_some ?_ | rw [List.getD_cons_zero] | rw [List.getD_cons_succ]))
    exact hK2
  · (repeat (first | refine s_p ?_ | refine s_c (by omega) ?_ | refine S.ld ?_ | refine S.ldB ?_ | refine S.ce ?_ | refine S.ceB ?_ | refine s_q ?_ | refine s_qc (by omega) ?_ | refine n_some ?_ | rw [List.getD_cons_zero] | rw [List.getD_cons_succ]))
    exact hK2
  · have hpos : 0 < g.tys.length := by omega
    obtain ⟨bt, ot, ct, rfl, hct, htc, hcell⟩ := h2.sl.get (by decide) hpos
    obtain ⟨q2, cap2, rfl, ht2⟩ := ty_form htc
    (repeat (first | refine s_p ?_ | refine s_c (by omega) ?_ | refine S.ld ?_ | refine S.ldB ?_ | refine S.ce ?_ | refine S.ceB ?_ | refine s_q ?_ | refine s_qc (by omega) ?_ | refine n_some ?_ | rw [List.getD_cons_zero] | rw [List.getD_cons_succ]))
    refine s_ld1 (v := .int .u8 g.tys[0].k) (by simpa using S.at (hcell 0 _ rfl)) ?_
    (repeat (first | refine s_p ?_ | refine s_c (by omega) ?_ | refine S.ld ?_ | refine S.ldB ?_ | refine S.ce ?_ | refine S.ceB ?_ | refine s_q ?_ | refine s_qc (by omega) ?_ | refine n_some ?_ | rw [List.getD_cons_zero] | rw [List.getD_cons_succ]))
    have he : g.tys.headD zeroD = g.tys[0] := by
      rw [List.headD_eq_head?_getD, List.head?_eq_getElem?, List.getElem?_eq_getElem hpos, Option.getD_some]
    rw [he] at hK2
    exact hK2
/-! ### Check, May -/

theorem headsG_at {u : UnD} {i : Nat} {l : List GrD} (hi : i < l.length) : headsG u i (l.drop i) = if headG u i l[i] then headsG u (i + 1) (l.drop (i + 1)) else some i := by
  rw [List.drop_eq_getElem_cons hi]; rfl
theorem badPt_at {u : UnD} {g : GrD} {q : Nat} {l : List PtD} (hq : q < l.length) : badPt u g q (l.drop q) = if pointG u g l[q] then badPt u g (q + 1) (l.drop (q + 1)) else some q := by
  rw [List.drop_eq_getElem_cons hq]; rfl
theorem badG_at {u : UnD} {i : Nat} {l : List GrD} (hi : i < l.length) : badG u i (l.drop i) = match badPt u l[i] 0 l[i].pts with | some q => some (i, q) | none => badG u (i + 1) (l.drop (i + 1)) := by
  rw [List.drop_eq_getElem_cons hi]; rfl
/-- what Check tells, when structs, functions and main are as they must be -/
noncomputable def checkH (u : UnD) : Int × Int × Int := match headsG u 0 u.fs with
    | some i => (i, -1, 100)
    | none => match badG u 0 u.fs with
      | some (i, q) => (i, q, 100)
      | none => (0, 0, 0)
set_option maxHeartbeats 4000000 in
theorem c_graph_Check {u : UnD} {v : Value} {w : World} {r : Gh} {K : Value → World → Prop} (hr : Holds r w) (hu : UnG r v u)
    (h : ∀ w', Ext w w' → K (.tuple #[.int .i64 (checkG u).1, .int .i64 (checkG u).2.1, .int .i64 (checkG u).2.2]) w') : oCall Try.prog Try.n_graph_Check #[v] w K := by
  have hu0 := hu
  obtain ⟨p0, cap0, vf, rfl, _, _, hst, hsl, hfn⟩ := hu
  obtain ⟨qf, capf, rfl, _, _⟩ := hfn.sl.shape
  have hfl : u.fs.length ≤ 9223372036854775807 := hfn.few
  refine Try.ok_graph_Check ?_
  unfold Try.F_graph_Check
  have S := St.start hr
  refine S.box fun b1 w1 S => ?_
  (repeat (first | refine s_p ?_ | refine s_c (by omega) ?_ | refine S.ld ?_ | refine S.ldB ?_ | refine S.ce ?_ | refine S.ceB ?_ | refine s_q ?_ | refine s_qc (by omega) ?_ | refine n_some ?_ | rw [List.getD_cons_zero] | rw [List.getD_cons_succ]))
  refine c_types_Structs S.holds hst fun w2 e2 => ?_
  have S := S.go e2
  (repeat (first | refine s_p ?_ | refine s_c (by omega) ?_))
  refine j_borH (c := decide (u.fs.length < 1)) (fun _ K2 hK2 => ?_) ?_
  · (repeat (first | refine s_p ?_ | refine s_c (by omega) ?_ | refine S.ld ?_ | refine S.ldB ?_ | refine S.ce ?_ | refine S.ceB ?_ | refine s_q ?_ | refine s_qc (by omega) ?_ | refine n_some ?_ | rw [List.getD_cons_zero] | rw [List.getD_cons_succ]))
    rw [show decide ((u.fs.length : Int) < 1) = decide (u.fs.length < 1) from decide_eq_decide.2 (by omega)]
    exact hK2
  refine j_borH (c := decide (32 < u.fs.length)) (fun _ K2 hK2 => ?_) ?_
  · (repeat (first | refine s_p ?_ | refine s_c (by omega) ?_ | refine S.ld ?_ | refine S.ldB ?_ | refine S.ce ?_ | refine S.ceB ?_ | refine s_q ?_ | refine s_qc (by omega) ?_ | refine n_some ?_ | rw [List.getD_cons_zero] | rw [List.getD_cons_succ]))
    rw [show decide ((32 : Int) < (u.fs.length : Int)) = decide (32 < u.fs.length) from decide_eq_decide.2 (by omega)]
    exact hK2
  refine j_borH (c := decide (u.mn < 0)) (fun _ K2 hK2 => ?_) ?_
  · (repeat (first | refine s_p ?_ | refine s_c (by omega) ?_ | refine S.ld ?_ | refine S.ldB ?_ | refine S.ce ?_ | refine S.ceB ?_ | refine s_q ?_ | refine s_qc (by omega) ?_ | refine n_some ?_ | rw [List.getD_cons_zero] | rw [List.getD_cons_succ]))
    exact hK2
  refine j_borH (c := decide ((u.fs.length : Int) ≤ u.mn)) (fun _ K2 hK2 => ?_) ?_
  · (repeat (first | refine s_p ?_ | refine s_c (by omega) ?_ | refine S.ld ?_ | refine S.ldB ?_ | refine S.ce ?_ | refine S.ceB ?_ | refine s_q ?_ | refine s_qc (by omega) ?_ | refine n_some ?_ | rw [List.getD_cons_zero] | rw [List.getD_cons_succ]))
    exact hK2
  have hC : checkG u = if ((((decide ((structsT u.ss).2 ≠ 0) || decide (u.fs.length < 1)) || decide (32 < u.fs.length)) || decide (u.mn < 0)) || decide ((u.fs.length : Int) ≤ u.mn)) = true then (-1, -1, 100) else checkH u := by
    rw [checkG, checkH]
    simp only [ne_eq, decide_not, Bool.or_assoc]
    rfl
  rw [hC] at h
  refine c_b (fun hbad => ?_) (fun hgood => ?_)
  · rw [if_pos hbad] at h
    exact h _ S.ext
  rw [if_neg (by rw [hgood]; decide)] at h
  have hok : (structsT u.ss).2 = 0 := by
    simp only [Bool.or_eq_false_iff, decide_eq_false_iff_not] at hgood; omega
  clear hC hgood
  (repeat (first | refine s_p ?_ | refine s_c (by omega) ?_ | refine S.ld ?_ | refine S.ldB ?_ | refine S.ce ?_ | refine S.ceB ?_ | refine s_q ?_ | refine s_qc (by omega) ?_ | refine n_some ?_ | rw [List.getD_cons_zero] | rw [List.getD_cons_succ]))
  refine l_intro (ι := Nat × Int) (fun i => [.int .i64 i.2, .int .i64 0, .int .i64 (i.1 : Nat)]) (fun j w' => j.1 ≤ u.fs.length ∧ headsG u j.1 (u.fs.drop j.1) = headsG u 0 u.fs ∧ StX noX w r w' _) (fun i => u.fs.length - i.1) (0, 0) rfl ⟨Nat.zero_le _, rfl, S⟩ ?_
  clear S
  rintro ⟨j, a⟩ d w5 ⟨hj, hd, S⟩ K6 hK6
  simp only at hj hd S ⊢
  simp only [List.getD_cons_zero, List.getD_cons_succ]
  (first | refine s_p ?_ | refine s_c (by omega) ?_)
  refine c_if (fun hlt => ?_) (fun hge => ?_)
  · have hlt : j < u.fs.length := by omega
    rw [headsG_at hlt] at hd
    refine S.ldB (b := b1) ?_ rfl
    refine c_graph_head hlt S.holds hu0 fun w6 e6 => ?_
    have S := S.go e6
    (first | refine s_p ?_ | refine s_c (by omega) ?_)
    refine c_b (fun hx => ?_) (fun hx => ?_)
    · rw [if_neg (by simpa using hx)] at hd
      rw [checkH, ← hd] at h
      exact h _ S.ext
    · rw [if_pos (by simpa using hx)] at hd
      (first | refine s_p ?_ | refine s_c (by omega) ?_)
      rw [show ((j : Int) + 1) = ((j + 1 : Nat) : Int) by omega]
      exact hK6 (j + 1, j) _ ⟨hlt, hd, S⟩ (by show u.fs.length - (j + 1) < u.fs.length - j; omega)
  have hje : j = u.fs.length := by omega
  rw [hje, List.drop_length] at hd
  have hnone : headsG u 0 u.fs = none := hd.symm
  have hheads := fun (i : Nat) (hi : i < u.fs.length) => headU (by have := headsG_none.1 hnone i hi; rwa [Nat.zero_add] at this : headG u i u.fs[i] = true)
  rw [checkH, hnone] at h
  dsimp only at h
  clear hd hK6 K6 hge hj hje
  refine j_intro (fun s w' => Ext w w' ∧ ((∃ x y : Nat, s = [.int .i64 (x : Int), .int .i64 (y : Int), .bool true] ∧ badG u 0 u.fs = some (x, y)) ∨ ∃ x y, s = [x, y, .bool false] ∧ badG u 0 u.fs = none)) (fun K3 hK3 => ?_) ?_
  rotate_left
  · rintro _ w9 ⟨e9, ⟨x, y, rfl, hb⟩ | ⟨x, y, rfl, hb⟩⟩ d9
    · rw [hb] at h
      refine c_t rfl ?_
      exact h _ e9
    · rw [hb] at h
      refine c_f rfl ?_
      exact h _ e9
  (repeat (first | refine s_p ?_ | refine s_c (by omega) ?_ | refine S.ld ?_ | refine S.ldB ?_ | refine S.ce ?_ | refine S.ceB ?_ | refine s_q ?_ | refine s_qc (by omega) ?_ | refine n_some ?_ | rw [List.getD_cons_zero] | rw [List.getD_cons_succ]))
  refine l_intro (ι := Nat × Value × Value) (fun i => [i.2.1, i.2.2, .bool false, .int .i64 (i.1 : Nat)]) (fun j w' => j.1 ≤ u.fs.length ∧ badG u j.1 (u.fs.drop j.1) = badG u 0 u.fs ∧ StX noX w r w' _) (fun i => u.fs.length - i.1) (0, .int .i64 a, .int .i64 0) rfl ⟨Nat.zero_le _, rfl, S⟩ ?_
  clear S
  rintro ⟨j, x1, x2⟩ d w5 ⟨hj, hd, S⟩ K6 hK6
  simp only at hj hd S ⊢
  simp only [List.getD_cons_zero, List.getD_cons_succ]
  (first | refine s_p ?_ | refine s_c (by omega) ?_)
  refine c_if (fun hlt => ?_) (fun hge => ?_)
  rotate_left
  · have hje : j = u.fs.length := by omega
    rw [hje, List.drop_length] at hd
    exact hK3 _ _ ⟨S.ext, .inr ⟨_, _, rfl, hd.symm⟩⟩
  have hlt : j < u.fs.length := by omega
  obtain ⟨bf, of, cf, rfl, hcf, hgc, hfo⟩ := hfn.sl.get (by decide) hlt
  rw [badG_at hlt] at hd
  have hH := hheads j hlt
  have hfin := hH.fine hok
  have hpn : ∀ f ∈ u.fs, 0 ≤ f.pn ∧ f.pn < f.tys.length := fun f hf => by
    obtain ⟨i, hi, rfl⟩ := List.getElem_of_mem hf
    exact ⟨(hheads i hi).pn0, (hheads i hi).pn1⟩
  generalize hgi : u.fs[j] = g at hd hgc hH hfin
  obtain ⟨vo, vt, vn, vp, rfl, h1, h2, h3, h4⟩ := id hgc
  obtain ⟨qo, capo, rfl, _, _⟩ := h1.sl.shape
  obtain ⟨qt, capt, rfl, _, hct⟩ := h2.sl.shape
  obtain ⟨qn, capn, rfl, _, _⟩ := h3.sl.shape
  obtain ⟨qp, capp, rfl, _, _⟩ := h4.sl.shape
  have hptl : g.pts.length ≤ 9223372036854775807 := h4.few
  (first | refine s_p ?_ | refine s_c (by omega) ?_)
  refine s_ldN (n := 7) hcf (fun j v hj => by rw [Int.toNat_natCast]; exact S.at (hfo j v hj)) ?_
  refine S.al fun b9 w6 S => ?_
  refine S.stB (b := b9) fun w7 S => ?_
  refine S.ldB (b := b1) ?_ rfl
  refine S.ldB (b := b9) ?_ rfl
  refine p_build (cs := #[.slice p0 u.ss.length cap0, .slice (some ⟨bf, of, none⟩) u.fs.length capf, .int .i64 u.mn, .string g.name, .int .i64 g.lv, .slice qo g.outs.length capo, .int .i64 g.pn, .slice qt g.tys.length capt, .slice qn g.nms.length capn, .slice qp g.pts.length capp]) (by kernel_rfl) ?_
  refine S.al fun b10 w8 S => ?_
  refine S.stB (b := b10) fun w9 S => ?_
  (repeat (first | refine s_p ?_ | refine s_c (by omega) ?_ | refine S.ld ?_ | refine S.ldB ?_ | refine S.ce ?_ | refine S.ceB ?_ | refine s_q ?_ | refine s_qc (by omega) ?_ | refine n_some ?_ | rw [List.getD_cons_zero] | rw [List.getD_cons_succ]))
  have hask : AskG r (.agg #[.slice p0 u.ss.length cap0, .slice (some ⟨bf, of, none⟩) u.fs.length capf, .int .i64 u.mn, .string g.name, .int .i64 g.lv, .slice qo g.outs.length capo, .int .i64 g.pn, .slice qt g.tys.length capt, .slice qn g.nms.length capn, .slice qp g.pts.length capp]) u g := ⟨_, _, _, _, _, _, _, rfl, hu0, hgc⟩
  refine l_intro (ι := Nat) (fun i => [x1, x2, .bool false, .int .i64 (i : Nat)]) (fun k w' => k ≤ g.pts.length ∧ badPt u g k (g.pts.drop k) = badPt u g 0 g.pts ∧ StX noX w r w' _) (fun i => g.pts.length - i) 0 rfl ⟨Nat.zero_le _, rfl, S⟩ ?_
  clear S
  rintro k d w10 ⟨hk, hdk, S⟩ K7 hK7
  simp only [List.getD_cons_zero, List.getD_cons_succ]
  (first | refine s_p ?_ | refine s_c (by omega) ?_)
  refine c_if (fun hlt2 => ?_) (fun hge => ?_)
  · have hlt2 : k < g.pts.length := by omega
    obtain ⟨bp, op, cp, rfl, hcp, hpc, hcell⟩ := h4.sl.get (by decide) hlt2
    rw [badPt_at hlt2] at hdk
    (first | refine s_p ?_ | refine s_c (by omega) ?_)
    refine s_ldN (n := 21) hcp (fun j v hj => by rw [Int.toNat_natCast]; exact S.at (hcell j v hj)) ?_
    obtain ⟨vto, va, vb, vl, vfr, rfl, k1, k2, k3, k4, k5⟩ := id hpc
    obtain ⟨_, _, rfl, _⟩ := k1.sl.shape
    obtain ⟨_, _, rfl, _⟩ := k2.sl.shape
    obtain ⟨_, _, rfl, _⟩ := k3.sl.shape
    obtain ⟨_, _, rfl, _⟩ := k4.sl.shape
    obtain ⟨_, _, rfl, _⟩ := k5.sl.shape
    refine S.al fun b12 w11 S => ?_
    refine S.stB (b := b12) fun w12 S => ?_
    refine S.ldB (b := b10) ?_ rfl
    refine S.ldB (b := b12) ?_ rfl
    refine c_graph_asker_point S.holds hask hfin hpn hpc fun w13 e13 => ?_
    have S := S.go e13
    (first | refine s_p ?_ | refine s_c (by omega) ?_)
    refine c_b (fun hx => ?_) (fun hx => ?_)
    · rw [if_neg (by simpa using hx)] at hdk
      rw [← hdk] at hd
      exact hK3 _ _ ⟨S.ext, .inl ⟨j, k, rfl, hd.symm⟩⟩
    · rw [if_pos (by simpa using hx)] at hdk
      (first | refine s_p ?_ | refine s_c (by omega) ?_)
      rw [show ((k : Int) + 1) = ((k + 1 : Nat) : Int) by omega]
      exact hK7 (k + 1) _ ⟨hlt2, hdk, S.drop b12⟩ (by omega)
  have hke : k = g.pts.length := by omega
  rw [hke, List.drop_length] at hdk
  rw [← hdk] at hd
  (first | refine s_p ?_ | refine s_c (by omega) ?_)
  rw [show ((j : Int) + 1) = ((j + 1 : Nat) : Int) by omega]
  exact hK6 (j + 1, x1, x2) _ ⟨hlt, hd, (S.drop b10).drop b9⟩ (by show u.fs.length - (j + 1) < u.fs.length - j; omega)
theorem c_graph_May {u : UnD} {v : Value} {w : World} {r : Gh} {K : Value → World → Prop} (hr : Holds r w) (hu : UnG r v u)
    (h : ∀ w', Ext w w' → K (.bool (mayU u)) w') : oCall Try.prog Try.n_graph_May #[v] w K := by
  refine Try.ok_graph_May ?_
  unfold Try.F_graph_May
  have hu0 := hu
  obtain ⟨p0, cap0, vf, rfl, _, _, hst, hsl, hfn⟩ := hu
  obtain ⟨qf, capf, rfl, _, _⟩ := hfn.sl.shape
  have S := St.start hr
  refine S.box fun b1 w1 S => ?_
  refine S.ldB (b := b1) ?_ rfl
  refine c_graph_Check S.holds hu0 fun w2 e2 => ?_
  have S := S.go e2
  (repeat (first | refine s_p ?_ | refine s_c (by omega) ?_))
  exact h _ S.ext
end Go.Proofs
end

section
namespace Go.Proofs

open Go.Sh

set_option maxRecDepth 100000

set_option linter.unusedSimpArgs false

set_option linter.unusedVariables false

theorem anew_ok {t : TyD} {m : List Int} (hB : isB t = true) (hm : m.length = t.regs.length) (hlow : ∀ x ∈ m, -1 ≤ x) : anewT t m = (t.lay m, 0) := by
  have : anewB t m = true := by
    rw [anewB, hB, decide_eq_true hm.symm, Bool.true_and, Bool.true_and, Bool.not_eq_true', List.any_eq_false]
    intro x hx
    have := hlow x hx
    simp only [decide_eq_true_eq]; omega
  rw [anewT, if_pos this]
theorem sl_ints {s : Gh} {p : Option Addr} {n cap : Nat} {l : List Int} (h : SlG 1 s IntC (.slice p n cap) l) : Ob s fun w => Sl w p (ints l) := fun w hw i v hi => by
  have hlt : i < l.length := by
    have := (List.getElem?_eq_some_iff.1 hi).1
    rwa [ints_len] at this
  have hv : v = .int .i64 l[i] := by
    rw [ints, List.getElem?_map, List.getElem?_eq_getElem hlt] at hi
    exact (Option.some.inj hi).symm
  subst hv
  obtain ⟨b, off, c, rfl, hc, hcc, hcell⟩ := h.get (by decide) hlt
  obtain rfl : c = _ := hcc
  have := hcell 0 _ rfl w hw
  exact ⟨b, off, rfl, by simpa using this⟩
theorem c_region_turned {X : Nat → Prop} {w0 : World} {r : Gh} {t : TyD} {m : List Int} {Lc : Nat → List Asr} {fv : Value} (hB : isB t = true) (hm : m.length = t.regs.length) (hlow : ∀ x ∈ m, -1 ≤ x)
    (hf : ∀ (i : Nat) (hi : i < t.regs.length) {M : List Asr} {w : World} {K : Value → World → Prop}, StX X w0 r w (Lc i ++ M) → (∀ w', StX X w0 r w' (Lc (i + 1) ++ M) → K (.int .i64 (m[i]'(by omega))) w') → oCallV Try.prog fv #[.int .i64 t.regs[i]] w K)
    {M : List Asr} {w : World} {v : Value} {K : Value → World → Prop} (S : StX X w0 r w (Lc 0 ++ M)) (hv : TyG r v t)
    (h : ∀ v' sn w', StX X w0 (r.or sn) w' (Lc t.regs.length ++ M) → Above w0 sn → TyG sn v' (t.lay m) → ChnG sn v' (t.lay m) → K v' w') : oCall Try.prog Try.n_region_turned #[v, fv] w K := by
  refine Try.ok_region_turned ?_
  unfold Try.F_region_turned
  have h48 := regs_le48 hB
  have hrT : regsT t = t.regs := by rw [regsT, hB]; rfl
  have hv0 := hv
  obtain ⟨p1, cap1, rfl, _⟩ := hv
  refine S.box fun b2 w1 S => ?_
  have S : StX X w0 r w1 (.cell b2 (tyL t p1 cap1) 25 :: (Lc 0 ++ M)) := S
  refine S.al fun b4 w2 S => ?_
  refine S.ldB (b := b2) ?_ rfl
  refine c_types_Regions S.holds hv0 fun v9 w3 e3 o3 => ?_
  rw [hrT] at o3
  have S := S.take e3 o3
  obtain ⟨p9, cap9, rfl, _⟩ := S.rowS v9
  (first | refine s_p ?_ | refine s_c (by omega) ?_)
  refine l_intro (ι := Nat) (fun i => [.int .i64 (i : Nat)]) (fun i w' => i ≤ t.regs.length ∧ StX X w0 r w' (Lc i ++ (.row (.slice p9 t.regs.length cap9) 3 1 t.regs.length (ints (m.take i ++ t.regs.drop i)) :: .cell b4 zeroL 25 :: .cell b2 (tyL t p1 cap1) 25 :: M))) (fun i => t.regs.length - i) 0 rfl
    ⟨Nat.zero_le _, by
      rw [List.take_zero, List.drop_zero, List.nil_append]
      exact S.perm (by
        refine ((List.Perm.cons _ ((List.Perm.cons _ List.perm_middle.symm).trans List.perm_middle.symm))).trans List.perm_middle.symm)⟩ ?_
  clear S
  rintro i d w4 ⟨hi, S⟩ K6 hK6
  rw [List.getD_cons_zero]
  (first | refine s_p ?_ | refine s_c (by omega) ?_)
  refine c_if (fun hlt => ?_) (fun hge => ?_)
  · have hlt : i < t.regs.length := by omega
    have S1 := S.perm (M := .row (.slice p9 t.regs.length cap9) 3 1 t.regs.length (ints (m.take i ++ t.regs.drop i)) :: (Lc i ++ (.cell b4 zeroL 25 :: .cell b2 (tyL t p1 cap1) 25 :: M))) List.perm_middle
    obtain ⟨b9, rfl⟩ := S1.row0N (p := p9) (n := t.regs.length) (cap := cap9) trivial (by omega)
    obtain ⟨_, _, hv9, _, _, _, hs9⟩ := S1.rowS (.slice (some ⟨b9, 0, none⟩) t.regs.length cap9)
    cases hv9
    have hlen : (m.take i ++ t.regs.drop i).length = t.regs.length := by rw [List.length_append, List.length_take, List.length_drop]; omega
    obtain ⟨bx, ox, hbx, hcell⟩ := ints_at hs9 (i := i) (by omega)
    cases hbx
    have hel : (m.take i ++ t.regs.drop i)[i] = t.regs[i] := by
      rw [List.getElem_append_right (by rw [List.length_take]; omega)]
      simp only [List.length_take, List.getElem_drop]
      congr 1; omega
    (first | refine s_p ?_ | refine s_c (by omega) ?_)
    refine s_ld1 (v := .int .i64 t.regs[i]) (by rw [← hel]; simpa using hcell) ?_
    refine hf i hlt S fun w5 S => ?_
    have S := S.perm (M := .row (.slice (some ⟨b9, 0, none⟩) t.regs.length cap9) 3 1 t.regs.length (ints (m.take i ++ t.regs.drop i)) :: (Lc (i + 1) ++ (.cell b4 zeroL 25 :: .cell b2 (tyL t p1 cap1) 25 :: M))) List.perm_middle
    (first | refine s_p ?_ | refine s_c (by omega) ?_)
    rw [show 0 + ((i : Nat) : Int).toNat = i by omega]
    refine S.stRow1 (cap := cap9) hlt fun w6 S => ?_
    (first | refine s_p ?_ | refine s_c (by omega) ?_)
    rw [show ((i : Int) + 1) = ((i + 1 : Nat) : Int) by omega]
    refine hK6 (i + 1) _ ⟨hlt, ?_⟩ (by omega)
    have hset : (ints (m.take i ++ t.regs.drop i)).set i (.int .i64 (m[i]'(by omega))) = ints (m.take (i + 1) ++ t.regs.drop (i + 1)) := by
      rw [ints, ints, ← List.map_set]
      congr 1
      rw [List.set_append_right _ _ (by rw [List.length_take]; omega), List.length_take, Nat.min_eq_left (by omega), Nat.sub_self, List.drop_eq_getElem_cons hlt, List.set_cons_zero, show m.take (i + 1) = m.take i ++ [m[i]'(by omega)] from List.take_succ_eq_append_getElem (by omega), List.append_assoc]
      rfl
    rw [hset] at S
    exact S.perm List.perm_middle.symm
  · have hie : i = t.regs.length := by omega
    rw [hie, List.drop_of_length_le (Nat.le_refl _), List.append_nil, List.take_of_length_le (by omega)] at S
    have S := S.perm (M := .row (.slice p9 t.regs.length cap9) 3 1 t.regs.length (ints m) :: (Lc t.regs.length ++ (.cell b4 zeroL 25 :: .cell b2 (tyL t p1 cap1) 25 :: M))) List.perm_middle
    have S := S.perm (M := .row (.slice p9 t.regs.length cap9) 3 1 t.regs.length (ints m) :: .cell b4 zeroL 25 :: .cell b2 (tyL t p1 cap1) 25 :: (Lc t.regs.length ++ M)) (List.Perm.cons _ (List.perm_middle.trans (List.Perm.cons _ List.perm_middle)))
    obtain ⟨s9, S, hsl, _, hab9⟩ := S.doneRow (l := m) (R := IntC) (sz := 1) ⟨by rw [ints_len, Nat.mul_one], fun j hj => by
      show _ = _
      rw [Nat.mul_one, ints, ← List.map_drop, ← List.map_take, List.drop_eq_getElem_cons hj]; rfl⟩ (by decide) (by omega)
    refine S.ldB (b := b2) ?_ rfl
    rw [show t.regs.length = m.length from hm.symm] at hsl ⊢
    refine c_types_Anew S.holds hv0.up (sl_ints hsl).up (by omega) fun v' sn w7 e7 n7 ht7 hc7 => ?_
    rw [anew_ok hB hm hlow] at ht7 hc7 ⊢
    obtain ⟨S, d7, a7⟩ := S.tell e7 n7
    have ht70 := ht7
    obtain ⟨p7, cap7, rfl, _⟩ := ht7
    (first | refine s_p ?_ | refine s_c (by omega) ?_)
    (first | refine s_p ?_ | refine s_c (by omega) ?_)
    refine S.stB (b := b2) fun w8 S => ?_
    refine S.ldB (b := b2) ?_ rfl
    refine S.stB (b := b4) fun w9 S => ?_
    refine S.ceB (b := b4) ?_ rfl
    have S := (S.tl.tl).to (r.or sn)
    exact h _ sn _ S a7 ht70 hc7
end Go.Proofs
end

section
namespace Go.Sh

/-- a cell of one's own, at the head -/
theorem StX.front {X : Nat → Prop} {w0 w : World} {r : Gh} {L M : List Asr} (S : StX X w0 r w L) (b : Nat) {c : List Value} {T : TypeId} [h : Pull b L c T M] : StX X w0 r w (.cell b c T :: M) := S.permO h.h.symm
end Go.Sh

namespace Go.Proofs

open Go.Sh

set_option maxRecDepth 100000

set_option linter.unusedSimpArgs false

set_option linter.unusedVariables false

theorem point_call {u : UnD} {g : GrD} {p : PtD} (h : pointG u g p = true) (ho : p.op = 7) : 0 ≤ p.fn ∧ p.fn < u.fs.length := by
  rw [pointG, Bool.and_eq_true] at h
  have h2 := h.2
  rw [ptG] at h2
  simp only [ho, Int.reduceEq, if_false, if_true, Bool.and_eq_true, decide_eq_true_eq] at h2
  exact ⟨h2.1.2.1, h2.1.2.2⟩
theorem numC_48 (t : TyD) : numC (regsT t) ≤ 48 := by
  have := (numC_le (regsT t)).2
  have : (regsT t).length ≤ 48 := by
    rw [regsT]; split
    · exact regs_le48 (by assumption)
    · simp
  omega
theorem locC_le (l : List TyD) : locC l ≤ 48 * l.length := by
  induction l with
  | nil => simp [locC]
  | cons t l ih => rw [locC, List.length_cons]; have := numC_48 t; omega
theorem MayU.ptN {u : UnD} (h : MayU u) {g : GrD} (hg : g ∈ u.fs) {p : PtD} (hp : p ∈ g.pts) : 0 ≤ Go.Proofs.ptN u p ∧ Go.Proofs.ptN u p ≤ 8 := by
  unfold Go.Proofs.ptN
  split
  · omega
  split
  · rename_i h7
    have hc := point_call (h.pts g hg p hp) h7
    rw [lvOf, List.getElem?_eq_getElem (show p.fn.toNat < u.fs.length by omega)]
    have := h.hd (show p.fn.toNat < u.fs.length by omega)
    exact ⟨this.lv0, this.lv8⟩
  · omega
theorem atC_le {u : UnD} {l : List PtD} (h : ∀ p ∈ l, ptN u p ≤ 8) : atC u l ≤ 8 * l.length := by
  induction l with
  | nil => simp [atC]
  | cons t l ih =>
    rw [atC, List.length_cons]
    have := h t List.mem_cons_self
    have := ih fun p hp => h p (List.mem_cons_of_mem _ hp)
    omega
abbrev rgL (lv pt ct : Int) (vl va : Value) : List Value := [.int .i64 lv, .int .i64 pt, .int .i64 ct, vl, va]
theorem c_region_all_1 {X : Nat → Prop} {w0 : World} {r : Gh} {b6 : Nat} {lv pt c : Int} {vl va : Value} {regs : List Int} (hc0 : 0 ≤ c) (hc1 : c ≤ 1000000) (hn : regs.length ≤ 1000000) :
    ∀ (i : Nat) (hi : i < regs.length) {M : List Asr} {w : World} {K : Value → World → Prop}, StX X w0 r w ([.cell b6 (rgL lv pt (c + numC (regs.take i)) vl va) 46] ++ M) →
      (∀ w', StX X w0 r w' ([.cell b6 (rgL lv pt (c + numC (regs.take (i + 1))) vl va) 46] ++ M) → K (.int .i64 ((numK regs c)[i]'(by rw [numK_len]; exact hi))) w') → oCallV Try.prog (.func (.func Try.n_region_all_1) #[] #[.pointer (some ⟨b6, 0, none⟩)]) #[.int .i64 regs[i]] w K := by
  intro i hi M w K S h
  refine v_f11 (by kernel_rfl) ?_
  refine Try.ok_region_all_1 ?_
  unfold Try.F_region_all_1
  have S : StX X w0 r w (.cell b6 (rgL lv pt (c + numC (regs.take i)) vl va) 46 :: M) := S
  have hk := numK_at (c := c) hi
  have ht := numC_take hi
  have hle := numC_le (regs.take i)
  rw [List.length_take] at hle
  rw [hk] at h
  refine j_intro (fun s w' => s = [.int .i64 (if regs[i] < 0 then c + numC (regs.take i) else regs[i])] ∧ StX X w0 r w' ([.cell b6 (rgL lv pt (c + numC (regs.take (i + 1))) vl va) 46] ++ M)) (fun K3 hK3 => ?_) ?_
  · (first | refine s_p ?_ | refine s_c (by omega) ?_)
    refine c_if (fun hlt => ?_) (fun hge => ?_)
    · (repeat (first | refine s_p ?_ | refine s_c (by omega) ?_ | refine S.ld ?_ | refine S.ldB ?_ | refine S.ce ?_ | refine S.ceB ?_ | refine s_q ?_ | refine s_qc (by omega) ?_ | refine n_some ?_ | rw [List.getD_cons_zero] | rw [List.getD_cons_succ]))
      refine S.st (b := b6) fun w2 S => ?_
      refine hK3 _ _ ⟨by rw [if_pos hlt], ?_⟩
      rw [ht, if_pos hlt, show c + (numC (regs.take i) + 1) = c + numC (regs.take i) + 1 by omega]
      exact S
    · refine hK3 _ _ ⟨by rw [if_neg hge], ?_⟩
      rw [ht, if_neg hge, Int.add_zero]
      exact S
  rintro _ w3 ⟨rfl, S⟩ d3
  rw [List.getD_cons_zero]
  exact h _ S
theorem rowOf_ints (l : List Int) : RowOf 1 IntC (ints l) l := ⟨by rw [ints_len, Nat.mul_one], fun j hj => by
  show _ = _
  rw [Nat.mul_one, ints, ← List.map_drop, ← List.map_take, List.drop_eq_getElem_cons hj]; rfl⟩
set_option maxHeartbeats 8000000 in
theorem c_region_all {u : UnD} {fn q : Int} {v : Value} {w : World} {r : Gh} {K : Value → World → Prop} (hr : Holds r w) (hu : UnG r v u)
    (h : ∀ v' s w', Ext w w' → New w s w' → RgG s v' (allT u fn q).1 → K (.tuple #[v', .int .i64 (allT u fn q).2]) w') : oCall Try.prog Try.n_region_all #[v, .int .i64 fn, .int .i64 q] w K := by
  have hu0 := hu
  obtain ⟨p0, cap0, vf, rfl, _, _, hst, hsl, hfn⟩ := hu
  obtain ⟨qf, capf, rfl, _, _⟩ := hfn.sl.shape
  have hfl : u.fs.length ≤ 9223372036854775807 := hfn.few
  refine Try.ok_region_all ?_
  unfold Try.F_region_all
  have S := St.start hr
  refine S.box fun b3 w1 S => ?_
  have S : StX noX w r w1 [.cell b3 [.slice p0 u.ss.length cap0, .slice qf u.fs.length capf, .int .i64 u.mn] 43] := S
  refine S.al fun b6 w2 S => ?_
  (first | refine s_p ?_ | refine s_c (by omega) ?_)
  refine j_borH (c := decide ((u.fs.length : Int) ≤ fn)) (fun _ K2 hK2 => ?_) ?_
  · (repeat (first | refine s_p ?_ | refine s_c (by omega) ?_ | refine S.ld ?_ | refine S.ldB ?_ | refine S.ce ?_ | refine S.ceB ?_ | refine s_q ?_ | refine s_qc (by omega) ?_ | refine n_some ?_ | rw [List.getD_cons_zero] | rw [List.getD_cons_succ]))
    exact hK2
  refine j_borE (c := !mayU u) (fun _ K2 hK2 => ?_) fun w3 e3 => ?_
  · refine S.ldB (b := b3) ?_ rfl
    refine c_graph_May S.holds hu0 fun w3 e3 => ?_
    (first | refine s_p ?_ | refine s_c (by omega) ?_)
    exact hK2 _ e3
  have S := S.go e3
  have hlen : ∀ {K9 : Value → World → Prop}, True := fun {_} => trivial
  refine j_borH (c := decide (((u.fs[fn.toNat]?.map fun g => (g.pts.length : Int)).getD 0) ≤ q)) (fun hb K2 hK2 => ?_) ?_
  · simp only [Bool.or_eq_false_iff, decide_eq_false_iff_not, Bool.not_eq_false'] at hb
    have hlt : fn.toNat < u.fs.length := by omega
    obtain ⟨bf, of, cf, rfl, hcf, hgc, hfo⟩ := hfn.sl.get (by decide) hlt
    rw [List.getElem?_eq_getElem hlt] at hK2
    obtain ⟨vo, vt, vn, vp, rfl, h1, h2, h3, h4⟩ := hgc
    obtain ⟨qp, capp, rfl, _, _⟩ := h4.sl.shape
    (repeat (first | refine s_p ?_ | refine s_c (by omega) ?_ | refine S.ld ?_ | refine S.ldB ?_ | refine S.ce ?_ | refine S.ceB ?_ | refine s_q ?_ | refine s_qc (by omega) ?_ | refine n_some ?_ | rw [List.getD_cons_zero] | rw [List.getD_cons_succ]))
    refine s_ld1 (v := .slice qp u.fs[fn.toNat].pts.length capp) (by simpa using S.at (hfo 6 _ rfl)) ?_
    (repeat (first | refine s_p ?_ | refine s_c (by omega) ?_ | refine S.ld ?_ | refine S.ldB ?_ | refine S.ce ?_ | refine S.ceB ?_ | refine s_q ?_ | refine s_qc (by omega) ?_ | refine n_some ?_ | rw [List.getD_cons_zero] | rw [List.getD_cons_succ]))
    exact hK2
  have hU : isU u fn q = !(((decide (fn < 0) || decide ((u.fs.length : Int) ≤ fn)) || !mayU u) || decide (((u.fs[fn.toNat]?.map fun g => (g.pts.length : Int)).getD 0) ≤ q)) := by
    rw [isU]
    generalize ((u.fs[fn.toNat]?.map fun g => (g.pts.length : Int)).getD 0) = n
    cases mayU u <;> by_cases h1 : fn < 0 <;> by_cases h2 : (u.fs.length : Int) ≤ fn <;> by_cases h3 : n ≤ q <;>
      simp [h1, h2, h3, Int.not_lt.2, Int.not_le.1, show (0 ≤ fn) = ¬ fn < 0 from propext (by omega), show (fn < (u.fs.length : Int)) = ¬ (u.fs.length : Int) ≤ fn from propext (by omega), show (q < n) = ¬ n ≤ q from propext (by omega)]
  cases hc : isU u fn q with
  | false =>
    have hT : allT u fn q = (zeroRg, 2) := by rw [allT, hc]; rfl
    rw [hc] at hU
    rw [hT] at h
    refine c_t (bn_f hU) ?_
    refine S.ldB (b := b6) ?_ rfl
    refine S.stB (b := b6) fun w4 S => ?_
    (repeat (first | refine s_p ?_ | refine s_c (by omega) ?_ | refine S.ld ?_ | refine S.ldB ?_ | refine S.ce ?_ | refine S.ceB ?_ | refine s_q ?_ | refine s_qc (by omega) ?_ | refine n_some ?_ | rw [List.getD_cons_zero] | rw [List.getD_cons_succ]))
    exact h _ nothing _ S.ext New.nothing RgG.zero
  | true =>
  rw [hc] at hU
  refine c_f (bn_t hU) ?_
  have hU := bn_t hU
  simp only [Bool.or_eq_false_iff, decide_eq_false_iff_not, Bool.not_eq_false'] at hU
  obtain ⟨⟨⟨hf0, hf1⟩, hmay⟩, hq⟩ := hU
  have hM := mayU_iff.1 hmay
  have hlt : fn.toNat < u.fs.length := by omega
  have hT : allT u fn q = (allD u u.fs[fn.toNat], 0) := by rw [allT, hc, List.getElem?_eq_getElem hlt]; rfl
  rw [hT] at h
  have hH := hM.hd hlt
  have hfin := hH.fine hM.ok
  have hptN := fun p hp => hM.ptN (List.getElem_mem hlt) (p := p) hp
  have hpts := hM.pts _ (List.getElem_mem hlt)
  obtain ⟨bf, of, cf, rfl, hcf, hgc, hfo⟩ := hfn.sl.get (by decide) hlt
  clear hq hT
  generalize u.fs[fn.toNat] = g at h hH hfin hptN hpts hgc
  obtain ⟨vo, vt, vn, vp, rfl, h1, h2, h3, h4⟩ := id hgc
  obtain ⟨qo, capo, rfl, _, _⟩ := h1.sl.shape
  obtain ⟨qt, capt, rfl, _, hct⟩ := h2.sl.shape
  obtain ⟨qn, capn, rfl, _, _⟩ := h3.sl.shape
  obtain ⟨qp, capp, rfl, _, _⟩ := h4.sl.shape
  obtain ⟨hlv0, hlv8, _, _, _, hty, _, htys, hp1, hp1024, _, _, _⟩ := hH
  (repeat (first | refine s_p ?_ | refine s_c (by omega) ?_ | refine S.ld ?_ | refine S.ldB ?_ | refine S.ce ?_ | refine S.ceB ?_ | refine s_q ?_ | refine s_qc (by omega) ?_ | refine n_some ?_ | rw [List.getD_cons_zero] | rw [List.getD_cons_succ]))
  refine s_ldN (n := 7) hcf (fun j v hj => S.at (hfo j v hj)) ?_
  refine S.al fun b8 w4 S => ?_
  refine S.stB (b := b8) fun w5 S => ?_
  have S := S.go (Ext.drew _)
  have S : StX noX w r w5.drew [.cell b8 [.string g.name, .int .i64 g.lv, .slice qo g.outs.length capo, .int .i64 g.pn, .slice qt g.tys.length capt, .slice qn g.nms.length capn, .slice qp g.pts.length capp] 53,
    .cell b6 (rgL 0 0 0 (.slice none 0 0) (.slice none 0 0)) 46, .cell b3 [.slice p0 u.ss.length cap0, .slice (some ⟨bf, of, none⟩) u.fs.length capf, .int .i64 u.mn] 43] := S
  refine j_intro (fun _ w' => StX noX w r w' [.cell b8 [.string g.name, .int .i64 g.lv, .slice qo g.outs.length capo, .int .i64 g.pn, .slice qt g.tys.length capt, .slice qn g.nms.length capn, .slice qp g.pts.length capp] 53,
    .cell b6 (rgL g.lv g.pts.length g.lv (.slice none 0 0) (.slice none 0 0)) 46, .cell b3 [.slice p0 u.ss.length cap0, .slice (some ⟨bf, of, none⟩) u.fs.length capf, .int .i64 u.mn] 43]) (fun K20 hK20 => ?_) ?_
  · repeat' (first
      | (first | refine s_p ?_ | refine s_c (by omega) ?_ | refine S.ld ?_ | refine S.ldB ?_ | refine S.ce ?_ | refine S.ceB ?_ | refine s_q ?_ | refine s_qc (by omega) ?_ | refine n_some ?_ | rw [List.getD_cons_zero] | rw [List.getD_cons_succ])
      | (refine S.st (b := b6) fun w6 S => ?_)
      | exact hK20 [] _ S
      | refine w_qE ?_
      | refine And.intro ?_ ?_)
  clear S
  rintro _ w6 S d6
  have S := S.swap
  have S := S.ownNil 25 5
  have S := S.swap
  (repeat (first | refine s_p ?_ | refine s_c (by omega) ?_ | refine S.ld ?_ | refine S.ldB ?_ | refine S.ce ?_ | refine S.ceB ?_ | refine s_q ?_ | refine s_qc (by omega) ?_ | refine n_some ?_ | rw [List.getD_cons_zero] | rw [List.getD_cons_succ]))
  refine l_intro (ι := Nat × Value × Gh × List Value) (fun i => [.int .i64 (i.1 : Nat)]) (fun i w' => i.1 ≤ g.tys.length ∧ RowOf 5 (TyC i.2.2.1) i.2.2.2 (locK (g.tys.take i.1) g.lv) ∧ Above w i.2.2.1 ∧
    StX noX w (r.or i.2.2.1) w' [.cell b6 (rgL g.lv g.pts.length (g.lv + locC (g.tys.take i.1)) i.2.1 (.slice none 0 0)) 46, .row i.2.1 25 5 i.1 i.2.2.2,
      .cell b8 [.string g.name, .int .i64 g.lv, .slice qo g.outs.length capo, .int .i64 g.pn, .slice qt g.tys.length capt, .slice qn g.nms.length capn, .slice qp g.pts.length capp] 53, .cell b3 [.slice p0 u.ss.length cap0, .slice (some ⟨bf, of, none⟩) u.fs.length capf, .int .i64 u.mn] 43]) (fun i => g.tys.length - i.1) (0, .slice none 0 0, nothing, []) rfl
    ⟨Nat.zero_le _, RowOf.nil, Above.no, by
      rw [List.take_zero, show g.lv + locC [] = g.lv by simp [locC]]; exact S.to (r.or nothing)⟩ ?_
  clear S
  rintro ⟨i, v, s, xs⟩ d w7 ⟨hi, hrow, hab, S⟩ K6 hK6
  simp only at hi hrow hab S ⊢
  rw [List.getD_cons_zero]
  (first | refine s_p ?_ | refine s_c (by omega) ?_)
  refine c_if (fun hlt2 => ?_) (fun hge => ?_)
  · have hlt2 : i < g.tys.length := by omega
    obtain ⟨bt, ot, ct, rfl, hct2, htc, hcell⟩ := h2.sl.get (by decide) hlt2
    obtain ⟨q2, cap2, rfl, ht2⟩ := ty_form htc
    have hfi : Fine u.ss g.tys[i] := hfin.all _ (List.getElem_mem hlt2)
    have hB := hfi.is hfin.few
    have hrT : regsT g.tys[i] = g.tys[i].regs := by rw [regsT, hB]; rfl
    have h48 := regs_le48 hB
    have hl0 := locC_pos (g.tys.take i)
    have hl1 := locC_le (g.tys.take i)
    rw [List.length_take] at hl1
    have hlow : ∀ x ∈ numK g.tys[i].regs (g.lv + locC (g.tys.take i)), -1 ≤ x := fun x hx => by
      obtain ⟨j, hj, rfl⟩ := List.getElem_of_mem hx
      rw [numK_len] at hj
      rw [numK_at hj]
      have := (numC_le (g.tys[i].regs.take j)).1
      split <;> omega
    obtain ⟨pv, capv, rfl, _, _, hxl, _⟩ := S.rowS v
    refine j_intro (fun _ w' => ∃ v' s' xs', RowOf 5 (TyC s') xs' (locK (g.tys.take (i + 1)) g.lv) ∧ Above w s' ∧ StX noX w (r.or s') w' [.cell b6 (rgL g.lv g.pts.length (g.lv + locC (g.tys.take (i + 1))) v' (.slice none 0 0)) 46, .row v' 25 5 (i + 1) xs',
      .cell b8 [.string g.name, .int .i64 g.lv, .slice qo g.outs.length capo, .int .i64 g.pn, .slice (some ⟨bt, ot, none⟩) g.tys.length capt, .slice qn g.nms.length capn, .slice qp g.pts.length capp] 53, .cell b3 [.slice p0 u.ss.length cap0, .slice (some ⟨bf, of, none⟩) u.fs.length capf, .int .i64 u.mn] 43]) (fun K87 hK87 => ?_) ?_
    rotate_left
    · clear S
      rintro _ w8 ⟨v', s', xs', hr', ha', S⟩ d8
      (first | refine s_p ?_ | refine s_c (by omega) ?_)
      rw [show ((i : Int) + 1) = ((i + 1 : Nat) : Int) by omega]
      exact hK6 (i + 1, v', s', xs') _ ⟨hlt2, hr', ha', S⟩ (by show g.tys.length - (i + 1) < g.tys.length - i; omega)
    (first | refine s_p ?_ | refine s_c (by omega) ?_)
    refine s_ldN (n := 5) hct2 (fun j v hj => by rw [Int.toNat_natCast]; exact S.at (hcell j v hj)) ?_
    refine S.al fun b10 w8 S => ?_
    refine S.stB (b := b10) fun w9 S => ?_
    have S := S.go (Ext.drew _)
    (repeat (first | refine s_p ?_ | refine s_c (by omega) ?_ | refine S.ld ?_ | refine S.ldB ?_ | refine S.ce ?_ | refine S.ceB ?_ | refine s_q ?_ | refine s_qc (by omega) ?_ | refine n_some ?_ | rw [List.getD_cons_zero] | rw [List.getD_cons_succ]))
    have hsnoc := locK_snoc (c := g.lv) hlt2
    have htak := locC_take hlt2
    rw [hrT] at hsnoc htak
    have hcall : ∀ {M : List Asr} {w9 : World} {K9 : Value → World → Prop}, StX noX w (r.or s) w9 (.cell b6 (rgL g.lv g.pts.length (g.lv + locC (g.tys.take i)) (.slice pv i capv) (.slice none 0 0)) 46 :: M) →
        (∀ q' cap' sn w', StX noX w ((r.or s).or sn) w' (.cell b6 (rgL g.lv g.pts.length (g.lv + locC (g.tys.take (i + 1))) (.slice pv i capv) (.slice none 0 0)) 46 :: M) → Above w (s.or sn) →
          RowOf 5 (TyC (s.or sn)) (xs ++ tyL (g.tys[i].lay (numK g.tys[i].regs (g.lv + locC (g.tys.take i)))) q' cap') (locK (g.tys.take (i + 1)) g.lv) → K9 (tyV (g.tys[i].lay (numK g.tys[i].regs (g.lv + locC (g.tys.take i)))) q' cap') w') →
        oCall Try.prog Try.n_region_turned #[tyV g.tys[i] q2 cap2, .func (.func Try.n_region_all_1) #[] #[.pointer (some ⟨b6, 0, none⟩)]] w9 K9 := by
      intro M w9 K9 S hk
      refine c_region_turned (Lc := fun j => [.cell b6 (rgL g.lv g.pts.length (g.lv + locC (g.tys.take i) + numC (g.tys[i].regs.take j)) (.slice pv i capv) (.slice none 0 0)) 46]) (M := M) (m := numK g.tys[i].regs (g.lv + locC (g.tys.take i))) hB (numK_len _ _) hlow
        (c_region_all_1 (by omega) (by omega) (by omega)) (by
          show StX _ _ _ _ (.cell b6 (rgL _ _ (_ + numC (List.take 0 _)) _ _) _ :: M)
          rw [List.take_zero, show numC [] = 0 from rfl, Int.add_zero]; exact S) ht2.up fun v' sn w' S ha ht hc => ?_
      obtain ⟨q', cap', rfl, _⟩ := id ht
      refine hk q' cap' sn w' ?_ (hab.or' ha) ?_
      · rw [htak, ← Int.add_assoc]
        have S : StX noX w ((r.or s).or sn) w' (.cell b6 (rgL g.lv g.pts.length (g.lv + locC (g.tys.take i) + numC (g.tys[i].regs.take g.tys[i].regs.length)) (.slice pv i capv) (.slice none 0 0)) 46 :: M) := S
        rw [List.take_length] at S
        exact S
      · rw [hsnoc]
        exact (hrow.mono fun c x hx => TyG.up hx).snoc rfl (TyG.up ht)
    have hS := S
    repeat' (first
      | (first | refine s_p ?_ | refine s_c (by omega) ?_ | refine S.ld ?_ | refine S.ldB ?_ | refine S.ce ?_ | refine S.ceB ?_ | refine s_q ?_ | refine s_qc (by omega) ?_ | refine n_some ?_ | rw [List.getD_cons_zero] | rw [List.getD_cons_succ])
      | (rw [show 0 + ((i : Nat) : Int).toNat * 5 = i * 5 by omega])
      | (refine S.litU (e := 25) (cs := zeroL) (by kernel_rfl) fun b33 w33 S => ?_)
      | (refine hcall (S.front b6) fun q' cap' sn w34 S ha9 hr9 => ?_)
      | (refine S.ap (m' := 1) (Sl.blk (S.blk b33)) (fun v9 w35 S => ?_) (by omega); obtain ⟨p9, cap9, rfl, _⟩ := S.rowS v9; obtain ⟨b9, rfl⟩ := S.row0N (p := p9) (n := i + 1) (cap := cap9) trivial (by omega))
      | (refine S.stRowN (i := i) (b := b9) (n := i + 1) (cap := cap9) (by omega) fun w36 S => ?_; rw [fill_last hxl rfl] at S)
      | (refine S.st (b := b6) fun w37 S => ?_)
      | exact hK87 [] _ ⟨_, _, _, hr9, ha9, ((S.drop b33).drop b10).reGh⟩
      | refine w_qE ?_
      | refine And.intro ?_ ?_)
  have hie : i = g.tys.length := by omega
  subst hie
  rw [List.take_length] at hrow S
  have S := S.swap
  obtain ⟨s2, S, hsl2, _, hab2⟩ := S.doneRow hrow (by decide) (by rw [locK_len])
  have hab2 : Above w s2 := fun b o ho => (hab2 b o ho).resolve_right id
  have hloc := locC_pos g.tys
  have hloc2 := locC_le g.tys
  clear hK6 K6 hge hi
  have S := S.ownNil 3 1
  have S := S.swap
  (repeat (first | refine s_p ?_ | refine s_c (by omega) ?_ | refine S.ld ?_ | refine S.ldB ?_ | refine S.ce ?_ | refine S.ceB ?_ | refine s_q ?_ | refine s_qc (by omega) ?_ | refine n_some ?_ | rw [List.getD_cons_zero] | rw [List.getD_cons_succ]))
  generalize hbase : g.lv + locC g.tys = base at S
  refine l_intro (ι := Nat × Value) (fun i => [.int .i64 (i.1 : Nat)]) (fun i w' => i.1 ≤ g.pts.length ∧
    StX noX w ((r.or s).or s2) w' [.cell b6 (rgL g.lv g.pts.length (base + atC u (g.pts.take i.1)) v i.2) 46, .row i.2 3 1 i.1 (ints (atK u (g.pts.take i.1) base)),
      .cell b8 [.string g.name, .int .i64 g.lv, .slice qo g.outs.length capo, .int .i64 g.pn, .slice qt g.tys.length capt, .slice qn g.nms.length capn, .slice qp g.pts.length capp] 53, .cell b3 [.slice p0 u.ss.length cap0, .slice (some ⟨bf, of, none⟩) u.fs.length capf, .int .i64 u.mn] 43]) (fun i => g.pts.length - i.1) (0, .slice none 0 0) rfl
    ⟨Nat.zero_le _, by
      rw [List.take_zero, show base + atC u [] = base by simp [atC]]; exact S⟩ ?_
  clear S
  rintro ⟨i, va⟩ d w8 ⟨hi, S⟩ K7 hK7
  simp only at hi S ⊢
  rw [List.getD_cons_zero]
  have ha0 := atC_part (u := u) (l := g.pts) (fun p hp => (hptN p hp).1) i
  have ha1 := atC_le (u := u) (l := g.pts) fun p hp => (hptN p hp).2
  (first | refine s_p ?_ | refine s_c (by omega) ?_)
  refine c_if (fun hlt2 => ?_) (fun hge => ?_)
  · have hlt2 : i < g.pts.length := by omega
    obtain ⟨bp, op, cp, rfl, hcp, hpc, hcell⟩ := h4.sl.get (by decide) hlt2
    have hN := hptN g.pts[i] (List.getElem_mem hlt2)
    have hpt := hpts g.pts[i] (List.getElem_mem hlt2)
    have hsn := atK_snoc (u := u) (c := base) hlt2
    have htk := atC_take (u := u) hlt2
    (first | refine s_p ?_ | refine s_c (by omega) ?_)
    refine s_ldN (n := 21) hcp (fun j v hj => by rw [Int.toNat_natCast]; exact S.at (hcell j v hj)) ?_
    generalize g.pts[i] = p at hpc hN hpt hsn htk
    obtain ⟨vto, vaa, vb, vl, vfr, rfl, k1, k2, k3, k4, k5⟩ := hpc
    obtain ⟨_, _, rfl, _⟩ := k1.sl.shape
    obtain ⟨_, _, rfl, _⟩ := k2.sl.shape
    obtain ⟨_, _, rfl, _⟩ := k3.sl.shape
    obtain ⟨_, _, rfl, _⟩ := k4.sl.shape
    obtain ⟨_, _, rfl, _⟩ := k5.sl.shape
    refine S.al fun b12 w9 S => ?_
    refine S.stB (b := b12) fun w10 S => ?_
    refine j_intro (fun s w' => s = [.int .i64 (ptN u p)] ∧ w' = w10) (fun K9 hK9 => ?_) ?_
    · (repeat (first | refine s_p ?_ | refine s_c (by omega) ?_ | refine S.ld ?_ | refine S.ldB ?_ | refine S.ce ?_ | refine S.ceB ?_ | refine s_q ?_ | refine s_qc (by omega) ?_ | refine n_some ?_ | rw [List.getD_cons_zero] | rw [List.getD_cons_succ]))
      refine c_if (fun ho => ?_) (fun ho => ?_)
      · refine hK9 _ _ ⟨by rw [ptN, if_pos ho], rfl⟩
      (repeat (first | refine s_p ?_ | refine s_c (by omega) ?_ | refine S.ld ?_ | refine S.ldB ?_ | refine S.ce ?_ | refine S.ceB ?_ | refine s_q ?_ | refine s_qc (by omega) ?_ | refine n_some ?_ | rw [List.getD_cons_zero] | rw [List.getD_cons_succ]))
      refine c_if (fun ho2 => ?_) (fun ho2 => ?_)
      · have hcc := point_call hpt ho2
        have hlt3 : p.fn.toNat < u.fs.length := by omega
        obtain ⟨bf2, of2, cf2, hbe, hcf2, hgc2, hfo2⟩ := hfn.sl.get (by decide) hlt3
        cases hbe
        obtain ⟨vo', vt', vn', vp', rfl, _⟩ := hgc2
        (repeat (first | refine s_p ?_ | refine s_c (by omega) ?_ | refine S.ld ?_ | refine S.ldB ?_ | refine S.ce ?_ | refine S.ceB ?_ | refine s_q ?_ | refine s_qc (by omega) ?_ | refine n_some ?_ | rw [List.getD_cons_zero] | rw [List.getD_cons_succ]))
        refine s_ld1 (v := .int .i64 u.fs[p.fn.toNat].lv) (by simpa using S.at (hfo2 1 _ rfl)) ?_
        refine hK9 _ _ ⟨by rw [ptN, if_neg ho, if_pos ho2, lvOf, List.getElem?_eq_getElem hlt3], rfl⟩
      · exact hK9 _ _ ⟨by rw [ptN, if_neg ho, if_neg ho2], rfl⟩
    rintro _ w10 ⟨rfl, rfl⟩ d10
    (repeat (first | refine s_p ?_ | refine s_c (by omega) ?_ | refine S.ld ?_ | refine S.ldB ?_ | refine S.ce ?_ | refine S.ceB ?_ | refine s_q ?_ | refine s_qc (by omega) ?_ | refine n_some ?_ | rw [List.getD_cons_zero] | rw [List.getD_cons_succ]))
    refine j_intro (fun s w' => s = [.int .i64 (if ptN u p = 0 then -1 else base + atC u (g.pts.take i))] ∧ w' = w10) (fun K9 hK9 => ?_) ?_
    · (repeat (first | refine s_p ?_ | refine s_c (by omega) ?_ | refine S.ld ?_ | refine S.ldB ?_ | refine S.ce ?_ | refine S.ceB ?_ | refine s_q ?_ | refine s_qc (by omega) ?_ | refine n_some ?_ | rw [List.getD_cons_zero] | rw [List.getD_cons_succ]))
      refine c_if (fun ho => ?_) (fun ho => ?_)
      · exact hK9 _ _ ⟨by rw [if_pos ho], rfl⟩
      · exact hK9 _ _ ⟨by rw [if_neg ho], rfl⟩
    rintro _ w10 ⟨rfl, rfl⟩ d11
    obtain ⟨pa, capa, rfl, _, _, hxl, _⟩ := S.rowS va
    (repeat (first | refine s_p ?_ | refine s_c (by omega) ?_ | refine S.ld ?_ | refine S.ldB ?_ | refine S.ce ?_ | refine S.ceB ?_ | refine s_q ?_ | refine s_qc (by omega) ?_ | refine n_some ?_ | rw [List.getD_cons_zero] | rw [List.getD_cons_succ]))
    refine S.lit (e := 3) (cs := [.int .i64 (if ptN u p = 0 then -1 else base + atC u (g.pts.take i))]) (by kernel_rfl) fun b13 w11 S => ?_
    refine S.ap (m' := 1) (Sl.blk (S.blk b13)) (fun v13 w12 S => ?_) (by omega)
    have hv1 := S.row1 v13
    (repeat (first | refine s_p ?_ | refine s_c (by omega) ?_ | refine S.ld ?_ | refine S.ldB ?_ | refine S.ce ?_ | refine S.ceB ?_ | refine s_q ?_ | refine s_qc (by omega) ?_ | refine n_some ?_ | rw [List.getD_cons_zero] | rw [List.getD_cons_succ]))
    refine S.st (b := b6) (h1 := hv1) fun w13 S => ?_
    (repeat (first | refine s_p ?_ | refine s_c (by omega) ?_ | refine S.ld ?_ | refine S.ldB ?_ | refine S.ce ?_ | refine S.ceB ?_ | refine s_q ?_ | refine s_qc (by omega) ?_ | refine n_some ?_ | rw [List.getD_cons_zero] | rw [List.getD_cons_succ]))
    refine S.st (b := b6) fun w14 S => ?_
    (repeat (first | refine s_p ?_ | refine s_c (by omega) ?_ | refine S.ld ?_ | refine S.ldB ?_ | refine S.ce ?_ | refine S.ceB ?_ | refine s_q ?_ | refine s_qc (by omega) ?_ | refine n_some ?_ | rw [List.getD_cons_zero] | rw [List.getD_cons_succ]))
    rw [show ((i : Int) + 1) = ((i + 1 : Nat) : Int) by omega]
    refine hK7 (i + 1, v13) _ ⟨hlt2, ?_⟩ (by show g.pts.length - (i + 1) < g.pts.length - i; omega)
    have hins : ints (atK u (g.pts.take i) base) ++ [.int .i64 (if ptN u p = 0 then -1 else base + atC u (g.pts.take i))] = ints (atK u (g.pts.take (i + 1)) base) := by rw [hsn, ints, ints, List.map_append]; rfl
    rw [hins] at S
    have S := (S.drop b13).drop b12
    rw [htk, ← Int.add_assoc]
    exact S
  have hie : i = g.pts.length := by omega
  subst hie
  rw [List.take_length] at S
  have S := S.swap
  obtain ⟨s3, S, hsl3, _, hab3⟩ := S.doneRow (l := atK u g.pts base) (R := IntC) (sz := 1) (rowOf_ints _) (by decide) (by rw [atK_len])
  have hab3 : Above w s3 := fun b o ho => (hab3 b o ho).resolve_right id
  obtain ⟨_, _, rfl, _⟩ := hsl2.shape
  obtain ⟨_, _, rfl, _⟩ := hsl3.shape
  (repeat (first | refine s_p ?_ | refine s_c (by omega) ?_ | refine S.ld ?_ | refine S.ldB ?_ | refine S.ce ?_ | refine S.ceB ?_ | refine s_q ?_ | refine s_qc (by omega) ?_ | refine n_some ?_ | rw [List.getD_cons_zero] | rw [List.getD_cons_succ]))
  refine S.stB (b := b6) fun w15 S => ?_
  (repeat (first | refine s_p ?_ | refine s_c (by omega) ?_ | refine S.ld ?_ | refine S.ldB ?_ | refine S.ce ?_ | refine S.ceB ?_ | refine s_q ?_ | refine s_qc (by omega) ?_ | refine n_some ?_ | rw [List.getD_cons_zero] | rw [List.getD_cons_succ]))
  have hle : Le ((s.or s2).or s3) (((r.or s).or s2).or s3) := ⟨fun b o ho => by
    rcases ho with (ho | ho) | ho
    · exact .inl (.inl (.inr ho))
    · exact .inl (.inr ho)
    · exact .inr ho⟩
  refine h _ ((s.or s2).or s3) _ S.ext (S.newOf ((hab.or' hab2).or' hab3)) ⟨_, _, ?_, hsl2.up' (s := (s.or s2).or s3) inferInstance fun c x hx => TyG.up hx, by rw [show (allD u g).at' = atK u g.pts base by rw [← hbase]; rfl]; exact hsl3.cells⟩
  rw [← hbase]; rfl
end Go.Proofs
end

section
namespace Go.Proofs

open Go.Sh

set_option maxRecDepth 100000

set_option linter.unusedSimpArgs false

set_option linter.unusedVariables false

theorem RgG.shape {r : Gh} {v : Value} {d : RgD} (h : RgG r v d) : ∃ q1 c1 q2 c2, v = .agg (rgL d.lv d.pt d.ct (.slice q1 d.tys.length c1) (.slice q2 d.at'.length c2)).toArray ∧ SlG 5 r (TyC r) (.slice q1 d.tys.length c1) d.tys ∧ SlG 1 r IntC (.slice q2 d.at'.length c2) d.at' := by
  obtain ⟨vl, va, rfl, h1, h2⟩ := h
  obtain ⟨q1, c1, rfl, _⟩ := h1.shape
  obtain ⟨q2, c2, rfl, _⟩ := h2.shape
  exact ⟨q1, c1, q2, c2, rfl, h1, h2⟩
abbrev rgZ : List Value := rgL 0 0 0 (.slice none 0 0) (.slice none 0 0)
theorem c_region_few {d : RgD} {e : Int} {v : Value} {w : World} {r : Gh} {K : Value → World → Prop} (hr : Holds r w) (hd : RgG r v d)
    (h : ∀ v' w', Ext w w' → RgG r v' (fewT (d, e)).1 → K (.tuple #[v', .int .i64 (fewT (d, e)).2]) w') : oCall Try.prog Try.n_region_few #[v, .int .i64 e] w K := by
  refine Try.ok_region_few ?_
  unfold Try.F_region_few
  have hd0 := hd
  obtain ⟨q1, c1, q2, c2, rfl, h1, h2⟩ := hd.shape
  have S := St.start hr
  refine S.box fun b2 w1 S => ?_
  have S : StX noX w r w1 [.cell b2 (rgL d.lv d.pt d.ct (.slice q1 d.tys.length c1) (.slice q2 d.at'.length c2)) 46] := S
  refine S.al fun b4 w2 S => ?_
  have S : StX noX w r w2 [.cell b4 rgZ 46, .cell b2 (rgL d.lv d.pt d.ct (.slice q1 d.tys.length c1) (.slice q2 d.at'.length c2)) 46] := S
  refine j_intro (fun s w' => s = [.int .i64 (fewT (d, e)).2] ∧ w' = w2) (fun K3 hK3 => ?_) ?_
  · (first | refine s_p ?_ | refine s_c (by omega) ?_)
    refine j_bandH (c := decide (512 < d.ct)) (fun _ K2 hK2 => ?_) ?_
    · (repeat (first | refine s_p ?_ | refine s_c (by omega) ?_ | refine S.ld ?_ | refine S.ldB ?_ | refine S.ce ?_ | refine S.ceB ?_ | refine s_q ?_ | refine s_qc (by omega) ?_ | refine n_some ?_ | rw [List.getD_cons_zero] | rw [List.getD_cons_succ]))
      exact hK2
    refine c_b (fun hb => ?_) (fun hb => ?_)
    · have hb : e = 0 ∧ 512 < d.ct := by simpa using hb
      refine hK3 _ _ ⟨?_, rfl⟩
      rw [fewT, if_pos hb.1, if_pos hb.2]
    · refine hK3 _ _ ⟨?_, rfl⟩
      rw [fewT]
      by_cases he : e = 0
      · rw [if_pos he, if_neg (by rw [decide_eq_true he, Bool.true_and, decide_eq_false_iff_not] at hb; exact hb)]
      · rw [if_neg he]
  rintro _ w2 ⟨rfl, rfl⟩ d3
  (repeat (first | refine s_p ?_ | refine s_c (by omega) ?_ | refine S.ld ?_ | refine S.ldB ?_ | refine S.ce ?_ | refine S.ceB ?_ | refine s_q ?_ | refine s_qc (by omega) ?_ | refine n_some ?_ | rw [List.getD_cons_zero] | rw [List.getD_cons_succ]))
  have hf : fewT (d, e) = if (fewT (d, e)).2 = 0 then (d, 0) else (zeroRg, (fewT (d, e)).2) := by
    unfold fewT
    by_cases he : e = 0
    · by_cases hc : 512 < d.ct
      · simp [he, hc]
      · simp [he, hc]
    · simp [he]
  generalize (fewT (d, e)).2 = x at hf
  refine c_if (fun hne => ?_) (fun heq => ?_)
  · rw [if_neg hne] at hf
    rw [hf] at h
    refine p_build (cs := rgZ.toArray) (by kernel_rfl) ?_
    refine S.stB (b := b4) fun w3 S => ?_
    refine S.ceB (b := b4) ?_ rfl
    exact h _ _ S.ext RgG.zero
  · have heq : x = 0 := by omega
    rw [if_pos heq] at hf
    rw [hf] at h
    refine S.ldB (b := b2) ?_ rfl
    refine S.stB (b := b4) fun w3 S => ?_
    refine S.ceB (b := b4) ?_ rfl
    rw [heq]
    exact h _ _ S.ext hd0
theorem c_region_Of {u : UnD} {fn : Int} {v : Value} {w : World} {r : Gh} {K : Value → World → Prop} (hr : Holds r w) (hu : UnG r v u)
    (h : ∀ v' s w', Ext w w' → New w s w' → RgG s v' (fewT (allT u fn (-1))).1 → K (.tuple #[v', .int .i64 (fewT (allT u fn (-1))).2]) w') : oCall Try.prog Try.n_region_Of #[v, .int .i64 fn] w K := by
  refine Try.ok_region_Of ?_
  unfold Try.F_region_Of
  have hu0 := hu
  obtain ⟨p0, cap0, vf, rfl, _, _, hst, hsl, hfn⟩ := hu
  obtain ⟨qf, capf, rfl, _, _⟩ := hfn.sl.shape
  have S := St.start hr
  refine S.box fun b2 w1 S => ?_
  refine S.al fun b4 w2 S => ?_
  refine S.ldB (b := b2) ?_ rfl
  refine c_region_all S.holds hu0 fun v3 s w3 e3 n3 h3 => ?_
  obtain ⟨S, d3, a3⟩ := S.tell e3 n3
  (repeat (first | refine s_p ?_ | refine s_c (by omega) ?_))
  refine c_region_few (r := s) (S.holds.le (h := inferInstance)) h3 fun v4 w4 e4 h4 => ?_
  have S := S.go e4
  obtain ⟨q1, c1, q2, c2, rfl, _, _⟩ := h4.shape
  (repeat (first | refine s_p ?_ | refine s_c (by omega) ?_))
  refine S.stB (b := b4) fun w5 S => ?_
  refine S.ceB (b := b4) ?_ rfl
  exact h _ s _ S.ext (S.newOf a3) h4
theorem c_region_Width {d : RgD} {v : Value} {w : World} {r : Gh} {K : Value → World → Prop} (hr : Holds r w) (hd : RgG r v d) (hb : 0 ≤ d.pt ∧ d.pt ≤ 1000000 ∧ 0 ≤ d.lv ∧ d.lv ≤ 1000000)
    (h : ∀ w', Ext w w' → K (.int .i64 (d.pt + d.lv)) w') : oCall Try.prog Try.n_region_Width #[v] w K := by
  refine Try.ok_region_Width ?_
  unfold Try.F_region_Width
  obtain ⟨q1, c1, q2, c2, rfl, h1, h2⟩ := hd.shape
  have S := St.start hr
  refine S.box fun b2 w1 S => ?_
  have S : StX noX w r w1 [.cell b2 (rgL d.lv d.pt d.ct (.slice q1 d.tys.length c1) (.slice q2 d.at'.length c2)) 46] := S
  (repeat (first | refine s_p ?_ | refine s_c (by omega) ?_ | refine S.ld ?_ | refine S.ldB ?_ | refine S.ce ?_ | refine S.ceB ?_ | refine s_q ?_ | refine s_qc (by omega) ?_ | refine n_some ?_ | rw [List.getD_cons_zero] | rw [List.getD_cons_succ]))
  exact h _ S.ext
/-! ### Facts of what is numbered -/

theorem isU_spec {u : UnD} {fn q : Int} (h : isU u fn q = true) : MayU u ∧ 0 ≤ fn ∧ ∃ hlt : fn.toNat < u.fs.length, q < u.fs[fn.toNat].pts.length ∧ allT u fn q = (allD u u.fs[fn.toNat], 0) := by
  have h0 := h
  rw [isU] at h
  simp only [Bool.and_eq_true, decide_eq_true_eq] at h
  obtain ⟨⟨h1, h2⟩, h3, h4⟩ := h
  have hlt : fn.toNat < u.fs.length := by omega
  rw [List.getElem?_eq_getElem hlt] at h4
  exact ⟨mayU_iff.1 h3, h1, hlt, h4, by rw [allT, if_pos h0, List.getElem?_eq_getElem hlt]⟩
theorem isU_no {u : UnD} {fn q : Int} (h : isU u fn q = false) : allT u fn q = (zeroRg, 2) := by rw [allT, h]; rfl
theorem allD_len {u : UnD} {g : GrD} : (allD u g).tys.length = g.tys.length ∧ (allD u g).at'.length = g.pts.length := ⟨locK_len _ _, atK_len _ _ _⟩
/-! ### Place -/

noncomputable def rgPlace (u : UnD) (fn : Int) (p : PlD) : TyD × Int :=
  if (allT u fn (-1)).2 ≠ 0 ∨ (placeW u.ss (allT u fn (-1)).1.tys p) = none then (zeroD, 2)
  else if (fewT (allT u fn (-1))).2 ≠ 0 then (zeroD, (fewT (allT u fn (-1))).2) else placeR u.ss (allT u fn (-1)).1.tys p
theorem allT_tys {u : UnD} {fn q : Int} : (allT u fn q).1.tys.length ≤ 512 := by
  cases hc : isU u fn q with
  | false => rw [isU_no hc]; exact Nat.zero_le _
  | true =>
    obtain ⟨hM, _, hlt, _, hT⟩ := isU_spec hc
    rw [hT, show (allD u u.fs[fn.toNat], (0 : Int)).1 = allD u u.fs[fn.toNat] from rfl, allD_len.1]
    exact (hM.hd hlt).ty512
theorem c_region_Place {u : UnD} {fn : Int} {p : PlD} {c : List Value} {v : Value} {w : World} {r : Gh} {K : Value → World → Prop} (hr : Holds r w) (hu : UnG r v u) (hp : PlG r c p)
    (h : ∀ v' sn w', Ext w w' → New w sn w' → TyG sn v' (rgPlace u fn p).1 → ChnG sn v' (rgPlace u fn p).1 → K (.tuple #[v', .int .i64 (rgPlace u fn p).2]) w') : oCall Try.prog Try.n_region_Place #[v, .int .i64 fn, .agg c.toArray] w K := by
  refine Try.ok_region_Place ?_
  unfold Try.F_region_Place
  have hu0 := hu
  obtain ⟨p0, cap0, vf, rfl, _, _, hst, hsl, hfn⟩ := hu
  obtain ⟨qf, capf, rfl, _, _⟩ := hfn.sl.shape
  obtain ⟨vq, rfl, hl⟩ := id hp
  obtain ⟨qs, caps, rfl, _, _⟩ := hl.sl.shape
  have S := St.start hr
  refine S.box fun b3 w1 S => ?_
  have S : StX noX w r w1 [.cell b3 [.slice p0 u.ss.length cap0, .slice qf u.fs.length capf, .int .i64 u.mn] 43] := S
  refine S.box fun b5 w2 S => ?_
  have S : StX noX w r w2 [.cell b5 [.int .i64 p.l, .slice qs p.ps.length caps] 58, .cell b3 [.slice p0 u.ss.length cap0, .slice qf u.fs.length capf, .int .i64 u.mn] 43] := S
  refine S.al fun b6 w3 S => ?_
  refine S.ldB (b := b3) ?_ rfl
  refine c_region_all S.holds hu0 fun v3 s w4 e4 n4 h4 => ?_
  obtain ⟨S, d4, a4⟩ := S.tell e4 n4
  have htl : (allT u fn (-1)).1.tys.length ≤ maxLen := by have := allT_tys (u := u) (fn := fn) (q := -1); simp only [maxLen]; omega
  generalize hA : allT u fn (-1) = A at h4 htl
  obtain ⟨rd, e⟩ := A
  simp only at h4 htl
  have h40 := h4
  obtain ⟨q1, c1, q2, c2, rfl, g1, g2⟩ := h4.shape
  have hz : rgPlace u fn p = if e ≠ 0 ∨ placeW u.ss rd.tys p = none then (zeroD, 2) else if (fewT (rd, e)).2 ≠ 0 then (zeroD, (fewT (rd, e)).2) else placeR u.ss rd.tys p := by rw [rgPlace, hA]
  rw [hz] at h
  (repeat (first | refine s_p ?_ | refine s_c (by omega) ?_))
  refine S.al fun b8 w5 S => ?_
  refine S.stB (b := b8) fun w6 S => ?_
  (first | refine s_p ?_ | refine s_c (by omega) ?_)
  refine j_borE (c := !(placeW u.ss rd.tys p).isSome) (fun _ K2 hK2 => ?_) fun w7 e7 => ?_
  · (first | refine s_p ?_ | refine s_c (by omega) ?_)
    refine S.ld (b := b3) ?_ rfl
    (first | refine s_p ?_ | refine s_c (by omega) ?_)
    refine S.ld (b := b8) ?_ rfl
    refine S.ldB (b := b5) ?_ rfl
    refine c_place_May S.holds hst.up (sl_tysG g1).up htl ⟨_, rfl, hl.cells⟩ fun w7 e7 => ?_
    (first | refine s_p ?_ | refine s_c (by omega) ?_)
    exact hK2 _ e7
  have S := S.go e7
  refine c_b (fun hb => ?_) (fun hb => ?_)
  · rw [if_pos (by
      simp only [Bool.or_eq_true, decide_eq_true_eq, Bool.not_eq_true', Option.isSome_eq_false_iff, Option.isNone_iff_eq_none] at hb
      exact hb)] at h
    refine p_build (cs := #[.int .u8 0, .bool false, .int .i64 0, .int .i64 0, .slice none 0 0]) (by kernel_rfl) ?_
    refine S.stB (b := b6) fun w8 S => ?_
    (repeat (first | refine s_p ?_ | refine s_c (by omega) ?_ | refine S.ld ?_ | refine S.ldB ?_ | refine S.ce ?_ | refine S.ceB ?_ | refine s_q ?_ | refine s_qc (by omega) ?_ | refine n_some ?_ | rw [List.getD_cons_zero] | rw [List.getD_cons_succ]))
    exact h _ nothing _ S.ext New.nothing ty_leaf .nil
  rw [if_neg (by
      simp only [Bool.or_eq_false_iff, decide_eq_false_iff_not, Bool.not_eq_false', Option.isSome_iff_ne_none] at hb
      rintro (h1 | h1)
      · exact hb.1 h1
      · exact hb.2 h1)] at h
  refine S.ldB (b := b8) ?_ rfl
  refine c_region_few (r := s) (S.holds.le (h := inferInstance)) h40 fun v8 w8 e8 h8 => ?_
  have S := S.go e8
  obtain ⟨q3, c3, q4, c4, rfl, _, _⟩ := h8.shape
  (repeat (first | refine s_p ?_ | refine s_c (by omega) ?_))
  refine c_if (fun hne => ?_) (fun heq => ?_)
  · rw [if_pos hne] at h
    refine p_build (cs := #[.int .u8 0, .bool false, .int .i64 0, .int .i64 0, .slice none 0 0]) (by kernel_rfl) ?_
    refine S.stB (b := b6) fun w8 S => ?_
    (repeat (first | refine s_p ?_ | refine s_c (by omega) ?_ | refine S.ld ?_ | refine S.ldB ?_ | refine S.ce ?_ | refine S.ceB ?_ | refine s_q ?_ | refine s_qc (by omega) ?_ | refine n_some ?_ | rw [List.getD_cons_zero] | rw [List.getD_cons_succ]))
    exact h _ nothing _ S.ext New.nothing ty_leaf .nil
  · rw [if_neg heq] at h
    (first | refine s_p ?_ | refine s_c (by omega) ?_)
    refine S.ld (b := b3) ?_ rfl
    (first | refine s_p ?_ | refine s_c (by omega) ?_)
    refine S.ld (b := b8) ?_ rfl
    refine S.ldB (b := b5) ?_ rfl
    refine c_place_Type S.holds hst.up (sl_tysG g1).up htl ⟨_, rfl, hl.cells⟩ fun v9 sn w9 e9 n9 t9 c9 => ?_
    obtain ⟨S, d9, a9⟩ := S.tell e9 n9
    have t90 := t9
    obtain ⟨p9, cap9, rfl, _⟩ := t9
    (repeat (first | refine s_p ?_ | refine s_c (by omega) ?_))
    refine S.stB (b := b6) fun w10 S => ?_
    (repeat (first | refine s_p ?_ | refine s_c (by omega) ?_ | refine S.ld ?_ | refine S.ldB ?_ | refine S.ce ?_ | refine S.ceB ?_ | refine s_q ?_ | refine s_qc (by omega) ?_ | refine n_some ?_ | rw [List.getD_cons_zero] | rw [List.getD_cons_succ]))
    exact h _ sn _ S.ext (S.newOf a9) t90 c9
/-! ### A point of a kind -/

def zeroPl : PlD := ⟨0, []⟩
def zeroO : OpD := ⟨0, 0, zeroPl⟩
def zeroPt : PtD := ⟨0, zeroPl, zeroO, zeroO, [], ByteArray.empty, zeroPl, false, 0, 0, 0, 0, 0⟩
abbrev zeroPtL : List Value := [.int .u8 0, .int .i64 0, .slice none 0 0, .int .u8 0, .int .i64 0, .int .i64 0, .slice none 0 0, .int .u8 0, .int .i64 0, .int .i64 0, .slice none 0 0, .slice none 0 0, .string ByteArray.empty, .int .i64 0, .slice none 0 0, .bool false, .int .i64 0, .int .i64 0, .int .i64 0, .int .i64 0, .int .i64 0]
theorem slB_nil {α : Type} {sz : Nat} {r : Gh} {R : List Value → α → Prop} : SlB sz r R (.slice none 0 0) ([] : List α) := ⟨SlG.nil, Nat.zero_le _⟩
theorem zeroPt_G {r : Gh} : PtG r zeroPtL zeroPt := ⟨_, _, _, _, _, rfl, slB_nil, slB_nil, slB_nil, slB_nil, slB_nil⟩
abbrev ptL (p : PtD) (q1 q2 q3 q4 q5 : Option Addr) (c1 c2 c3 c4 c5 : Nat) : List Value := [.int .u8 p.op, .int .i64 p.to.l, .slice q1 p.to.ps.length c1, .int .u8 p.a.k, .int .i64 p.a.n, .int .i64 p.a.pl.l, .slice q2 p.a.pl.ps.length c2, .int .u8 p.b.k, .int .i64 p.b.n, .int .i64 p.b.pl.l, .slice q3 p.b.pl.ps.length c3, .slice q4 p.args.length c4,
  .string p.sign, .int .i64 p.fr.l, .slice q5 p.fr.ps.length c5, .bool p.mu, .int .i64 p.fn, .int .i64 p.st, .int .i64 p.nx, .int .i64 p.el, .int .i64 p.tx]
theorem pt_form {r : Gh} {c : List Value} {p : PtD} (h : PtG r c p) : ∃ q1 q2 q3 q4 q5 c1 c2 c3 c4 c5, c = ptL p q1 q2 q3 q4 q5 c1 c2 c3 c4 c5 ∧ PtG r (ptL p q1 q2 q3 q4 q5 c1 c2 c3 c4 c5) p := by
  obtain ⟨vto, va, vb, vl, vfr, rfl, k1, k2, k3, k4, k5⟩ := id h
  obtain ⟨q1, c1, rfl, _⟩ := k1.sl.shape
  obtain ⟨q2, c2, rfl, _⟩ := k2.sl.shape
  obtain ⟨q3, c3, rfl, _⟩ := k3.sl.shape
  obtain ⟨q4, c4, rfl, _⟩ := k4.sl.shape
  obtain ⟨q5, c5, rfl, _⟩ := k5.sl.shape
  exact ⟨q1, q2, q3, q4, q5, c1, c2, c3, c4, c5, rfl, h⟩
/-- the error of an asked point -/
noncomputable def atE (u : UnD) (fn q op : Int) : Int :=
  if q < 0 then 2 else if (fewT (allT u fn q)).2 ≠ 0 then (fewT (allT u fn q)).2
  else match u.fs[fn.toNat]?.bind fun g => g.pts[q.toNat]? with | some p => if p.op ≠ op then 130 else 0 | none => 2
theorem few_ok {x : RgD × Int} (h : (fewT x).2 = 0) : x.2 = 0 ∧ (fewT x).1 = x.1 ∧ x.1.ct ≤ 512 := by
  unfold fewT at h ⊢
  split at h
  · rename_i h1
    split at h
    · cases h
    · rename_i h2; rw [if_pos h1, if_neg h2]; exact ⟨h1, rfl, by omega⟩
  · rename_i h1; exact absurd h h1
set_option maxHeartbeats 1000000 in
theorem c_region_at {u : UnD} {fn q op : Int} {v : Value} {w : World} {r : Gh} {K : Value → World → Prop} (hr : Holds r w) (hu : UnG r v u)
    (h : ∀ v' d cp p s w', Ext w w' → New w s w' → RgG s v' d → PtG r cp p → (atE u fn q op = 0 → isU u fn q = true ∧ 0 ≤ q ∧ d = (allT u fn q).1 ∧ (u.fs[fn.toNat]?.bind fun g => g.pts[q.toNat]?) = some p ∧ p.op = op ∧ d.ct ≤ 512) → K (.tuple #[v', .agg cp.toArray, .int .i64 (atE u fn q op)]) w') :
    oCall Try.prog Try.n_region_at #[v, .int .i64 fn, .int .i64 q, .int .u8 op] w K := by
  refine Try.ok_region_at ?_
  unfold Try.F_region_at
  have hu0 := hu
  obtain ⟨p0, cap0, vf, rfl, _, _, hst, hsl, hfn⟩ := hu
  obtain ⟨qf, capf, rfl, _, _⟩ := hfn.sl.shape
  have S := St.start hr
  refine S.box fun b4 w1 S => ?_
  have S : StX noX w r w1 [.cell b4 [.slice p0 u.ss.length cap0, .slice qf u.fs.length capf, .int .i64 u.mn] 43] := S
  refine S.al fun b8 w2 S => ?_
  refine S.al fun b9 w3 S => ?_
  have S : StX noX w r w3 [.cell b9 zeroPtL 64, .cell b8 rgZ 46, .cell b4 [.slice p0 u.ss.length cap0, .slice qf u.fs.length capf, .int .i64 u.mn] 43] := S
  (first | refine s_p ?_ | refine s_c (by omega) ?_)
  refine c_if (fun hq => ?_) (fun hq => ?_)
  · have hE : atE u fn q op = 2 := by rw [atE, if_pos hq]
    rw [hE] at h
    refine p_build (cs := rgZ.toArray) (by kernel_rfl) ?_
    refine p_build (cs := zeroPtL.toArray) (by kernel_rfl) ?_
    refine S.stB (b := b8) fun w4 S => ?_
    refine S.stB (b := b9) fun w5 S => ?_
    refine S.ceB (b := b8) ?_ rfl
    refine S.ceB (b := b9) ?_ rfl
    exact h _ zeroRg _ zeroPt nothing _ S.ext New.nothing RgG.zero zeroPt_G fun h => by cases h
  refine S.ldB (b := b4) ?_ rfl
  refine c_region_all S.holds hu0 fun v3 s w4 e4 n4 h4 => ?_
  obtain ⟨S, d4, a4⟩ := S.tell e4 n4
  (repeat (first | refine s_p ?_ | refine s_c (by omega) ?_))
  refine c_region_few (r := s) (S.holds.le (h := inferInstance)) h4 fun v5 w5 e5 h5 => ?_
  have S := S.go e5
  have h50 := h5
  have hfe : (fewT ((allT u fn q).1, (allT u fn q).2)) = fewT (allT u fn q) := rfl
  rw [hfe] at h5 h50 ⊢
  have hE : atE u fn q op = if (fewT (allT u fn q)).2 ≠ 0 then (fewT (allT u fn q)).2 else match u.fs[fn.toNat]?.bind fun g => g.pts[q.toNat]? with | some p => if p.op ≠ op then 130 else 0 | none => 2 := by rw [atE, if_neg hq]
  obtain ⟨q1, c1, q2, c2, rfl, g1, g2⟩ := h5.shape
  (repeat (first | refine s_p ?_ | refine s_c (by omega) ?_))
  refine S.al fun b11 w6 S => ?_
  refine S.stB (b := b11) fun w7 S => ?_
  (first | refine s_p ?_ | refine s_c (by omega) ?_)
  refine c_if (fun hne => ?_) (fun heq => ?_)
  · rw [if_pos hne] at hE
    rw [hE] at h
    refine S.ldB (b := b11) ?_ rfl
    refine p_build (cs := zeroPtL.toArray) (by kernel_rfl) ?_
    refine S.stB (b := b8) fun w4 S => ?_
    refine S.stB (b := b9) fun w5 S => ?_
    refine S.ceB (b := b8) ?_ rfl
    refine S.ceB (b := b9) ?_ rfl
    exact h _ _ _ zeroPt s _ S.ext (S.newOf a4) h50 zeroPt_G fun h => absurd h hne
  have heq : (fewT (allT u fn q)).2 = 0 := by omega
  obtain ⟨ha0, ha1, ha2⟩ := few_ok heq
  cases hc : isU u fn q with
  | false => rw [isU_no hc] at ha0; cases ha0
  | true =>
  obtain ⟨hM, hf0, hlt, hql, hT⟩ := isU_spec hc
  rw [if_neg (by omega), List.getElem?_eq_getElem hlt, Option.bind_some, List.getElem?_eq_getElem (show q.toNat < u.fs[fn.toNat].pts.length by omega)] at hE
  obtain ⟨bf, of, cf, rfl, hcf, hgc, hfo⟩ := hfn.sl.get (by decide) hlt
  have hpt2 : u.fs[fn.toNat]?.bind (fun g => g.pts[q.toNat]?) = some (u.fs[fn.toNat].pts[q.toNat]'(by omega)) := by
    rw [List.getElem?_eq_getElem hlt, Option.bind_some, List.getElem?_eq_getElem]
  rw [hpt2] at h
  obtain ⟨vo, vt, vn, vp, rfl, _, _, _, k4⟩ := hgc
  obtain ⟨qp, capp, rfl, _, _⟩ := k4.sl.shape
  obtain ⟨bp, op', cp, rfl, hcp, hpc, hpo⟩ := k4.sl.get (by decide) (show q.toNat < u.fs[fn.toNat].pts.length by omega)
  generalize u.fs[fn.toNat].pts[q.toNat]'(by omega) = p at h hE hpc
  dsimp only at hE
  (repeat (first | refine s_p ?_ | refine s_c (by omega) ?_ | refine S.ld ?_ | refine S.ldB ?_ | refine S.ce ?_ | refine S.ceB ?_ | refine s_q ?_ | refine s_qc (by omega) ?_ | refine n_some ?_ | rw [List.getD_cons_zero] | rw [List.getD_cons_succ]))
  refine s_ld1 (v := .slice (some ⟨bp, op', none⟩) u.fs[fn.toNat].pts.length capp) (by simpa using S.at (hfo 6 _ rfl)) ?_
  (repeat (first | refine s_p ?_ | refine s_c (by omega) ?_ | refine S.ld ?_ | refine S.ldB ?_ | refine S.ce ?_ | refine S.ceB ?_ | refine s_q ?_ | refine s_qc (by omega) ?_ | refine n_some ?_ | rw [List.getD_cons_zero] | rw [List.getD_cons_succ]))
  refine s_ldN (n := 21) hcp (fun j v hj => S.at (hpo j v hj)) ?_
  obtain ⟨x1, x2, x3, x4, x5, y1, y2, y3, y4, y5, rfl, _⟩ := pt_form hpc
  refine S.al fun b13 w8 S => ?_
  refine S.stB (b := b13) fun w9 S => ?_
  refine j_intro (fun s w' => s = [.int .i64 (atE u fn q op)] ∧ w' = w9) (fun K9 hK9 => ?_) ?_
  · rw [hE] at hK9
    (repeat (first | refine s_p ?_ | refine s_c (by omega) ?_ | refine S.ld ?_ | refine S.ldB ?_ | refine S.ce ?_ | refine S.ceB ?_ | refine s_q ?_ | refine s_qc (by omega) ?_ | refine n_some ?_ | rw [List.getD_cons_zero] | rw [List.getD_cons_succ]))
    refine c_if (fun ho => ?_) (fun ho => ?_)
    · exact hK9 _ _ ⟨by rw [if_pos ho], rfl⟩
    · exact hK9 _ _ ⟨by rw [heq, if_neg ho], rfl⟩
  rintro _ w9 ⟨rfl, rfl⟩ d9
  have S := S.go (Ext.drew _)
  have fin : ∀ {w9 : World}, StX noX w (r.or s) w9 [.cell b13 (ptL p x1 x2 x3 x4 x5 y1 y2 y3 y4 y5) 64, .cell b11 (rgL (fewT (allT u fn q)).1.lv (fewT (allT u fn q)).1.pt (fewT (allT u fn q)).1.ct (.slice q1 (fewT (allT u fn q)).1.tys.length c1) (.slice q2 (fewT (allT u fn q)).1.at'.length c2)) 46,
      .cell b9 (ptL p x1 x2 x3 x4 x5 y1 y2 y3 y4 y5) 64, .cell b8 (rgL (fewT (allT u fn q)).1.lv (fewT (allT u fn q)).1.pt (fewT (allT u fn q)).1.ct (.slice q1 (fewT (allT u fn q)).1.tys.length c1) (.slice q2 (fewT (allT u fn q)).1.at'.length c2)) 46,
      .cell b4 [.slice p0 u.ss.length cap0, .slice (some ⟨bf, of, none⟩) u.fs.length capf, .int .i64 u.mn] 43] →
      K (.tuple #[.agg (rgL (fewT (allT u fn q)).1.lv (fewT (allT u fn q)).1.pt (fewT (allT u fn q)).1.ct (.slice q1 (fewT (allT u fn q)).1.tys.length c1) (.slice q2 (fewT (allT u fn q)).1.at'.length c2)).toArray, .agg (ptL p x1 x2 x3 x4 x5 y1 y2 y3 y4 y5).toArray, .int .i64 (atE u fn q op)]) w9 := fun S =>
    h _ _ _ p s _ S.ext (S.newOf a4) h50 hpc fun hz => ⟨hc, by omega, ha1, rfl, (by
      rw [hE] at hz
      by_cases ho : p.op = op
      · exact ho
      · rw [if_pos ho] at hz; cases hz), by rw [ha1]; exact ha2⟩
  repeat' (first
    | (first | refine s_p ?_ | refine s_c (by omega) ?_ | refine S.ld ?_ | refine S.ldB ?_ | refine S.ce ?_ | refine S.ceB ?_ | refine s_q ?_ | refine s_qc (by omega) ?_ | refine n_some ?_ | rw [List.getD_cons_zero] | rw [List.getD_cons_succ])
    | (refine S.stB (b := b8) fun w10 S => ?_)
    | (refine S.stB (b := b9) fun w10 S => ?_)
    | (refine S.ldB (b := b13) ?_ rfl)
    | exact fin S
    | refine w_qE ?_
    | refine And.intro ?_ ?_)
end Go.Proofs
end

section
namespace Go.Proofs

open Go.Sh

set_option maxRecDepth 100000

set_option linter.unusedSimpArgs false

set_option linter.unusedVariables false

/-- the point that is asked -/
def ptAt (u : UnD) (fn q : Int) : Option PtD := u.fs[fn.toNat]?.bind fun g => g.pts[q.toNat]?
noncomputable def borT (u : UnD) (fn q : Int) : TyD × Int :=
  if atE u fn q 4 ≠ 0 then (zeroD, atE u fn q 4)
  else match ptAt u fn q with
    | some p => (.mk 4 p.mu (atL (allT u fn q).1.at' q) 0 [(placeR u.ss (allT u fn q).1.tys p.fr).1], (placeR u.ss (allT u fn q).1.tys p.fr).2)
    | none => (zeroD, 2)
theorem at_get {u : UnD} {fn q : Int} (hc : isU u fn q = true) (hq : 0 ≤ q) : ∃ hl : q.toNat < (allT u fn q).1.at'.length, (allT u fn q).1.at'[q.toNat] = atL (allT u fn q).1.at' q := by
  obtain ⟨hM, hf0, hlt, hql, hT⟩ := isU_spec hc
  have hl : q.toNat < (allT u fn q).1.at'.length := by rw [hT, show (allD u u.fs[fn.toNat], (0 : Int)).1 = allD u u.fs[fn.toNat] from rfl, allD_len.2]; omega
  exact ⟨hl, by rw [atL, List.getD_eq_getElem?_getD, List.getElem?_eq_getElem hl]; rfl⟩
set_option maxHeartbeats 1000000 in
theorem c_region_Borrowed {u : UnD} {fn q : Int} {v : Value} {w : World} {r : Gh} {K : Value → World → Prop} (hr : Holds r w) (hu : UnG r v u)
    (h : ∀ v' s w', Ext w w' → New w s w' → TyG s v' (borT u fn q).1 → K (.tuple #[v', .int .i64 (borT u fn q).2]) w') : oCall Try.prog Try.n_region_Borrowed #[v, .int .i64 fn, .int .i64 q] w K := by
  refine Try.ok_region_Borrowed ?_
  unfold Try.F_region_Borrowed
  have hu0 := hu
  obtain ⟨p0, cap0, vf, rfl, _, _, hst, hsl, hfn⟩ := hu
  obtain ⟨qf, capf, rfl, _, _⟩ := hfn.sl.shape
  have S := St.start hr
  refine S.box fun b3 w1 S => ?_
  have S : StX noX w r w1 [.cell b3 [.slice p0 u.ss.length cap0, .slice qf u.fs.length capf, .int .i64 u.mn] 43] := S
  refine S.al fun b6 w2 S => ?_
  refine S.ldB (b := b3) ?_ rfl
  refine c_region_at S.holds hu0 fun v3 d cp p s w3 e3 n3 hd hp hz => ?_
  obtain ⟨S, d3, a3⟩ := S.tell e3 n3
  obtain ⟨q1, c1, q2, c2, rfl, g1, g2⟩ := hd.shape
  obtain ⟨x1, x2, x3, x4, x5, y1, y2, y3, y4, y5, rfl, hp0⟩ := pt_form hp
  have hB : borT u fn q = if atE u fn q 4 ≠ 0 then (zeroD, atE u fn q 4) else match ptAt u fn q with
    | some p => (.mk 4 p.mu (atL (allT u fn q).1.at' q) 0 [(placeR u.ss (allT u fn q).1.tys p.fr).1], (placeR u.ss (allT u fn q).1.tys p.fr).2)
    | none => (zeroD, 2) := rfl
  generalize atE u fn q 4 = e at hz hB
  (repeat (first | refine s_p ?_ | refine s_c (by omega) ?_))
  refine S.al fun b8 w4 S => ?_
  refine S.al fun b9 w5 S => ?_
  refine S.stB (b := b8) fun w6 S => ?_
  refine S.stB (b := b9) fun w7 S => ?_
  (first | refine s_p ?_ | refine s_c (by omega) ?_)
  refine c_if (fun hne => ?_) (fun heq => ?_)
  · rw [if_pos hne] at hB
    rw [hB] at h
    refine p_build (cs := #[.int .u8 0, .bool false, .int .i64 0, .int .i64 0, .slice none 0 0]) (by kernel_rfl) ?_
    refine S.stB (b := b6) fun w8 S => ?_
    (repeat (first | refine s_p ?_ | refine s_c (by omega) ?_ | refine S.ld ?_ | refine S.ldB ?_ | refine S.ce ?_ | refine S.ceB ?_ | refine s_q ?_ | refine s_qc (by omega) ?_ | refine n_some ?_ | rw [List.getD_cons_zero] | rw [List.getD_cons_succ]))
    exact h _ nothing _ S.ext New.nothing ty_leaf
  have heq : e = 0 := by omega
  obtain ⟨hc, hq0, rfl, hpt, hop, _⟩ := hz heq
  have hpt : ptAt u fn q = some p := hpt
  rw [if_neg (by omega), hpt] at hB
  dsimp only at hB
  rw [hB] at h
  have htl : (allT u fn q).1.tys.length ≤ maxLen := by have := allT_tys (u := u) (fn := fn) (q := q); simp only [maxLen]; omega
  obtain ⟨hal, hat⟩ := at_get hc hq0
  obtain ⟨_, _, _, _, _, _, hpf⟩ := id hp0
  obtain ⟨_, _, _, _, h5⟩ := (show _ ∧ _ ∧ _ ∧ _ ∧ _ from by
    obtain ⟨_, _, _, _, _, hE, k1, k2, k3, k4, k5⟩ := hp0
    cases hE
    exact ⟨k1, k2, k3, k4, k5⟩)
  (first | refine s_p ?_ | refine s_c (by omega) ?_)
  refine S.ld (b := b3) ?_ rfl
  (first | refine s_p ?_ | refine s_c (by omega) ?_)
  refine S.ld (b := b8) ?_ rfl
  (first | refine s_p ?_ | refine s_c (by omega) ?_)
  refine S.ldN (b := b9) ?_
  refine c_place_Type S.holds hst.up (sl_tysG g1).up htl (p := p.fr) ⟨_, rfl, h5.cells⟩ fun v9 sn w9 e9 n9 t9 c9 => ?_
  obtain ⟨S, d9, a9⟩ := S.tell e9 n9
  have t90 := t9
  obtain ⟨p9, cap9, rfl, _⟩ := t9
  (repeat (first | refine s_p ?_ | refine s_c (by omega) ?_))
  refine S.al fun b11 w10 S => ?_
  refine S.stB (b := b11) fun w11 S => ?_
  have S := S.go (Ext.drew _)
  obtain ⟨ba, oa, ca, hqa, hca, hcc, hcell⟩ := g2.get (by decide) hal
  subst hqa
  obtain rfl : ca = _ := hcc
  (repeat (first | refine s_p ?_ | refine s_c (by omega) ?_ | refine S.ld ?_ | refine S.ldB ?_ | refine S.ce ?_ | refine S.ceB ?_ | refine s_q ?_ | refine s_qc (by omega) ?_ | refine n_some ?_ | rw [List.getD_cons_zero] | rw [List.getD_cons_succ]))
  refine s_ld1 (v := .int .i64 (atL (allT u fn q).1.at' q)) (by rw [← hat]; simpa using S.at (hcell 0 _ rfl)) ?_
  (repeat (first | refine s_p ?_ | refine s_c (by omega) ?_ | refine S.ld ?_ | refine S.ldB ?_ | refine S.ce ?_ | refine S.ceB ?_ | refine s_q ?_ | refine s_qc (by omega) ?_ | refine n_some ?_ | rw [List.getD_cons_zero] | rw [List.getD_cons_succ]))
  refine S.litU (ty_lit (c := tyL (placeR u.ss (allT u fn q).1.tys p.fr).1 p9 cap9) t90) fun b12 w12 S => ?_
  refine p_build (cs := #[.int .u8 4, .bool p.mu, .int .i64 (atL (allT u fn q).1.at' q), .int .i64 0, .slice (some ⟨b12, 0, none⟩) 1 1]) (by kernel_rfl) ?_
  refine S.stB (b := b6) fun w13 S => ?_
  refine S.ceB (b := b6) ?_ rfl
  have hm := S.mine (.cell b12 (tyL (placeR u.ss (allT u fn q).1.tys p.fr).1 p9 cap9) 25) (by simp) b12 rfl
  have S := (S.frzAt b12).reGh
  refine h _ (sn.or (one b12 (tyL (placeR u.ss (allT u fn q).1.tys p.fr).1 p9 cap9) 25)) _ S.ext (S.newOf ?_) (ty_one t90)
  rintro b o (hb | ⟨rfl, _⟩)
  · exact a9 b o hb
  · exact hm.1.resolve_right id
/-! ### Called -/

def instT (a : Int) (t : TyD) : TyD := t.lay ((regsT t).map fun k => a + k)
theorem c_Called_1 {t : TyD} {a q : Int} {b5 b9 : Nat} {c9 : List Value} {l : List Int} {p2 : Option Addr} {cp2 : Nat} {v : Value} {w : World} {r : Gh} {K : Value → World → Prop} (hB : isB t = true) (hreg : ∀ x ∈ t.regs, 0 ≤ x ∧ x < 8) (ha : t.regs ≠ [] → 0 ≤ a ∧ a ≤ 1000)
    (h9 : Ob r fun w => Blk w b9 c9 46) (hc9 : c9[4]? = some (.slice p2 l.length cp2)) (h5 : Ob r fun w => Blk w b5 [.int .i64 q] 3) (hl : SlG 1 r IntC (.slice p2 l.length cp2) l) (hq0 : 0 ≤ q) (hq : q.toNat < l.length) (hqa : l[q.toNat] = a)
    (hr : Holds r w) (hv : TyG r v t) (h : ∀ v' sn w', Ext w w' → New w sn w' → TyG sn v' (instT a t) → K v' w') :
    oCallV Try.prog (.func (.func Try.n_region_Called_1) #[] #[.pointer (some ⟨b9, 0, none⟩), .pointer (some ⟨b5, 0, none⟩)]) #[v] w K := by
  refine v_f12 (by kernel_rfl) ?_
  refine Try.ok_region_Called_1 ?_
  unfold Try.F_region_Called_1
  have hv0 := hv
  obtain ⟨p1, cap1, rfl, _⟩ := hv
  have S := St.start hr
  refine S.box fun b1 w1 S => ?_
  have S : StX noX w r w1 [.cell b1 (tyL t p1 cap1) 25] := S
  refine S.al fun b4 w2 S => ?_
  refine S.ldB (b := b1) ?_ rfl
  (first | refine s_p ?_ | refine s_c (by omega) ?_)
  have hrT : regsT t = t.regs := by rw [regsT, hB]; rfl
  refine c_region_turned (Lc := fun _ => []) (m := t.regs.map fun k => a + k) hB (List.length_map ..) (fun x hx => ?_) (fun i hi {M w K} S h => ?_) (M := [.cell b4 zeroL 25, .cell b1 (tyL t p1 cap1) 25]) S hv0 fun v' sn w3 S a3 ht hc => ?_
  · obtain ⟨k, hk, rfl⟩ := List.mem_map.1 hx
    have := hreg k hk
    have := ha (List.ne_nil_of_mem hk)
    omega
  · refine v_f12 (by kernel_rfl) ?_
    refine Try.ok_region_Called_1_1 ?_
    unfold Try.F_region_Called_1_1
    have hk := hreg _ (List.getElem_mem hi)
    have hak := ha (List.ne_nil_of_mem (List.getElem_mem hi))
    obtain ⟨ba, oa, ca, hpa, hca, hcc, hcell⟩ := hl.get (by decide) hq
    subst hpa
    obtain rfl : ca = _ := hcc
    (first | refine s_p ?_ | refine s_c (by omega) ?_)
    refine s_ld1 (v := .slice (some ⟨ba, oa, none⟩) l.length cp2) (by rw [(S.at h9).cell]; exact hc9) ?_
    refine s_ld1 (v := .int .i64 q) (by rw [(S.at h5).cell]; rfl) ?_
    (first | refine s_p ?_ | refine s_c (by omega) ?_)
    refine s_ld1 (v := .int .i64 a) (by rw [← hqa]; simpa using S.at (hcell 0 _ rfl)) ?_
    (first | refine s_p ?_ | refine s_c (by omega) ?_)
    have := h _ S
    rw [List.getElem_map] at this
    exact this
  have ht0 := ht
  obtain ⟨p3, cap3, rfl, _⟩ := ht
  have S : StX noX w (r.or sn) w3 [.cell b4 zeroL 25, .cell b1 (tyL t p1 cap1) 25] := S
  refine S.stB (b := b4) fun w4 S => ?_
  refine S.ceB (b := b4) ?_ rfl
  refine h _ sn _ S.ext (S.newOf a3) ?_
  rw [instT, hrT]; exact ht0
/-- what a Call asks and answers -/
noncomputable def calT (u : UnD) (fn q : Int) : List TyD × TyD × Int :=
  if atE u fn q 7 ≠ 0 then ([], zeroD, atE u fn q 7)
  else match ptAt u fn q with
    | some p => match u.fs[p.fn.toNat]? with
      | some f => (((f.tys.drop 1).take f.pn.toNat).map (instT (atL (allT u fn q).1.at' q)), instT (atL (allT u fn q).1.at' q) (f.tys.headD zeroD), 0)
      | none => ([], zeroD, 2)
    | none => ([], zeroD, 2)
theorem ptAt_mem {u : UnD} {fn q : Int} {p : PtD} (hlt : fn.toNat < u.fs.length) (h : ptAt u fn q = some p) : ∃ hq : q.toNat < u.fs[fn.toNat].pts.length, u.fs[fn.toNat].pts[q.toNat] = p := by
  rw [ptAt, List.getElem?_eq_getElem hlt, Option.bind_some] at h
  exact List.getElem?_eq_some_iff.1 h
/-- the first region of a point's own -/
theorem at_low {u : UnD} {fn q : Int} {p : PtD} (hc : isU u fn q = true) (hq : 0 ≤ q) (hp : ptAt u fn q = some p) (hn : ptN u p ≠ 0) : 0 ≤ atL (allT u fn q).1.at' q ∧ atL (allT u fn q).1.at' q + ptN u p ≤ (allT u fn q).1.ct := by
  obtain ⟨hM, hf0, hlt, hql, hT⟩ := isU_spec hc
  obtain ⟨hql', rfl⟩ := ptAt_mem hlt hp
  obtain ⟨hl, ha⟩ := at_get hc hq
  have hN := fun p hp => hM.ptN (List.getElem_mem hlt) (p := p) hp
  have hH := hM.hd hlt
  have e1 : (allT u fn q).1 = allD u u.fs[fn.toNat] := by rw [hT]
  rw [← ha]
  have e2 : (allT u fn q).1.at' = atK u u.fs[fn.toNat].pts (u.fs[fn.toNat].lv + locC u.fs[fn.toNat].tys) := by rw [e1]; rfl
  have e3 : (allT u fn q).1.at'[q.toNat] = u.fs[fn.toNat].lv + locC u.fs[fn.toNat].tys + atC u (u.fs[fn.toNat].pts.take q.toNat) := by
    simp only [e2]
    rw [atK_at hql', if_neg hn]
  rw [e3, e1]
  have h1 := atC_part (u := u) (l := u.fs[fn.toNat].pts) (fun p hp => (hN p hp).1) q.toNat
  have h2 := atC_part (u := u) (l := u.fs[fn.toNat].pts) (fun p hp => (hN p hp).1) (q.toNat + 1)
  rw [atC_take hql'] at h2
  have h3 := locC_pos u.fs[fn.toNat].tys
  have h4 := hH.lv0
  show _ ∧ _ ≤ u.fs[fn.toNat].lv + locC u.fs[fn.toNat].tys + atC u u.fs[fn.toNat].pts
  omega
set_option maxHeartbeats 2000000 in
theorem c_region_Called {u : UnD} {fn q : Int} {v : Value} {w : World} {r : Gh} {K : Value → World → Prop} (hr : Holds r w) (hu : UnG r v u)
    (h : ∀ vl v' s w', Ext w w' → New w s w' → SlG 5 s (TyC s) vl (calT u fn q).1 → TyG s v' (calT u fn q).2.1 → K (.tuple #[vl, v', .int .i64 (calT u fn q).2.2]) w') : oCall Try.prog Try.n_region_Called #[v, .int .i64 fn, .int .i64 q] w K := by
  refine Try.ok_region_Called ?_
  unfold Try.F_region_Called
  have hu0 := hu
  obtain ⟨p0, cap0, vf, rfl, _, _, hst, hsl, hfn⟩ := hu
  obtain ⟨qf, capf, rfl, _, _⟩ := hfn.sl.shape
  have S := St.start hr
  refine S.box fun b3 w1 S => ?_
  have S : StX noX w r w1 [.cell b3 [.slice p0 u.ss.length cap0, .slice qf u.fs.length capf, .int .i64 u.mn] 43] := S
  refine S.box fun b5 w2 S => ?_
  have S : StX noX w r w2 [.cell b5 [.int .i64 q] 3, .cell b3 [.slice p0 u.ss.length cap0, .slice qf u.fs.length capf, .int .i64 u.mn] 43] := S
  refine S.al fun b7 w2 S => ?_
  refine S.ldB (b := b3) ?_ rfl
  refine S.ld (b := b5) ?_ rfl
  refine c_region_at S.holds hu0 fun v3 d cp p s w3 e3 n3 hd hp hz => ?_
  obtain ⟨S, d3, a3⟩ := S.tell e3 n3
  obtain ⟨q1, c1, q2, c2, rfl, g1, g2⟩ := hd.shape
  obtain ⟨x1, x2, x3, x4, x5, y1, y2, y3, y4, y5, rfl, hp0⟩ := pt_form hp
  have hB : calT u fn q = if atE u fn q 7 ≠ 0 then ([], zeroD, atE u fn q 7) else match ptAt u fn q with
    | some p => match u.fs[p.fn.toNat]? with
      | some f => (((f.tys.drop 1).take f.pn.toNat).map (instT (atL (allT u fn q).1.at' q)), instT (atL (allT u fn q).1.at' q) (f.tys.headD zeroD), 0)
      | none => ([], zeroD, 2)
    | none => ([], zeroD, 2) := rfl
  generalize atE u fn q 7 = e at hz hB
  (repeat (first | refine s_p ?_ | refine s_c (by omega) ?_))
  refine S.al fun b9 w4 S => ?_
  refine S.al fun b10 w5 S => ?_
  refine S.stB (b := b9) fun w6 S => ?_
  refine S.stB (b := b10) fun w7 S => ?_
  (first | refine s_p ?_ | refine s_c (by omega) ?_)
  refine c_if (fun hne => ?_) (fun heq => ?_)
  · rw [if_pos hne] at hB
    rw [hB] at h
    have S := S.go (Ext.drew _)
    refine S.ldB (b := b7) ?_ rfl
    refine S.stB (b := b7) fun w8 S => ?_
    (repeat (first | refine s_p ?_ | refine s_c (by omega) ?_ | refine S.ld ?_ | refine S.ldB ?_ | refine S.ce ?_ | refine S.ceB ?_ | refine s_q ?_ | refine s_qc (by omega) ?_ | refine n_some ?_ | rw [List.getD_cons_zero] | rw [List.getD_cons_succ]))
    exact h _ _ nothing _ S.ext New.nothing SlG.nil ty_leaf
  have heq : e = 0 := by omega
  obtain ⟨hc, hq0, rfl, hpt, hop, hct⟩ := hz heq
  have hpt : ptAt u fn q = some p := hpt
  obtain ⟨hM, hf0, hlt, hql, hT⟩ := isU_spec hc
  obtain ⟨hql', hpm⟩ := ptAt_mem hlt hpt
  have hpc := point_call (hM.pts _ (List.getElem_mem hlt) p (by rw [← hpm]; exact List.getElem_mem _)) hop
  have hltf : p.fn.toNat < u.fs.length := by omega
  rw [if_neg (by omega), hpt] at hB
  dsimp only at hB
  rw [List.getElem?_eq_getElem hltf] at hB
  dsimp only at hB
  rw [hB] at h
  have hHf := hM.hd hltf
  have hff := hHf.fine hM.ok
  obtain ⟨hal, hat⟩ := at_get hc hq0
  have hptn : ptN u p = u.fs[p.fn.toNat].lv := by rw [ptN, if_neg (by omega), if_pos hop, lvOf, List.getElem?_eq_getElem hltf]
  have hlow := at_low hc hq0 hpt
  rw [hptn] at hlow
  generalize hA : atL (allT u fn q).1.at' q = A at h hat hlow
  obtain ⟨bf, of, cf, rfl, hcf, hgc, hfo⟩ := hfn.sl.get (by decide) hltf
  generalize u.fs[p.fn.toNat] = f at h hHf hff hlow hgc
  obtain ⟨vo, vt, vn, vp, rfl, k1, k2, k3, k4⟩ := hgc
  obtain ⟨qo, capo, rfl, _, _⟩ := k1.sl.shape
  obtain ⟨qt, capt, rfl, _, hct2⟩ := k2.sl.shape
  obtain ⟨qn, capn, rfl, _, _⟩ := k3.sl.shape
  obtain ⟨qp, capp, rfl, _, _⟩ := k4.sl.shape
  obtain ⟨hlv0, hlv8, hpn0, hpn8, hpn1, hty, _, htys, _, _, _, _, _⟩ := hHf
  (repeat (first | refine s_p ?_ | refine s_c (by omega) ?_ | refine S.ld ?_ | refine S.ldB ?_ | refine S.ce ?_ | refine S.ceB ?_ | refine s_q ?_ | refine s_qc (by omega) ?_ | refine n_some ?_ | rw [List.getD_cons_zero] | rw [List.getD_cons_succ]))
  refine s_ldN (n := 7) hcf (fun j v hj => S.at (hfo j v hj)) ?_
  refine S.al fun b11 w8 S => ?_
  refine S.stB (b := b11) fun w9 S => ?_
  have S := (S.frzAt b9).frzAt b5
  (repeat (first | refine s_p ?_ | refine s_c (by omega) ?_ | refine S.ld ?_ | refine S.ldB ?_ | refine S.ce ?_ | refine S.ceB ?_ | refine s_q ?_ | refine s_qc (by omega) ?_ | refine n_some ?_ | rw [List.getD_cons_zero] | rw [List.getD_cons_succ]))
  have hlen : (f.pn + 1).toNat - (1 : Int).toNat = ((f.tys.drop 1).take f.pn.toNat).length := by rw [List.length_take, List.length_drop]; omega
  rw [hlen]
  have hsub := (sl_tysG k2.sl).sub (a := (1 : Int).toNat) (n := f.pn.toNat) (cap := capt) hct2
  have hlst : (f.tys.drop (1 : Int).toNat).take f.pn.toNat = (f.tys.drop 1).take f.pn.toNat := rfl
  rw [hlst] at hsub
  generalize (if capt = (1 : Int).toNat then qt else qt.map (·.add ((1 : Int).toNat * 5))) = qs at hsub ⊢
  have hfacts : ∀ (j : Nat) (hj : j < f.tys.length), (j : Int) ≤ f.pn → isB f.tys[j] = true ∧ (∀ x ∈ f.tys[j].regs, 0 ≤ x ∧ x < 8) ∧ (f.tys[j].regs ≠ [] → 0 ≤ A ∧ A ≤ 1000) := fun j hj hjp => by
    have hB := (hff.all _ (List.getElem_mem hj)).is hff.few
    have hrT : regsT f.tys[j] = f.tys[j].regs := by rw [regsT, hB]; rfl
    have hr := tysG_low htys hj (by omega)
    rw [hrT] at hr
    refine ⟨hB, fun x hx => by have := hr x hx; omega, fun hne => ?_⟩
    obtain ⟨x, hx⟩ := List.exists_mem_of_ne_nil _ hne
    have := hr x hx
    have := hlow (by omega)
    omega
  have hpar : ∀ (j : Nat) (hj : j < ((f.tys.drop 1).take f.pn.toNat).length), isB ((f.tys.drop 1).take f.pn.toNat)[j] = true ∧ (∀ x ∈ ((f.tys.drop 1).take f.pn.toNat)[j].regs, 0 ≤ x ∧ x < 8) ∧ (((f.tys.drop 1).take f.pn.toNat)[j].regs ≠ [] → 0 ≤ A ∧ A ≤ 1000) := fun j hj => by
    rw [List.length_take, List.length_drop] at hj
    rw [List.getElem_take, List.getElem_drop]
    exact hfacts (1 + j) (by omega) (by omega)
  have hpl : ((f.tys.drop 1).take f.pn.toNat).length ≤ 8 := by rw [List.length_take, List.length_drop]; omega
  generalize hps : (f.tys.drop 1).take f.pn.toNat = ps at h hsub hpar hpl ⊢
  have S := S.ownNil 25 5
  have S : StX noX w ((((r.or s).or (one b9 (rgL (allT u fn q).1.lv (allT u fn q).1.pt (allT u fn q).1.ct (.slice q1 (allT u fn q).1.tys.length c1) (.slice q2 (allT u fn q).1.at'.length c2)) 46)).or (one b5 [.int .i64 q] 3)).or nothing) w9 [.row (.slice none 0 0) 25 5 0 [], .cell b11 [.string f.name, .int .i64 f.lv, .slice qo f.outs.length capo, .int .i64 f.pn, .slice qt f.tys.length capt, .slice qn f.nms.length capn, .slice qp f.pts.length capp] 53,
    .cell b10 (ptL p x1 x2 x3 x4 x5 y1 y2 y3 y4 y5) 64, .cell b7 zeroL 25, .cell b3 [.slice p0 u.ss.length cap0, .slice (some ⟨bf, of, none⟩) u.fs.length capf, .int .i64 u.mn] 43] := S.to _
  have hcl : ∀ {s' : Gh} {t : TyD} {v9 : Value} {w9 : World} {M : List Asr} {K9 : Value → World → Prop}, isB t = true → (∀ x ∈ t.regs, 0 ≤ x ∧ x < 8) → (t.regs ≠ [] → 0 ≤ A ∧ A ≤ 1000) →
      StX noX w ((((r.or s).or (one b9 (rgL (allT u fn q).1.lv (allT u fn q).1.pt (allT u fn q).1.ct (.slice q1 (allT u fn q).1.tys.length c1) (.slice q2 (allT u fn q).1.at'.length c2)) 46)).or (one b5 [.int .i64 q] 3)).or s') w9 M → TyG r v9 t →
      (∀ v' sn w', Ext w9 w' → New w9 sn w' → TyG sn v' (instT A t) → K9 v' w') → oCallV Try.prog (.func (.func Try.n_region_Called_1) #[] #[.pointer (some ⟨b9, 0, none⟩), .pointer (some ⟨b5, 0, none⟩)]) #[v9] w9 K9 := fun h1 h2 h3 S hv hk =>
    c_Called_1 (l := (allT u fn q).1.at') (cp2 := c2) (c9 := rgL (allT u fn q).1.lv (allT u fn q).1.pt (allT u fn q).1.ct (.slice q1 (allT u fn q).1.tys.length c1) (.slice q2 (allT u fn q).1.at'.length c2)) h1 h2 h3 (one_blk (b := b9)).up rfl (one_blk (b := b5)).up g2.cells hq0 hal hat S.holds hv.up hk
  refine l_intro (ι := Nat × Value × Gh × List Value) (fun i => [i.2.1, .int .i64 (i.1 : Nat)]) (fun i w' => i.1 ≤ ps.length ∧ RowOf 5 (TyC i.2.2.1) i.2.2.2 ((ps.take i.1).map (instT A)) ∧ Above w i.2.2.1 ∧
    StX noX w ((((r.or s).or (one b9 (rgL (allT u fn q).1.lv (allT u fn q).1.pt (allT u fn q).1.ct (.slice q1 (allT u fn q).1.tys.length c1) (.slice q2 (allT u fn q).1.at'.length c2)) 46)).or (one b5 [.int .i64 q] 3)).or i.2.2.1) w' [.row i.2.1 25 5 i.1 i.2.2.2, .cell b11 [.string f.name, .int .i64 f.lv, .slice qo f.outs.length capo, .int .i64 f.pn, .slice qt f.tys.length capt, .slice qn f.nms.length capn, .slice qp f.pts.length capp] 53,
      .cell b10 (ptL p x1 x2 x3 x4 x5 y1 y2 y3 y4 y5) 64, .cell b7 zeroL 25, .cell b3 [.slice p0 u.ss.length cap0, .slice (some ⟨bf, of, none⟩) u.fs.length capf, .int .i64 u.mn] 43]) (fun i => ps.length - i.1) (0, .slice none 0 0, nothing, []) rfl ⟨Nat.zero_le _, RowOf.nil, Above.no, S⟩ ?_
  clear S
  rintro ⟨i, vp, s', xs⟩ d w10 ⟨hi, hrow, hab, S⟩ K6 hK6
  simp only at hi hrow hab S ⊢
  simp only [List.getD_cons_zero, List.getD_cons_succ]
  (first | refine s_p ?_ | refine s_c (by omega) ?_)
  refine c_if (fun hlt2 => ?_) (fun hge => ?_)
  · have hlt2 : i < ps.length := by omega
    obtain ⟨bt, ot, ct, rfl, hct3, htc, hto⟩ := hsub i hlt2
    obtain ⟨q4, cap4, rfl, ht4⟩ := ty_form hto
    obtain ⟨hp1, hp2, hp3⟩ := hpar i hlt2
    (first | refine s_p ?_ | refine s_c (by omega) ?_)
    refine s_ldN (n := 5) hct3 (fun j v hj => by rw [Int.toNat_natCast]; exact S.at (htc j v hj)) ?_
    refine S.al fun b14 w11 S => ?_
    refine S.stB (b := b14) fun w12 S => ?_
    refine S.ldB (b := b14) ?_ rfl
    refine hcl hp1 hp2 hp3 S ht4 fun v5 sn w13 e13 n13 h13 => ?_
    obtain ⟨S, d13, a13⟩ := S.tell e13 n13
    obtain ⟨q6, cap6, rfl, _⟩ := id h13
    refine S.lit (ty_lit (c := tyL (instT A ps[i]) q6 cap6) h13) fun b15 w14 S => ?_
    refine S.ap (m' := 1) (Sl.blk (S.blk b15)) (fun v15 w15 S => ?_) (by omega)
    have S := ((S.drop b15).drop b14).reGh
    (first | refine s_p ?_ | refine s_c (by omega) ?_)
    rw [show ((i : Int) + 1) = ((i + 1 : Nat) : Int) by omega]
    refine hK6 (i + 1, v15, s'.or sn, xs ++ tyL (instT A ps[i]) q6 cap6) _ ⟨hlt2, ?_, hab.or' a13, S⟩ (by show ps.length - (i + 1) < ps.length - i; omega)
    show RowOf 5 (TyC (s'.or sn)) (xs ++ tyL (instT A ps[i]) q6 cap6) ((ps.take (i + 1)).map (instT A))
    rw [List.take_succ_eq_append_getElem hlt2, List.map_append]
    exact (hrow.mono fun c x hx => TyG.up hx).snoc rfl (TyG.up h13)
  have hie : i = ps.length := by omega
  subst hie
  rw [List.take_length] at hrow
  obtain ⟨s2, S, hsl2, _, hab2⟩ := S.doneRow hrow (by decide) (by rw [List.length_map])
  have hab2 : Above w s2 := fun b o ho => (hab2 b o ho).resolve_right id
  have hpos : 0 < f.tys.length := by omega
  have hhd : f.tys.headD zeroD = f.tys[0] := by rw [List.headD_eq_head?_getD, List.head?_eq_getElem?, List.getElem?_eq_getElem hpos, Option.getD_some]
  obtain ⟨bt, ot, ct, rfl, hct3, htc, hto⟩ := sl_tysG k2.sl 0 hpos
  obtain ⟨q4, cap4, rfl, ht4⟩ := ty_form hto
  obtain ⟨hp1, hp2, hp3⟩ := hfacts 0 hpos (by omega)
  have S := S.reGh
  (repeat (first | refine s_p ?_ | refine s_c (by omega) ?_ | refine S.ld ?_ | refine S.ldB ?_ | refine S.ce ?_ | refine S.ceB ?_ | refine s_q ?_ | refine s_qc (by omega) ?_ | refine n_some ?_ | rw [List.getD_cons_zero] | rw [List.getD_cons_succ]))
  refine s_ldN (n := 5) hct3 (fun j v hj => by simpa using S.at (htc j v hj)) ?_
  refine hcl hp1 hp2 hp3 S ht4 fun v5 sn w13 e13 n13 h13 => ?_
  obtain ⟨S, d13, a13⟩ := S.tell e13 n13
  obtain ⟨q6, cap6, rfl, _⟩ := id h13
  have S := S.reGh
  refine S.stB (b := b7) fun w14 S => ?_
  refine S.ceB (b := b7) ?_ rfl
  rw [hhd] at h
  rw [heq]
  exact h _ _ ((s'.or s2).or sn) _ S.ext (S.newOf ((hab.or' hab2).or' a13)) (hsl2.up' inferInstance fun c x hx => TyG.up hx) (TyG.up h13)
end Go.Proofs
end

section
namespace Go.Proofs

open Go.Sh

set_option maxRecDepth 100000

set_option linter.unusedSimpArgs false

set_option linter.unusedVariables false

end Go.Proofs
end

section
namespace Go.Sh

theorem StX.mkSU {P : Program} {X : Nat → Prop} {w0 w : World} {r : Gh} {L : List Asr} {t e : TypeId} {bytes : Nat} {kl : IntKind} {n : Int} {z : Value} (S : StX X w0 r w L) [hT : ApT P t e 1 bytes] [hz : ZrT P e [z]] {K : Value → World → Prop} (h0 : 0 ≤ n) (hb : (bytes : Int) * n ≤ 281474976710656)
    (h : ∀ b w', StX X w0 r w' (.cell b (List.replicate n.toNat z) e :: L) → K (.slice (some ⟨b, 0, none⟩) n.toNat n.toNat) w') : opW P w (Instr.makeSlice t (.int kl n) (.int kl n)) fun t' w' => Ext w w' ∧ K t' w' :=
  w_make hT.h hz.h h0 hb fun b w' hb e _ B => ⟨e, h b w' (S.add e (by omega) B)⟩
/-- a literal that stays, new -/
theorem StX.litNew {w0 w : World} {r : Gh} {L M : List Asr} {α : Type} {sz : Nat} {R : List Value → α → Prop} {l : List α} {e : TypeId} {xs : List Value} (S : StX noX w0 r w L) (b : Nat) [h : Pull b L xs e M] (hr : RowOf sz R xs l) (hz : 0 < sz) :
    StX noX w0 (r.or (one b xs e)) w M ∧ SlG sz (one b xs e) R (.slice (some ⟨b, 0, none⟩) l.length l.length) l ∧ Above w0 (one b xs e) := by
  have S1 := S.front b
  have hm := S1.mine (.cell b xs e) List.mem_cons_self b rfl
  obtain ⟨S2, h2⟩ := S1.litSl hr hz
  exact ⟨S2, h2, by rintro b' o ⟨rfl, _⟩; exact hm.1.resolve_right id⟩
end Go.Sh

namespace Go.Proofs

open Go.Sh

set_option maxRecDepth 100000

set_option linter.unusedSimpArgs false

set_option linter.unusedVariables false

theorem rowOf_one {α : Type} {sz : Nat} {R : List Value → α → Prop} {c : List Value} {x : α} (hc : c.length = sz) (hx : R c x) : RowOf sz R c [x] := RowOf.nil.snoc (xs := []) hc hx
theorem rowOf_cons {α : Type} {sz : Nat} {R : List Value → α → Prop} {c xs : List Value} {x : α} {l : List α} (hc : c.length = sz) (hx : R c x) (h : RowOf sz R xs l) : RowOf sz R (c ++ xs) (x :: l) := by
  obtain ⟨h1, h2⟩ := h
  refine ⟨by rw [List.length_append, List.length_cons, h1, hc, Nat.succ_mul, Nat.add_comm], fun i hi => ?_⟩
  cases i with
  | zero => rw [Nat.zero_mul, List.drop_zero, List.take_append_of_le_length (by omega), List.take_of_length_le (by omega)]; exact hx
  | succ i =>
    have e : ((c ++ xs).drop ((i + 1) * sz)) = xs.drop (i * sz) := by
      rw [show (i + 1) * sz = c.length + i * sz by rw [hc, Nat.succ_mul, Nat.add_comm], ← List.drop_drop, List.drop_left']; rfl
    rw [e]
    exact h2 i (by simpa using hi)
theorem slG_few {α : Type} {sz : Nat} {r : Gh} {R : List Value → α → Prop} {v : Value} {l : List α} (h : SlG sz r R v l) (hl : l.length ≤ 1000000 := by decide) : SlB sz r R v l := ⟨h, by simp only [maxLen]; omega⟩
/-! ### The example -/

def refD : TyD := .mk 4 true (-1) 0 [intD]
def plD (l : Int) : PlD := ⟨l, []⟩
def conD (n : Int) : OpD := ⟨1, n, zeroPl⟩
def hp0 : PtD := ⟨4, plD 2, zeroO, zeroO, [], ByteArray.empty, plD 1, true, 0, 0, 1, 0, 0⟩
def hp1 : PtD := ⟨1, plD 1, conD 2, zeroO, [], ByteArray.empty, zeroPl, false, 0, 0, 2, 0, 0⟩
def hp2 : PtD := ⟨1, ⟨2, [-1]⟩, conD 3, zeroO, [], ByteArray.empty, zeroPl, false, 0, 0, 3, 0, 0⟩
def hp3 : PtD := ⟨14, zeroPl, zeroO, zeroO, [], ByteArray.empty, zeroPl, false, 0, 0, 0, 0, 0⟩
def handG : GrD := ⟨ByteArray.empty, 0, [], 0, [intD, intD, refD], [ByteArray.empty, ByteArray.empty, ByteArray.empty], [hp0, hp1, hp2, hp3]⟩
def handU : UnD := ⟨[], [handG], 0⟩
abbrev intL : List Value := [.int .u8 1, .bool false, .int .i64 0, .int .i64 0, .slice none 0 0]
abbrev intV : Value := .agg #[.int .u8 1, .bool false, .int .i64 0, .int .i64 0, .slice none 0 0]
abbrev conV (n : Int) : Value := .agg #[.int .u8 1, .int .i64 n, .int .i64 0, .slice none 0 0]
abbrev hl0 : List Value := [.int .u8 4, .int .i64 2, .slice none 0 0, .int .u8 0, .int .i64 0, .int .i64 0, .slice none 0 0, .int .u8 0, .int .i64 0, .int .i64 0, .slice none 0 0, .slice none 0 0, .string ByteArray.empty, .int .i64 1, .slice none 0 0, .bool true, .int .i64 0, .int .i64 0, .int .i64 1, .int .i64 0, .int .i64 0]
abbrev hl1 : List Value := [.int .u8 1, .int .i64 1, .slice none 0 0, .int .u8 1, .int .i64 2, .int .i64 0, .slice none 0 0, .int .u8 0, .int .i64 0, .int .i64 0, .slice none 0 0, .slice none 0 0, .string ByteArray.empty, .int .i64 0, .slice none 0 0, .bool false, .int .i64 0, .int .i64 0, .int .i64 2, .int .i64 0, .int .i64 0]
abbrev hl2 (b : Nat) : List Value := [.int .u8 1, .int .i64 2, .slice (some ⟨b, 0, none⟩) 1 1, .int .u8 1, .int .i64 3, .int .i64 0, .slice none 0 0, .int .u8 0, .int .i64 0, .int .i64 0, .slice none 0 0, .slice none 0 0, .string ByteArray.empty, .int .i64 0, .slice none 0 0, .bool false, .int .i64 0, .int .i64 0, .int .i64 3, .int .i64 0, .int .i64 0]
abbrev hl3 : List Value := [.int .u8 14, .int .i64 0, .slice none 0 0, .int .u8 0, .int .i64 0, .int .i64 0, .slice none 0 0, .int .u8 0, .int .i64 0, .int .i64 0, .slice none 0 0, .slice none 0 0, .string ByteArray.empty, .int .i64 0, .slice none 0 0, .bool false, .int .i64 0, .int .i64 0, .int .i64 0, .int .i64 0, .int .i64 0]
theorem c_law13_i64 {w : World} {K : Value → World → Prop} (h : ∀ w', Ext w w' → K intV w') : oCall Try.prog Try.n_law13_i64 #[] w K := by
  refine Try.ok_law13_i64 ?_
  unfold Try.F_law13_i64
  have S : StX noX w nothing w [] := St.start (fun _ _ h => h.elim)
  refine S.al fun b0 w1 S => ?_
  refine p_build (cs := intL.toArray) (by kernel_rfl) ?_
  refine S.stB (b := b0) fun w2 S => ?_
  refine S.ceB (b := b0) ?_ rfl
  exact h _ S.ext
theorem c_law13_con {n : Int} {w : World} {K : Value → World → Prop} (h : ∀ w', Ext w w' → K (conV n) w') : oCall Try.prog Try.n_law13_con #[.int .i64 n] w K := by
  refine Try.ok_law13_con ?_
  unfold Try.F_law13_con
  have S : StX noX w nothing w [] := St.start (fun _ _ h => h.elim)
  refine S.al fun b0 w1 S => ?_
  refine p_build (cs := #[.int .u8 1, .int .i64 n, .int .i64 0, .slice none 0 0]) (by kernel_rfl) ?_
  refine S.stB (b := b0) fun w2 S => ?_
  refine S.ceB (b := b0) ?_ rfl
  exact h _ S.ext
theorem c_law13_ref {m : Bool} {w : World} {K : Value → World → Prop} (h : ∀ q cap sn w', Ext w w' → New w sn w' → TyG sn (tyV (.mk 4 m (-1) 0 [intD]) q cap) (.mk 4 m (-1) 0 [intD]) → K (tyV (.mk 4 m (-1) 0 [intD]) q cap) w') : oCall Try.prog Try.n_law13_ref #[.bool m] w K := by
  refine Try.ok_law13_ref ?_
  unfold Try.F_law13_ref
  have S : StX noX w nothing w [] := St.start (fun _ _ h => h.elim)
  refine S.al fun b2 w1 S => ?_
  refine c_law13_i64 fun w2 e2 => ?_
  have S := S.go e2
  refine S.lit (e := 25) (cs := intL) (by kernel_rfl) fun b5 w3 S => ?_
  refine p_build (cs := #[.int .u8 4, .bool m, .int .i64 (-1), .int .i64 0, .slice (some ⟨b5, 0, none⟩) 1 1]) (by kernel_rfl) ?_
  refine S.stB (b := b2) fun w4 S => ?_
  refine S.ceB (b := b2) ?_ rfl
  obtain ⟨S, _, ha⟩ := S.litNew b5 (sz := 5) (R := TyC nothing) (l := [intD]) (by exact (rowOf_one (c := intL) rfl (show TyC nothing intL intD from ty_any))) (by decide)
  exact h (some ⟨b5, 0, none⟩) 1 (nothing.or (one b5 intL 25)) _ S.ext (S.newOf (Above.no.or' ha)) (ty_one (u := intD) (v := intV) ty_any)
set_option maxHeartbeats 8000000 in
theorem c_law13_hand {w : World} {K : Value → World → Prop} (h : ∀ v s w', Ext w w' → New w s w' → UnG s v handU → K v w') : oCall Try.prog Try.n_law13_hand #[] w K := by
  refine Try.ok_law13_hand ?_
  unfold Try.F_law13_hand
  have S : StX noX w nothing w [] := St.start (fun _ _ h => h.elim)
  refine S.al fun b0 w1 S => ?_
  refine S.lit (e := 107) (cs := [.int .i64 (-1)]) (by kernel_rfl) fun b2 w2 S => ?_
  refine p_build (cs := #[.int .i64 2, .slice (some ⟨b2, 0, none⟩) 1 1]) (by kernel_rfl) ?_
  refine S.al fun b1 w3 S => ?_
  refine S.stB (b := b1) fun w4 S => ?_
  have S := S.go (Ext.drew _)
  refine p_build (cs := #[.int .i64 2, .slice none 0 0]) (by kernel_rfl) ?_
  refine p_build (cs := #[.int .i64 1, .slice none 0 0]) (by kernel_rfl) ?_
  refine p_build (cs := hl0.toArray) (by kernel_rfl) ?_
  refine p_build (cs := #[.int .i64 1, .slice none 0 0]) (by kernel_rfl) ?_
  refine S.ldB (b := b1) ?_ rfl
  refine p_build (cs := hl3.toArray) (by kernel_rfl) ?_
  have S := S.drop b1
  have fin : ∀ {w9 : World} {b7 b8 b19 b21 : Nat} {q6 : Option Addr} {c6 : Nat} {sn : Gh} {M M1 M2 M3 M4 M5 : List Asr} (S : StX noX w (nothing.or sn) w9 M)
      [Pull b7 M (intL ++ (intL ++ tyL refD q6 c6)) 25 M1] [Pull b8 M1 [.string ByteArray.empty, .string ByteArray.empty, .string ByteArray.empty] 9 M2] [Pull b2 M2 [.int .i64 (-1)] 107 M3]
      [Pull b19 M3 (hl0 ++ (hl1 ++ (hl2 b2 ++ hl3))) 64 M4] [Pull b21 M4 [.string ByteArray.empty, .int .i64 0, .slice none 0 0, .int .i64 0, .slice (some ⟨b7, 0, none⟩) 3 3, .slice (some ⟨b8, 0, none⟩) 3 3, .slice (some ⟨b19, 0, none⟩) 4 4] 53 M5],
      Above w sn → TyG sn (tyV refD q6 c6) refD → K (.agg #[.slice none 0 0, .slice (some ⟨b21, 0, none⟩) 1 1, .int .i64 0]) w9 := by
    intro w9 b7 b8 b19 b21 q6 c6 sn M M1 M2 M3 M4 M5 S _ _ _ _ _ ha ht
    obtain ⟨S, h7, a7⟩ := S.litNew b7 (sz := 5) (R := TyC sn) (l := [intD, intD, refD]) (by exact (rowOf_cons rfl ty_any (rowOf_cons rfl ty_any (rowOf_one rfl ht)))) (by decide)
    obtain ⟨S, h8, a8⟩ := S.litNew b8 (sz := 1) (R := StrC) (l := [ByteArray.empty, ByteArray.empty, ByteArray.empty]) (by exact (rowOf_cons (c := [.string ByteArray.empty]) rfl rfl (rowOf_cons (c := [.string ByteArray.empty]) rfl rfl (rowOf_one rfl rfl)))) (by decide)
    obtain ⟨S, h2, a2⟩ := S.litNew b2 (sz := 1) (R := StpC) (l := [-1]) (by exact (rowOf_one rfl ⟨rfl, by unfold in64; omega⟩)) (by decide)
    have hz : ∀ {r : Gh} {α : Type} {sz : Nat} {R : List Value → α → Prop}, SlB sz r R (.slice none 0 0) ([] : List α) := slB_nil
    obtain ⟨S, h19, a19⟩ := S.litNew b19 (sz := 21) (R := PtG (one b2 [.int .i64 (-1)] 107)) (l := [hp0, hp1, hp2, hp3])
      (by exact (rowOf_cons rfl ⟨_, _, _, _, _, rfl, hz, hz, hz, hz, hz⟩ (rowOf_cons rfl ⟨_, _, _, _, _, rfl, hz, hz, hz, hz, hz⟩ (rowOf_cons rfl ⟨_, _, _, _, _, rfl, slG_few h2, hz, hz, hz, hz⟩ (rowOf_one rfl ⟨_, _, _, _, _, rfl, hz, hz, hz, hz, hz⟩))))) (by decide)
    obtain ⟨S, h21, a21⟩ := S.litNew b21 (sz := 7) (R := GrG (((((nothing.or sn).or (one b7 (intL ++ (intL ++ tyL refD q6 c6)) 25)).or (one b8 [.string ByteArray.empty, .string ByteArray.empty, .string ByteArray.empty] 9)).or (one b2 [.int .i64 (-1)] 107)).or (one b19 (hl0 ++ (hl1 ++ (hl2 b2 ++ hl3))) 64))) (l := [handG])
      (by exact (rowOf_one rfl ⟨_, _, _, _, rfl, hz, slG_few (h7.up' inferInstance fun c x hx => TyG.up hx), slG_few h8.cells, slG_few (h19.up' inferInstance fun c x hx => PtG.up hx)⟩)) (by decide)
    exact h _ _ _ S.ext (S.newOf (((((Above.no.or' ha).or' a7).or' a8).or' a2).or' a19 |>.or' a21)) ⟨none, 0, _, rfl, fun _ => rfl, Nat.zero_le _, trivial, Nat.zero_le _, slG_few (h21.up' inferInstance fun c x hx => GrG.up hx)⟩
  repeat' (first
    | (with_reducible refine c_law13_i64 fun w9 e9 => ⟨e9, ?_⟩; have S := S.go e9)
    | (with_reducible refine c_law13_con fun w9 e9 => ⟨e9, ?_⟩; have S := S.go e9)
    | (with_reducible refine c_law13_ref fun q6 c6 sn w9 e9 n9 t9 => ⟨e9, ?_⟩; obtain ⟨S, d9, a9⟩ := S.tell e9 n9)
    | (with_reducible refine S.litU (t := 23) (e := 25) (cs := intL ++ (intL ++ tyL refD q6 c6)) (by kernel_rfl) fun b7 w9 S => ?_)
    | (with_reducible refine S.mkSU (by decide) (by decide) fun b8 w9 S => ?_)
    | (with_reducible refine p_build (t := 64) (parts := #[(0, .int .u8 1), (1, .agg #[.int .i64 1, .slice none 0 0]), (2, conV 2), (10, .int .i64 2)]) (cs := hl1.toArray) (by kernel_rfl) ?_)
    | (with_reducible refine p_build (t := 64) (cs := (hl2 b2).toArray) (by kernel_rfl) ?_)
    | (with_reducible refine S.lit (t := 51) (e := 64) (cs := hl0 ++ (hl1 ++ (hl2 b2 ++ hl3))) (by kernel_rfl) fun b19 w9 S => ?_)
    | (with_reducible refine p_build (t := 53) (cs := #[.string ByteArray.empty, .int .i64 0, .slice none 0 0, .int .i64 0, .slice (some ⟨b7, 0, none⟩) 3 3, .slice (some ⟨b8, 0, none⟩) 3 3, .slice (some ⟨b19, 0, none⟩) 4 4]) (by kernel_rfl) ?_)
    | (with_reducible refine S.lit (t := 41) (e := 53) (cs := [.string ByteArray.empty, .int .i64 0, .slice none 0 0, .int .i64 0, .slice (some ⟨b7, 0, none⟩) 3 3, .slice (some ⟨b8, 0, none⟩) 3 3, .slice (some ⟨b19, 0, none⟩) 4 4]) (by kernel_rfl) fun b21 w9 S => ?_)
    | (with_reducible refine p_build (t := 43) (cs := #[.slice none 0 0, .slice (some ⟨b21, 0, none⟩) 1 1, .int .i64 0]) (by kernel_rfl) ?_)
    | (with_reducible refine And.intro ?_ ?_)
    | (refine S.stB (b := b0) fun w9 S => ?_; refine S.ceB (b := b0) ?_ rfl; exact fin (b7 := b7) (b8 := b8) (b19 := b19) (b21 := b21) S a9 t9)
)
end Go.Proofs
end

section
namespace Go.Proofs

open Go.Sh

set_option maxRecDepth 100000

set_option linter.unusedSimpArgs false

set_option linter.unusedVariables false

theorem hst : structsT ([] : List StD) = (0, 0) := by unfold structsT; simp [fstB]
theorem hmay (t : TyD) : mayB [] t = lookB 0 48 t := by rw [mayB, hst]; simp
theorem empty_list : ByteArray.empty.toList = [] := by rw [ByteArray.toList_eq]; rfl
theorem hand_head : headG handU 0 handG = true := by
  have h1 : tysG handU handG 0 handG.tys = true := by
    show ((mayB [] intD && _) && ((mayB [] intD && _) && ((mayB [] refD && _) && true))) = true
    rw [hmay, hmay]
    kernel_rfl
  unfold headG
  rw [h1]
  show (_ : Bool) = true
  kernel_rfl
theorem hand_pts : ∀ p ∈ handG.pts, pointG handU handG p = true := by
  have hp : handG.pts = [hp0, hp1, hp2, hp3] := rfl
  rw [hp]
  intro p h
  simp only [List.mem_cons, List.not_mem_nil, or_false] at h
  rcases h with rfl | rfl | rfl | rfl
  · have e : restG hp0 { to := true, fr := true, mu := true } = true := by
      rw [restG, restL, show hp0.sign = ByteArray.empty from rfl, empty_list]; kernel_rfl
    have : pointG handU handG hp0 = (((((restG hp0 { to := true, fr := true, mu := true } && true) && true) && true) && true) && (true && true)) := by kernel_rfl
    rw [this, e]; rfl
  · have e : restG hp1 { to := true, a := true } = true := by
      rw [restG, restL, show hp1.sign = ByteArray.empty from rfl, empty_list]; kernel_rfl
    have : pointG handU handG hp1 = (((restG hp1 { to := true, a := true } && true) && true) && true) := by kernel_rfl
    rw [this, e]; rfl
  · have e : restG hp2 { to := true, a := true } = true := by
      rw [restG, restL, show hp2.sign = ByteArray.empty from rfl, empty_list]; kernel_rfl
    have : pointG handU handG hp2 = (((restG hp2 { to := true, a := true } && true) && true) && true) := by kernel_rfl
    rw [this, e]; rfl
  · have e : restG hp3 {} = true := by
      rw [restG, restL, show hp3.sign = ByteArray.empty from rfl, empty_list]; kernel_rfl
    have : pointG handU handG hp3 = restG hp3 {} := by kernel_rfl
    rw [this, e]
theorem hand_may : MayU handU := by
  refine ⟨by show (structsT []).2 = 0; rw [hst], by decide, by decide, by decide, by decide, fun i hi => ?_, fun g hg => ?_⟩
  · have : i = 0 := by have : handU.fs.length = 1 := rfl; omega
    subst this
    exact hand_head
  · rw [List.mem_singleton.1 hg]
    exact hand_pts
def refT (k : Int) : TyD := .mk 4 true k 0 [intD]
theorem hand_isU {q : Int} (h : q < 4) : isU handU 0 q = true := by
  rw [isU, mayU_iff.2 hand_may]
  show (true && (true && decide (q < 4))) = true
  rw [decide_eq_true h]; rfl
theorem hand_all {q : Int} (h : q < 4) : allT handU 0 q = (⟨0, 4, 2, [intD, intD, refT 0], [1, -1, -1, -1]⟩, 0) := by
  rw [allT, if_pos (hand_isU h)]
  kernel_rfl
theorem hand_place {p : PlD} {t : TyD} {g : List Int} (h1 : ((decide (0 ≤ p.l) && decide (p.l < 3)) && decide (p.ps.length ≤ 8)) = true) (h2 : walkH [] p.ps ([intD, intD, refT 0].getD p.l.toNat zeroD) = some (t, g)) : placeW [] [intD, intD, refT 0] p = some (t, g) := by
  have : placeO [] [intD, intD, refT 0] p = true := by
    rw [placeO, hst]
    show (((decide (0 ≤ p.l) && decide (p.l < 3)) && decide (p.ps.length ≤ 8)) && (true && (mayB [] intD && (mayB [] intD && (mayB [] (refT 0) && true))))) = true
    rw [h1, hmay, hmay]; kernel_rfl
  rw [placeW, if_pos this, h2]
theorem hand_atE : atE handU 0 0 4 = 0 ∧ atE handU 0 0 7 = 130 := by
  constructor <;> (rw [atE, hand_all (by decide)]; kernel_rfl)
theorem hand_bor : borT handU 0 0 = (refT 1, 0) := by
  rw [borT, hand_atE.1, hand_all (by decide)]
  have : placeR [] [intD, intD, refT 0] (plD 1) = (intD, 0) := by rw [placeR, hand_place (t := intD) (g := []) (by decide) rfl]
  show (TyD.mk 4 true 1 0 [(placeR [] [intD, intD, refT 0] (plD 1)).1], (placeR [] [intD, intD, refT 0] (plD 1)).2) = _
  rw [this]; rfl
theorem hand_cal : calT handU 0 0 = ([], zeroD, 130) := by
  rw [calT, hand_atE.2]; rfl
theorem hand_rg : rgPlace handU 0 (plD 2) = (refT 0, 0) := by
  have hp : placeW [] [intD, intD, refT 0] (plD 2) = some (refT 0, []) := hand_place (by decide) rfl
  have : placeR [] [intD, intD, refT 0] (plD 2) = (refT 0, 0) := by rw [placeR, hp]
  rw [rgPlace, hand_all (by decide)]
  show (if (0 : Int) ≠ 0 ∨ placeW [] [intD, intD, refT 0] (plD 2) = none then (zeroD, (2 : Int)) else if (fewT (_, 0)).2 ≠ 0 then _ else placeR [] [intD, intD, refT 0] (plD 2)) = _
  rw [if_neg (by rw [hp]; simp), if_neg (by decide), this]
theorem c_law13_awake {w : World} {K : Value → World → Prop} (h : ∀ w', Ext w w' → K (.bool true) w') : oCall Try.prog Try.n_law13_awake #[] w K := by
  refine Try.ok_law13_awake ?_
  unfold Try.F_law13_awake
  refine c_law13_hand fun vu s w1 e1 n1 hu => ?_
  have S : StX noX w s w1 [] := (St.start (r := nothing) (w := w) (fun _ _ h => h.elim)).new e1 n1 |>.to s
  have hu0 := hu
  obtain ⟨p0, cap0, vf, rfl, _, _, _, _, hfn⟩ := hu
  obtain ⟨qf, capf, rfl, _, _⟩ := hfn.sl.shape
  refine S.al fun b1 w2 S => ?_
  refine S.stB (b := b1) fun w3 S => ?_
  refine S.ldB (b := b1) ?_ rfl
  refine c_region_Of S.holds hu0 fun v4 s4 w4 e4 n4 h4 => ?_
  obtain ⟨S, d4, a4⟩ := S.tell e4 n4
  have hfew : fewT (allT handU 0 (-1)) = (⟨0, 4, 2, [intD, intD, refT 0], [1, -1, -1, -1]⟩, 0) := by rw [hand_all (by decide)]; rfl
  rw [hfew] at h4 ⊢
  have h40 := h4
  obtain ⟨q1, c1, q2, c2, rfl, g1, g2⟩ := h4.shape
  (repeat (first | refine s_p ?_ | refine s_c (by omega) ?_))
  refine S.al fun b2 w5 S => ?_
  refine S.stB (b := b2) fun w6 S => ?_
  refine S.ldB (b := b1) ?_ rfl
  refine c_region_Borrowed S.holds hu0.up fun v7 s7 w7 e7 n7 h7 => ?_
  obtain ⟨S, d7, a7⟩ := S.tell e7 n7
  rw [hand_bor] at h7 ⊢
  have h70 := h7
  obtain ⟨p7, cap7, rfl, _⟩ := h7
  (repeat (first | refine s_p ?_ | refine s_c (by omega) ?_))
  refine S.al fun b4 w8 S => ?_
  refine S.stB (b := b4) fun w9 S => ?_
  refine S.ldB (b := b1) ?_ rfl
  refine c_region_Called S.holds hu0.up fun vl v10 s10 w10 e10 n10 hl10 h10 => ?_
  obtain ⟨S, d10, a10⟩ := S.tell e10 n10
  rw [hand_cal] at h10 ⊢
  obtain ⟨p10, cap10, rfl, _⟩ := h10
  (repeat (first | refine s_p ?_ | refine s_c (by omega) ?_))
  refine S.al fun b7 w11 S => ?_
  refine S.stB (b := b7) fun w12 S => ?_
  refine S.ldB (b := b4) ?_ rfl
  refine S.lit (e := 3) (cs := ints [5, 7]) (by kernel_rfl) fun b34 w13 S => ?_
  have S := S.frzAt b34
  refine c_region_Turn (l := [5, 7]) (p := some ⟨b34, 0, none⟩) S.holds h70.up (fun w k => Sl.blk (b := b34) (c := ints [5, 7]) (T := 3) (k b34 _ (.inr ⟨rfl, rfl⟩))) (by decide) fun v14 s14 w14 e14 n14 h14 _ => ?_
  obtain ⟨S, d14, a14⟩ := S.tell e14 n14
  have ht : turnT (refT 1) [5, 7] = (refT 7, 0) := by kernel_rfl
  rw [ht] at h14 ⊢
  obtain ⟨p14, cap14, rfl, _⟩ := h14
  (repeat (first | refine s_p ?_ | refine s_c (by omega) ?_))
  refine S.al fun b9 w15 S => ?_
  refine S.stB (b := b9) fun w16 S => ?_
  refine S.ldB (b := b4) ?_ rfl
  refine c_region_Erase S.holds h70.up fun v17 s17 w17 e17 n17 h17 _ => ?_
  obtain ⟨S, d17, a17⟩ := S.tell e17 n17
  have ht : eraseT (refT 1) = (refT (-1), 0) := by kernel_rfl
  rw [ht] at h17 ⊢
  obtain ⟨p17, cap17, rfl, _⟩ := h17
  (repeat (first | refine s_p ?_ | refine s_c (by omega) ?_))
  refine S.al fun b11 w18 S => ?_
  refine S.stB (b := b11) fun w19 S => ?_
  refine S.ldB (b := b1) ?_ rfl
  refine p_build (cs := #[.int .i64 2, .slice none 0 0]) (by kernel_rfl) ?_
  refine c_region_Place (p := plD 2) (c := [.int .i64 2, .slice none 0 0]) S.holds hu0.up ⟨_, rfl, slB_nil⟩ fun v20 s20 w20 e20 n20 h20 _ => ?_
  obtain ⟨S, d20, a20⟩ := S.tell e20 n20
  rw [hand_rg] at h20 ⊢
  obtain ⟨p20, cap20, rfl, _⟩ := h20
  (repeat (first | refine s_p ?_ | refine s_c (by omega) ?_))
  refine S.al fun b13 w21 S => ?_
  refine S.stB (b := b13) fun w22 S => ?_
  (first | refine s_p ?_ | refine s_c (by omega) ?_)
  have hat := g2
  refine j_bandH (c := true) (fun _ K2 hK2 => by (repeat (first | refine s_p ?_ | refine s_c (by omega) ?_ | refine S.ld ?_ | refine S.ldB ?_ | refine S.ce ?_ | refine S.ceB ?_ | refine s_q ?_ | refine s_qc (by omega) ?_ | refine n_some ?_ | rw [List.getD_cons_zero] | rw [List.getD_cons_succ])); exact hK2) ?_
  refine j_bandE (c := true) (fun _ K2 hK2 => ?_) fun w26 e26 => ?_
  · refine S.ldB (b := b2) ?_ rfl
    refine c_region_Width S.holds h40.up (by decide) fun w27 e27 => ?_
    (first | refine s_p ?_ | refine s_c (by omega) ?_)
    exact hK2 _ e27
  have S := S.go e26
  obtain ⟨ba, oa, ca, hqa, hca, hcc, hcell⟩ := g2.get (by decide) (i := 0) (by decide)
  subst hqa
  obtain rfl : ca = _ := hcc
  obtain ⟨ba', oa', ca', hqa', hca', hcc', hcell'⟩ := g2.get (by decide) (i := 1) (by decide)
  cases hqa'
  obtain rfl : ca' = _ := hcc'
  refine j_bandH (c := true) (fun _ K2 hK2 => by (repeat (first | refine s_p ?_ | refine s_c (by omega) ?_ | refine S.ld ?_ | refine S.ldB ?_ | refine S.ce ?_ | refine S.ceB ?_ | refine s_q ?_ | refine s_qc (by omega) ?_ | refine n_some ?_ | rw [List.getD_cons_zero] | rw [List.getD_cons_succ])); exact hK2) ?_
  refine j_bandH (c := true) (fun _ K2 hK2 => ?_) ?_
  · (first | refine s_p ?_ | refine s_c (by omega) ?_)
    refine S.ld (b := b2) ?_ rfl
    refine s_c (by decide) ?_
    refine s_ld1 (v := .int .i64 1) (by simpa using S.at (hcell 0 _ rfl)) ?_
    (repeat (first | refine s_p ?_ | refine s_c (by omega) ?_ | refine S.ld ?_ | refine S.ldB ?_ | refine S.ce ?_ | refine S.ceB ?_ | refine s_q ?_ | refine s_qc (by omega) ?_ | refine n_some ?_ | rw [List.getD_cons_zero] | rw [List.getD_cons_succ]))
    exact hK2
  refine j_bandH (c := true) (fun _ K2 hK2 => ?_) ?_
  · (first | refine s_p ?_ | refine s_c (by omega) ?_)
    refine S.ld (b := b2) ?_ rfl
    refine s_c (by decide) ?_
    refine s_ld1 (v := .int .i64 (-1)) (by simpa using S.at (hcell' 0 _ rfl)) ?_
    (repeat (first | refine s_p ?_ | refine s_c (by omega) ?_ | refine S.ld ?_ | refine S.ldB ?_ | refine S.ce ?_ | refine S.ceB ?_ | refine s_q ?_ | refine s_qc (by omega) ?_ | refine n_some ?_ | rw [List.getD_cons_zero] | rw [List.getD_cons_succ]))
    exact hK2
  refine j_bandH (c := true) (fun _ K2 hK2 => by (repeat (first | refine s_p ?_ | refine s_c (by omega) ?_ | refine S.ld ?_ | refine S.ldB ?_ | refine S.ce ?_ | refine S.ceB ?_ | refine s_q ?_ | refine s_qc (by omega) ?_ | refine n_some ?_ | rw [List.getD_cons_zero] | rw [List.getD_cons_succ])); exact hK2) ?_
  refine j_bandH (c := true) (fun _ K2 hK2 => by (repeat (first | refine s_p ?_ | refine s_c (by omega) ?_ | refine S.ld ?_ | refine S.ldB ?_ | refine S.ce ?_ | refine S.ceB ?_ | refine s_q ?_ | refine s_qc (by omega) ?_ | refine n_some ?_ | rw [List.getD_cons_zero] | rw [List.getD_cons_succ])); exact hK2) ?_
  refine j_bandH (c := true) (fun _ K2 hK2 => by (repeat (first | refine s_p ?_ | refine s_c (by omega) ?_ | refine S.ld ?_ | refine S.ldB ?_ | refine S.ce ?_ | refine S.ceB ?_ | refine s_q ?_ | refine s_qc (by omega) ?_ | refine n_some ?_ | rw [List.getD_cons_zero] | rw [List.getD_cons_succ])); exact hK2) ?_
  refine j_bandH (c := true) (fun _ K2 hK2 => by (repeat (first | refine s_p ?_ | refine s_c (by omega) ?_ | refine S.ld ?_ | refine S.ldB ?_ | refine S.ce ?_ | refine S.ceB ?_ | refine s_q ?_ | refine s_qc (by omega) ?_ | refine n_some ?_ | rw [List.getD_cons_zero] | rw [List.getD_cons_succ])); exact hK2) ?_
  refine j_bandH (c := true) (fun _ K2 hK2 => by (repeat (first | refine s_p ?_ | refine s_c (by omega) ?_ | refine S.ld ?_ | refine S.ldB ?_ | refine S.ce ?_ | refine S.ceB ?_ | refine s_q ?_ | refine s_qc (by omega) ?_ | refine n_some ?_ | rw [List.getD_cons_zero] | rw [List.getD_cons_succ])); exact hK2) ?_
  refine j_bandH (c := true) (fun _ K2 hK2 => by (repeat (first | refine s_p ?_ | refine s_c (by omega) ?_ | refine S.ld ?_ | refine S.ldB ?_ | refine S.ce ?_ | refine S.ceB ?_ | refine s_q ?_ | refine s_qc (by omega) ?_ | refine n_some ?_ | rw [List.getD_cons_zero] | rw [List.getD_cons_succ])); exact hK2) ?_
  refine j_bandH (c := true) (fun _ K2 hK2 => by (repeat (first | refine s_p ?_ | refine s_c (by omega) ?_ | refine S.ld ?_ | refine S.ldB ?_ | refine S.ce ?_ | refine S.ceB ?_ | refine s_q ?_ | refine s_qc (by omega) ?_ | refine n_some ?_ | rw [List.getD_cons_zero] | rw [List.getD_cons_succ])); exact hK2) ?_
  refine j_bandH (c := true) (fun _ K2 hK2 => by (repeat (first | refine s_p ?_ | refine s_c (by omega) ?_ | refine S.ld ?_ | refine S.ldB ?_ | refine S.ce ?_ | refine S.ceB ?_ | refine s_q ?_ | refine s_qc (by omega) ?_ | refine n_some ?_ | rw [List.getD_cons_zero] | rw [List.getD_cons_succ])); exact hK2) ?_
  refine j_bandH (c := true) (fun _ K2 hK2 => by (repeat (first | refine s_p ?_ | refine s_c (by omega) ?_ | refine S.ld ?_ | refine S.ldB ?_ | refine S.ce ?_ | refine S.ceB ?_ | refine s_q ?_ | refine s_qc (by omega) ?_ | refine n_some ?_ | rw [List.getD_cons_zero] | rw [List.getD_cons_succ])); exact hK2) ?_
  refine j_bandH (c := true) (fun _ K2 hK2 => by (repeat (first | refine s_p ?_ | refine s_c (by omega) ?_ | refine S.ld ?_ | refine S.ldB ?_ | refine S.ce ?_ | refine S.ceB ?_ | refine s_q ?_ | refine s_qc (by omega) ?_ | refine n_some ?_ | rw [List.getD_cons_zero] | rw [List.getD_cons_succ])); exact hK2) ?_
  exact h _ S.ext
end Go.Proofs
end

section
namespace Go.Sh

section

variable {P : Program} {t : TypeId} {c : Bool} {K : Value → Prop}

/-- a sum, whatever it is -/
theorem p_addW {a b : Int} (k : ∀ x : Int, K (.int .i64 x)) : opP P (bsem .add t c (.int .i64 a) (.int .i64 b)) K :=
  p_of (fun w => by rw [bsem_int]; simp [binOp, Op.intArith]) (k (IntKind.i64.wrap (a + b)))
end

end Go.Sh

namespace Go.Proofs

open Go.Sh

set_option maxRecDepth 100000

set_option linter.unusedSimpArgs false

set_option linter.unusedVariables false

theorem c_law13_fits {u : UnD} {v : Value} {w : World} {r : Gh} {K : Value → World → Prop} (hr : Holds r w) (hu : UnG r v u) (h : ∀ (b : Bool) w', Ext w w' → K (.bool b) w') : oCall Try.prog Try.n_law13_fits #[v] w K := by
  refine Try.ok_law13_fits ?_
  unfold Try.F_law13_fits
  obtain ⟨p0, cap0, vf, rfl, _, _, hst, hsl, hfn⟩ := hu
  obtain ⟨qf, capf, rfl, _, _⟩ := hfn.sl.shape
  have hfl : u.fs.length ≤ 9223372036854775807 := hfn.few
  have hsl' : u.ss.length ≤ 9223372036854775807 := hsl
  have S := St.start hr
  refine S.box fun b1 w1 S => ?_
  have S : StX noX w r w1 [.cell b1 [.slice p0 u.ss.length cap0, .slice qf u.fs.length capf, .int .i64 u.mn] 43] := S
  (repeat (first|((with_reducible refine p_id ?_);first|refine s_p ?_|refine s_c (by omega) ?_)|((with_reducible refine q_id ?_);first|refine S.ld ?_|refine S.ldB ?_|refine S.ce ?_|refine S.ceB ?_|refine s_q ?_|refine s_qc (by omega) ?_)|with_reducible refine n_some ?_|rw [List.getD_cons_zero]|rw [List.getD_cons_succ]))
  refine j_borH (c := decide (40 < (u.fs.length : Int))) (fun _ K2 hK2 => by (repeat (first|((with_reducible refine p_id ?_);first|refine s_p ?_|refine s_c (by omega) ?_)|((with_reducible refine q_id ?_);first|refine S.ld ?_|refine S.ldB ?_|refine S.ce ?_|refine S.ceB ?_|refine s_q ?_|refine s_qc (by omega) ?_)|with_reducible refine n_some ?_|rw [List.getD_cons_zero]|rw [List.getD_cons_succ])); exact hK2) ?_
  refine c_b (fun _ => h _ _ S.ext) (fun _ => ?_)
  refine l_intro (ι := Nat) (fun i => [.int .i64 (i : Nat)]) (fun i w' => i ≤ u.ss.length ∧ StX noX w r w' _) (fun i => u.ss.length - i) 0 rfl ⟨Nat.zero_le _, S⟩ ?_
  clear S
  rintro i d w2 ⟨hi, S⟩ K6 hK6
  rw [List.getD_cons_zero]
  (repeat (first|((with_reducible refine p_id ?_);first|refine s_p ?_|refine s_c (by omega) ?_)|((with_reducible refine q_id ?_);first|refine S.ld ?_|refine S.ldB ?_|refine S.ce ?_|refine S.ceB ?_|refine s_q ?_|refine s_qc (by omega) ?_)|with_reducible refine n_some ?_|rw [List.getD_cons_zero]|rw [List.getD_cons_succ]))
  refine c_if (fun hlt => ?_) (fun hge => ?_)
  · have hlt : i < u.ss.length := by omega
    obtain ⟨b, off, q, capq, rfl, hcell, _, _, _⟩ := st_at hst hlt
    (repeat (first|((with_reducible refine p_id ?_);first|refine s_p ?_|refine s_c (by omega) ?_)|((with_reducible refine q_id ?_);first|refine S.ld ?_|refine S.ldB ?_|refine S.ce ?_|refine S.ceB ?_|refine s_q ?_|refine s_qc (by omega) ?_)|with_reducible refine n_some ?_|rw [List.getD_cons_zero]|rw [List.getD_cons_succ]))
    refine s_ld1 (by rw [Int.toNat_natCast]; exact S.at hcell) ?_
    (repeat (first|((with_reducible refine p_id ?_);first|refine s_p ?_|refine s_c (by omega) ?_)|((with_reducible refine q_id ?_);first|refine S.ld ?_|refine S.ldB ?_|refine S.ce ?_|refine S.ceB ?_|refine s_q ?_|refine s_qc (by omega) ?_)|with_reducible refine n_some ?_|rw [List.getD_cons_zero]|rw [List.getD_cons_succ]))
    refine c_b (fun _ => h _ _ S.ext) (fun _ => ?_)
    (repeat (first|((with_reducible refine p_id ?_);first|refine s_p ?_|refine s_c (by omega) ?_)|((with_reducible refine q_id ?_);first|refine S.ld ?_|refine S.ldB ?_|refine S.ce ?_|refine S.ceB ?_|refine s_q ?_|refine s_qc (by omega) ?_)|with_reducible refine n_some ?_|rw [List.getD_cons_zero]|rw [List.getD_cons_succ]))
    rw [show ((i : Int) + 1) = ((i + 1 : Nat) : Int) by omega]
    exact hK6 (i + 1) _ ⟨hlt, S⟩ (by omega)
  refine l_intro (ι := Nat × Int) (fun i => [.int .i64 i.2, .int .i64 (i.1 : Nat)]) (fun i w' => i.1 ≤ u.fs.length ∧ StX noX w r w' _) (fun i => u.fs.length - i.1) (0, 0) rfl ⟨Nat.zero_le _, S⟩ ?_
  clear S hK6 K6 hge hi
  rintro ⟨i, n⟩ d w3 ⟨hi, S⟩ K7 hK7
  simp only at hi S ⊢
  simp only [List.getD_cons_zero, List.getD_cons_succ]
  (repeat (first|((with_reducible refine p_id ?_);first|refine s_p ?_|refine s_c (by omega) ?_)|((with_reducible refine q_id ?_);first|refine S.ld ?_|refine S.ldB ?_|refine S.ce ?_|refine S.ceB ?_|refine s_q ?_|refine s_qc (by omega) ?_)|with_reducible refine n_some ?_|rw [List.getD_cons_zero]|rw [List.getD_cons_succ]))
  refine c_if (fun hlt => ?_) (fun hge => h _ _ S.ext)
  have hlt : i < u.fs.length := by omega
  obtain ⟨bf, of, cf, rfl, hcf, hgc, hfo⟩ := hfn.sl.get (by decide) hlt
  generalize u.fs[i] = g at hgc
  obtain ⟨vo, vt, vn, vp, rfl, h1, h2, h3, h4⟩ := id hgc
  obtain ⟨qt, capt, rfl, _, hct⟩ := h2.sl.shape
  obtain ⟨qp, capp, rfl, _, _⟩ := h4.sl.shape
  have S := S.go (Ext.drew _)
  have l4 : Ob r fun w => w.cell? ⟨bf, of + i * 7 + 4, none⟩ = some (.slice qt g.tys.length capt) := hfo 4 _ rfl
  have l6 : Ob r fun w => w.cell? ⟨bf, of + i * 7 + 6, none⟩ = some (.slice qp g.pts.length capp) := hfo 6 _ rfl
  (repeat (first|((with_reducible refine p_id ?_);first|refine s_p ?_|refine s_c (by omega) ?_)|((with_reducible refine q_id ?_);first|refine S.ld ?_|refine S.ldB ?_|refine S.ce ?_|refine S.ceB ?_|refine s_q ?_|refine s_qc (by omega) ?_)|with_reducible refine n_some ?_|rw [List.getD_cons_zero]|rw [List.getD_cons_succ]))
  refine s_ld1 (by rw [Int.toNat_natCast]; exact S.at l6) ?_
  (repeat (first|((with_reducible refine p_id ?_);first|refine s_p ?_|refine s_c (by omega) ?_)|((with_reducible refine q_id ?_);first|refine S.ld ?_|refine S.ldB ?_|refine S.ce ?_|refine S.ceB ?_|refine s_q ?_|refine s_qc (by omega) ?_)|with_reducible refine n_some ?_|rw [List.getD_cons_zero]|rw [List.getD_cons_succ]))
  refine s_ld1 (by rw [Int.toNat_natCast]; exact S.at l4) ?_
  ((with_reducible refine p_id ?_);first|refine s_p ?_|refine s_c (by omega) ?_)
  refine p_addW fun x => ?_
  refine p_addW fun y => ?_
  (repeat (first|((with_reducible refine p_id ?_);first|refine s_p ?_|refine s_c (by omega) ?_)|((with_reducible refine q_id ?_);first|refine S.ld ?_|refine S.ldB ?_|refine S.ce ?_|refine S.ceB ?_|refine s_q ?_|refine s_qc (by omega) ?_)|with_reducible refine n_some ?_|rw [List.getD_cons_zero]|rw [List.getD_cons_succ]))
  refine s_ld1 (by rw [Int.toNat_natCast]; exact S.at l6) ?_
  (repeat (first|((with_reducible refine p_id ?_);first|refine s_p ?_|refine s_c (by omega) ?_)|((with_reducible refine q_id ?_);first|refine S.ld ?_|refine S.ldB ?_|refine S.ce ?_|refine S.ceB ?_|refine s_q ?_|refine s_qc (by omega) ?_)|with_reducible refine n_some ?_|rw [List.getD_cons_zero]|rw [List.getD_cons_succ]))
  refine j_borH (c := decide (150 < (g.tys.length : Int))) (fun _ K2 hK2 => ?_) ?_
  · (repeat (first|((with_reducible refine p_id ?_);first|refine s_p ?_|refine s_c (by omega) ?_)|((with_reducible refine q_id ?_);first|refine S.ld ?_|refine S.ldB ?_|refine S.ce ?_|refine S.ceB ?_|refine s_q ?_|refine s_qc (by omega) ?_)|with_reducible refine n_some ?_|rw [List.getD_cons_zero]|rw [List.getD_cons_succ]))
    refine s_ld1 (by rw [Int.toNat_natCast]; exact S.at l4) ?_
    (repeat (first|((with_reducible refine p_id ?_);first|refine s_p ?_|refine s_c (by omega) ?_)|((with_reducible refine q_id ?_);first|refine S.ld ?_|refine S.ldB ?_|refine S.ce ?_|refine S.ceB ?_|refine s_q ?_|refine s_qc (by omega) ?_)|with_reducible refine n_some ?_|rw [List.getD_cons_zero]|rw [List.getD_cons_succ]))
    exact hK2
  refine j_borH (c := decide (600 < y)) (fun _ K2 hK2 => by (repeat (first|((with_reducible refine p_id ?_);first|refine s_p ?_|refine s_c (by omega) ?_)|((with_reducible refine q_id ?_);first|refine S.ld ?_|refine S.ldB ?_|refine S.ce ?_|refine S.ceB ?_|refine s_q ?_|refine s_qc (by omega) ?_)|with_reducible refine n_some ?_|rw [List.getD_cons_zero]|rw [List.getD_cons_succ])); exact hK2) ?_
  refine c_b (fun _ => h _ _ S.ext) (fun _ => ?_)
  (repeat (first|((with_reducible refine p_id ?_);first|refine s_p ?_|refine s_c (by omega) ?_)|((with_reducible refine q_id ?_);first|refine S.ld ?_|refine S.ldB ?_|refine S.ce ?_|refine S.ceB ?_|refine s_q ?_|refine s_qc (by omega) ?_)|with_reducible refine n_some ?_|rw [List.getD_cons_zero]|rw [List.getD_cons_succ]))
  rw [show ((i : Int) + 1) = ((i + 1 : Nat) : Int) by omega]
  exact hK7 (i + 1, y) _ ⟨hlt, S⟩ (by show u.fs.length - (i + 1) < u.fs.length - i; omega)
end Go.Proofs
end

section
namespace Go.Sh
open Go.RowKit
theorem zeroCells_list (z : Array Value) (n : Nat) : (Go.Builtin.zeroCells z n).toList.length = n * z.size ∧ ∀ u ∈ (Go.Builtin.zeroCells z n).toList, u ∈ z.toList := by
  refine ⟨by simp [Go.Builtin.zeroCells], fun u hu => ?_⟩
  simp only [Go.Builtin.zeroCells, Array.toList_map, Array.toList_range, List.mem_map, List.mem_range] at hu
  obtain ⟨i, hi, rfl⟩ := hu
  have hz : 0 < z.size := by
    rcases Nat.eq_zero_or_pos z.size with h | h
    · rw [h, Nat.mul_zero] at hi; omega
    · exact h
  have hm := Nat.mod_lt i hz
  rw [getElem!_pos z (i % z.size) hm]
  simp
section
variable {P : Program} {X : Nat → Prop} {w0 w : World} {r : Gh} {L : List Asr} {t e T ty : TypeId} {b sz n off cap : Nat} {c z : List Value} {f : List Value → List Asr}
/-- clear(s) of a slice within a cell of one's own: other cells, as many -/
theorem StX.clr {K : Value → World → Prop} (S : StX X w0 r w L) [h : At b L c T f] [hs : SlT P t e sz] [hz : ZrT P e z] (hl : off + n * z.length ≤ c.length) (h1 : ∀ u ∈ z, u.oneCell' = true)
    (k : ∀ c' w', c'.length = c.length → c'.take off = c.take off → StX X w0 r w' (f c') → K (.tuple #[]) w') : opW P w (Builtin.clear_ #[t] ty #[.slice (some ⟨b, off, none⟩) n cap]) K := by
  have hT := hs.h
  unfold slT at hT
  cases hu : P.underlying t with
  | none => rw [hu] at hT; cases hT
  | some d =>
    rw [hu] at hT
    cases d <;> first | (cases hT; done) | skip
    rename_i e'
    simp only [Option.map_eq_some_iff, Prod.mk.injEq] at hT
    obtain ⟨m, hm, rfl, rfl⟩ := hT
    have B := S.blk b (h := h)
    obtain ⟨zv, hzc, hzr⟩ := run_zero hz.h
    cases n with
    | zero =>
      have S' : StX X w0 r w (f c) := by
        obtain ⟨p, q, h1, h2⟩ := h.h
        rw [h2, ← h1]; exact S
      refine ⟨_, w, ?_, k c w rfl rfl S'⟩
      simp [Builtin.clear_, run_underlying hu, Sem.run_bind, Sem.run, pure, Result.andThen]
    | succ n =>
      obtain ⟨hzl, hzm⟩ := zeroCells_list zv.cells (n + 1)
      have hzs : zv.cells.size = z.length := by rw [← hzc, Array.length_toList]
      have hst := run_storeCells_at P b off T (Go.Builtin.zeroCells zv.cells (n + 1)).toList 0 c.toArray w B (by
        rw [hzl, hzs]; simpa using hl) (fun u hu => h1 u (by rw [← hzc]; exact hzm u hu))
      simp only [Nat.add_zero] at hst
      obtain ⟨f1, f2, f3⟩ := setRow_facts B (c.take off ++ (Go.Builtin.zeroCells zv.cells (n + 1)).toList ++ c.drop (off + (Go.Builtin.zeroCells zv.cells (n + 1)).toList.length))
      refine ⟨_, _, ?_, k _ _ ?_ ?_ (S.turnC (h := h) f1 f3)⟩
      · simp [Builtin.clear_, run_underlying hu, Sem.run_bind, Sem.run, pure, Result.andThen, hzr, hst]
        try rfl
      · simp only [List.length_append, List.length_take, List.length_drop, hzl, hzs]; omega
      · rw [List.append_assoc, List.take_append_of_le_length (by rw [List.length_take]; omega), List.take_take, Nat.min_self]
end
end Go.Sh
end

section
namespace Go.Proofs

open Go.Sh

set_option maxRecDepth 100000

set_option linter.unusedSimpArgs false

set_option linter.unusedVariables false

theorem point_pt {u : UnD} {g : GrD} {p : PtD} (h : pointG u g p = true) : ptG u g p = true := by
  rw [pointG, Bool.and_eq_true] at h; exact h.2
theorem point_to {u : UnD} {g : GrD} {p : PtD} (h : pointG u g p = true) (ho : 1 ≤ p.op ∧ p.op ≤ 8) : (spotG u.ss g.tys p.to).2.2 = true := by
  have h2 := point_pt h
  cases hf : (spotG u.ss g.tys p.to).2.2 with
  | true => rfl
  | false =>
    have hc : p.op = 1 ∨ p.op = 2 ∨ p.op = 3 ∨ p.op = 4 ∨ p.op = 5 ∨ p.op = 6 ∨ p.op = 7 ∨ p.op = 8 := by omega
    rw [ptG] at h2
    rcases hc with hc | hc | hc | hc | hc | hc | hc | hc <;> simp [hc, hf] at h2
theorem spot_short {ss : List StD} {tys : List TyD} {p : PlD} (h : (spotG ss tys p).2.2 = true) : p.ps.length ≤ 8 := by
  unfold spotG at h
  split at h
  · simpa using h
  · cases h
theorem to_short {u : UnD} {g : GrD} {p : PtD} (h : pointG u g p = true) (ho : 1 ≤ p.op ∧ p.op ≤ 8) : p.to.ps.length ≤ 8 := spot_short (point_to h ho)
/-! ### A function, a point -/

noncomputable def fnE (u : UnD) (n : Int) : Int := if (decide (n < 0) || decide ((u.fs.length : Int) ≤ n)) || !mayU u then 2 else 0
theorem fnE_ok {u : UnD} {n : Int} (h : fnE u n = 0) : MayU u ∧ 0 ≤ n ∧ n.toNat < u.fs.length := by
  unfold fnE at h
  split at h
  · cases h
  · rename_i hc
    simp only [Bool.or_eq_true, decide_eq_true_eq, Bool.not_eq_true', not_or, Bool.not_eq_false] at hc
    exact ⟨mayU_iff.1 hc.2, by omega, by omega⟩
noncomputable def ptE (u : UnD) (n q : Int) : Int := if fnE u n = 0 ∧ 0 ≤ q ∧ q < ((u.fs[n.toNat]?.map fun g => (g.pts.length : Int)).getD 0) then 0 else 2
theorem ptE_ok {u : UnD} {n q : Int} (h : ptE u n q = 0) : fnE u n = 0 ∧ 0 ≤ q ∧ ∃ hn : n.toNat < u.fs.length, q.toNat < u.fs[n.toNat].pts.length := by
  unfold ptE at h
  split at h
  · rename_i hc
    obtain ⟨h1, h2, h3⟩ := hc
    have hn := (fnE_ok h1).2.2
    rw [List.getElem?_eq_getElem hn] at h3
    have h3 : q < (u.fs[n.toNat].pts.length : Int) := h3
    exact ⟨h1, h2, hn, by omega⟩
  · cases h
def zeroG : GrD := ⟨ByteArray.empty, 0, [], 0, [], [], []⟩
abbrev zeroGL : List Value := [.string ByteArray.empty, .int .i64 0, .slice none 0 0, .int .i64 0, .slice none 0 0, .slice none 0 0, .slice none 0 0]
theorem zeroG_G {r : Gh} : GrG r zeroGL zeroG := ⟨_, _, _, _, rfl, slB_nil, slB_nil, slB_nil, slB_nil⟩
abbrev grL (g : GrD) (q1 q2 q3 q4 : Option Addr) (c1 c2 c3 c4 : Nat) : List Value := [.string g.name, .int .i64 g.lv, .slice q1 g.outs.length c1, .int .i64 g.pn, .slice q2 g.tys.length c2, .slice q3 g.nms.length c3, .slice q4 g.pts.length c4]
theorem gr_form {r : Gh} {c : List Value} {g : GrD} (h : GrG r c g) : ∃ q1 q2 q3 q4 c1 c2 c3 c4, c = grL g q1 q2 q3 q4 c1 c2 c3 c4 ∧ GrG r (grL g q1 q2 q3 q4 c1 c2 c3 c4) g := by
  obtain ⟨vo, vt, vn, vp, rfl, k1, k2, k3, k4⟩ := id h
  obtain ⟨q1, c1, rfl, _⟩ := k1.sl.shape
  obtain ⟨q2, c2, rfl, _⟩ := k2.sl.shape
  obtain ⟨q3, c3, rfl, _⟩ := k3.sl.shape
  obtain ⟨q4, c4, rfl, _⟩ := k4.sl.shape
  exact ⟨q1, q2, q3, q4, c1, c2, c3, c4, rfl, h⟩
theorem c_graph_fn {u : UnD} {n : Int} {v : Value} {w : World} {r : Gh} {K : Value → World → Prop} (hr : Holds r w) (hu : UnG r v u)
    (h : ∀ c g w', Ext w w' → GrG r c g → (fnE u n = 0 → u.fs[n.toNat]? = some g) → K (.tuple #[.agg c.toArray, .int .i64 (fnE u n)]) w') : oCall Try.prog Try.n_graph_fn #[v, .int .i64 n] w K := by
  refine Try.ok_graph_fn ?_
  unfold Try.F_graph_fn
  have hu0 := hu
  obtain ⟨p0, cap0, vf, rfl, _, _, hst, hsl, hfn⟩ := hu
  obtain ⟨qf, capf, rfl, _, _⟩ := hfn.sl.shape
  have hfl : u.fs.length ≤ 9223372036854775807 := hfn.few
  have S := St.start hr
  refine S.box fun b2 w1 S => ?_
  have S : StX noX w r w1 [.cell b2 [.slice p0 u.ss.length cap0, .slice qf u.fs.length capf, .int .i64 u.mn] 43] := S
  refine S.al fun b4 w2 S => ?_
  ((with_reducible refine p_id ?_);first|refine s_p ?_|refine s_c (by omega) ?_)
  refine j_borH (c := decide ((u.fs.length : Int) ≤ n)) (fun _ K2 hK2 => by (repeat (first|((with_reducible refine p_id ?_);first|refine s_p ?_|refine s_c (by omega) ?_)|((with_reducible refine q_id ?_);first|refine S.ld ?_|refine S.ldB ?_|refine S.ce ?_|refine S.ceB ?_|refine s_q ?_|refine s_qc (by omega) ?_)|with_reducible refine n_some ?_|rw [List.getD_cons_zero]|rw [List.getD_cons_succ])); exact hK2) ?_
  refine j_borE (c := !mayU u) (fun _ K2 hK2 => ?_) fun w3 e3 => ?_
  · refine S.ldB (b := b2) ?_ rfl
    refine c_graph_May S.holds hu0 fun w3 e3 => ?_
    ((with_reducible refine p_id ?_);first|refine s_p ?_|refine s_c (by omega) ?_)
    exact hK2 _ e3
  have S := S.go e3
  refine c_b (fun hb => ?_) (fun hb => ?_)
  · have hE : fnE u n = 2 := by rw [fnE, if_pos hb]
    rw [hE] at h
    refine p_build (cs := zeroGL.toArray) (by kernel_rfl) ?_
    refine S.stB (b := b4) fun w4 S => ?_
    refine S.ceB (b := b4) ?_ rfl
    exact h _ zeroG _ S.ext zeroG_G fun h => by cases h
  · have hE : fnE u n = 0 := by rw [fnE, if_neg (by rw [hb]; decide)]
    obtain ⟨_, hn0, hlt⟩ := fnE_ok hE
    rw [hE] at h
    obtain ⟨bf, of, cf, rfl, hcf, hgc, hfo⟩ := hfn.sl.get (by decide) hlt
    rw [List.getElem?_eq_getElem hlt] at h
    generalize u.fs[n.toNat] = g at h hgc
    obtain ⟨x1, x2, x3, x4, y1, y2, y3, y4, rfl, hg0⟩ := gr_form hgc
    (repeat (first|((with_reducible refine p_id ?_);first|refine s_p ?_|refine s_c (by omega) ?_)|((with_reducible refine q_id ?_);first|refine S.ld ?_|refine S.ldB ?_|refine S.ce ?_|refine S.ceB ?_|refine s_q ?_|refine s_qc (by omega) ?_)|with_reducible refine n_some ?_|rw [List.getD_cons_zero]|rw [List.getD_cons_succ]))
    refine s_ldN (n := 7) hcf (fun j v hj => S.at (hfo j v hj)) ?_
    refine S.stB (b := b4) fun w4 S => ?_
    refine S.ceB (b := b4) ?_ rfl
    exact h _ g _ S.ext hg0 fun _ => rfl
theorem c_graph_point {u : UnD} {n q : Int} {v : Value} {w : World} {r : Gh} {K : Value → World → Prop} (hr : Holds r w) (hu : UnG r v u)
    (h : ∀ c p w', Ext w w' → PtG r c p → (ptE u n q = 0 → ptAt u n q = some p) → K (.tuple #[.agg c.toArray, .int .i64 (ptE u n q)]) w') : oCall Try.prog Try.n_graph_point #[v, .int .i64 n, .int .i64 q] w K := by
  refine Try.ok_graph_point ?_
  unfold Try.F_graph_point
  have hu0 := hu
  obtain ⟨p0, cap0, vf, rfl, _, _, hst, hsl, hfn⟩ := hu
  obtain ⟨qf, capf, rfl, _, _⟩ := hfn.sl.shape
  have S := St.start hr
  refine S.box fun b3 w1 S => ?_
  have S : StX noX w r w1 [.cell b3 [.slice p0 u.ss.length cap0, .slice qf u.fs.length capf, .int .i64 u.mn] 43] := S
  refine S.al fun b6 w2 S => ?_
  refine S.ldB (b := b3) ?_ rfl
  refine c_graph_fn S.holds hu0 fun c g w3 e3 hg hgi => ?_
  have S := S.go e3
  obtain ⟨x1, x2, x3, x4, y1, y2, y3, y4, rfl, hg0⟩ := gr_form hg
  (repeat (first | refine s_p ?_ | refine s_c (by omega) ?_))
  refine S.al fun b8 w4 S => ?_
  refine S.stB (b := b8) fun w5 S => ?_
  ((with_reducible refine p_id ?_);first|refine s_p ?_|refine s_c (by omega) ?_)
  refine j_borH (c := decide (q < 0)) (fun _ K2 hK2 => by (repeat (first|((with_reducible refine p_id ?_);first|refine s_p ?_|refine s_c (by omega) ?_)|((with_reducible refine q_id ?_);first|refine S.ld ?_|refine S.ldB ?_|refine S.ce ?_|refine S.ceB ?_|refine s_q ?_|refine s_qc (by omega) ?_)|with_reducible refine n_some ?_|rw [List.getD_cons_zero]|rw [List.getD_cons_succ])); exact hK2) ?_
  refine j_borH (c := decide ((g.pts.length : Int) ≤ q)) (fun _ K2 hK2 => by (repeat (first|((with_reducible refine p_id ?_);first|refine s_p ?_|refine s_c (by omega) ?_)|((with_reducible refine q_id ?_);first|refine S.ld ?_|refine S.ldB ?_|refine S.ce ?_|refine S.ceB ?_|refine s_q ?_|refine s_qc (by omega) ?_)|with_reducible refine n_some ?_|rw [List.getD_cons_zero]|rw [List.getD_cons_succ])); exact hK2) ?_
  have hP : ptE u n q = if ((decide (fnE u n ≠ 0) || decide (q < 0)) || decide ((g.pts.length : Int) ≤ q)) = true then 2 else 0 := by
    unfold ptE
    by_cases h0 : fnE u n = 0
    · have e : ((u.fs[n.toNat]?.map fun g => (g.pts.length : Int)).getD 0) = g.pts.length := by rw [hgi h0]; rfl
      rw [e]
      by_cases h1 : q < 0
      · rw [if_neg (by omega), if_pos (by rw [decide_eq_true h1]; simp)]
      by_cases h2 : (g.pts.length : Int) ≤ q
      · rw [if_neg (by omega), if_pos (by rw [decide_eq_true h2]; simp)]
      · rw [if_pos ⟨h0, by omega, by omega⟩, if_neg (by rw [decide_eq_false (show ¬ fnE u n ≠ 0 by omega), decide_eq_false h1, decide_eq_false h2]; decide)]
    · rw [if_neg (fun hh => h0 hh.1), if_pos (by rw [decide_eq_true (show fnE u n ≠ 0 from h0)]; rfl)]
  refine c_b (fun hb => ?_) (fun hb => ?_)
  · rw [if_pos hb] at hP
    rw [hP] at h
    refine p_build (cs := zeroPtL.toArray) (by kernel_rfl) ?_
    refine S.stB (b := b6) fun w6 S => ?_
    refine S.ceB (b := b6) ?_ rfl
    exact h _ zeroPt _ S.ext zeroPt_G fun h => by cases h
  · rw [if_neg (by rw [hb]; decide)] at hP
    rw [hP] at h
    simp only [Bool.or_eq_false_iff, decide_eq_false_iff_not] at hb
    obtain ⟨⟨hf, hq0⟩, hql⟩ := hb
    have hgn := hgi (by omega)
    obtain ⟨_, _, _, _, hE, _, _, _, hpts⟩ := hg0
    cases hE
    have hlq : q.toNat < g.pts.length := by omega
    obtain ⟨bp, op, cp, rfl, hcp, hpc, hpo⟩ := hpts.sl.get (by decide) hlq
    have hpa : ptAt u n q = some g.pts[q.toNat] := by rw [ptAt, hgn, Option.bind_some, List.getElem?_eq_getElem hlq]
    rw [hpa] at h
    generalize g.pts[q.toNat] = p at h hpc
    obtain ⟨z1, z2, z3, z4, z5, t1, t2, t3, t4, t5, rfl, hp0⟩ := pt_form hpc
    (repeat (first|((with_reducible refine p_id ?_);first|refine s_p ?_|refine s_c (by omega) ?_)|((with_reducible refine q_id ?_);first|refine S.ld ?_|refine S.ldB ?_|refine S.ce ?_|refine S.ceB ?_|refine s_q ?_|refine s_qc (by omega) ?_)|with_reducible refine n_some ?_|rw [List.getD_cons_zero]|rw [List.getD_cons_succ]))
    refine s_ldN (n := 21) hcp (fun j v hj => S.at (hpo j v hj)) ?_
    refine S.stB (b := b6) fun w6 S => ?_
    refine S.ceB (b := b6) ?_ rfl
    exact h _ p _ S.ext hp0 fun _ => rfl
/-! ### Places and operands in memory of their own -/

/-- the cells of a list of numbers -/
theorem slB_sl {r : Gh} {p : Option Addr} {n cap : Nat} {l : List Int} (h : SlB 1 r StpC (.slice p n cap) l) : Ob r fun w => Sl w p (ints l) := sl_ints (h.sl.mono fun c x hx => hx.1)
theorem rowOf_stp {l : List Int} (h : ∀ x ∈ l, in64 x) : RowOf 1 StpC (ints l) l := ⟨by rw [ints_len, Nat.mul_one], fun j hj => by
  refine ⟨?_, h _ (List.getElem_mem hj)⟩
  rw [Nat.mul_one, ints, ← List.map_drop, ← List.map_take, List.drop_eq_getElem_cons hj]; rfl⟩
theorem c_Clone_stp {l : List Int} {p : Option Addr} {cap : Nat} {w : World} {r : Gh} {K : Value → World → Prop} (hr : Holds r w) (hl : SlB 1 r StpC (.slice p l.length cap) l) (hb : l.length ≤ 1000000)
    (h : ∀ v' s w', Ext w w' → New w s w' → SlB 1 s StpC v' l → K v' w') : oCall Try.prog Try.n_slices_Clone_api_Step_api_Step #[.slice p l.length cap] w K := by
  refine Try.ok_slices_Clone_api_Step_api_Step ?_
  unfold Try.F_slices_Clone_api_Step_api_Step
  have S := St.start hr
  have hin : ∀ x ∈ l, in64 x := fun x hx => by
    obtain ⟨i, hi, rfl⟩ := List.getElem_of_mem hx
    obtain ⟨_, _, _, _, _, hc, _⟩ := hl.sl.get (by decide) hi
    exact hc.2
  obtain ⟨_, _, hE, hp, _⟩ := hl.sl.shape
  cases hE
  refine p_eqNilS (e := 107) (n := 1) (by kernel_rfl) ?_
  refine c_b (fun hn => ?_) (fun hn => ?_)
  · have hws : l = [] := by
      cases l with
      | nil => rfl
      | cons a l => obtain ⟨b, off, hb, _⟩ := (slB_sl hl w hr) 0 (.int .i64 a) rfl; rw [hb] at hn; cases hn
    subst hws
    exact h _ nothing _ S.ext New.nothing slB_nil
  refine S.lit (e := 107) (cs := []) (by kernel_rfl) fun b w1 S => ?_
  have S : StX noX w r w1 [.row (.slice (some ⟨b, 0, none⟩) 0 0) 107 1 0 []] := by
    refine ⟨S.x, S.holds, fun x hx => ?_, fun x hx k hk => ?_, List.pairwise_singleton _ _⟩
    · rw [List.mem_singleton.1 hx]
      have := own_of_blk (w := w1) (base := 0) (size := 1) (n := 0) (cap := 0) (Nat.zero_le _) (S.has (.cell b [] 107) (by simp)) (Nat.le_refl _) (by simp [maxLen]) rfl
      exact this
    · rw [List.mem_singleton.1 hx] at hk
      exact S.mine (.cell b [] 107) (by simp) k (by cases hk; rfl)
  refine S.ap (v := .slice (some ⟨b, 0, none⟩) 0 0) (S.at (slB_sl hl)) (fun v2 w2 S => ?_) (by omega) (by rw [ints_len]; omega) hp (ints_ones _)
  obtain ⟨s, S, hs, _, ha⟩ := S.doneRow (l := l) (R := StpC) (sz := 1) (by rw [List.nil_append]; exact rowOf_stp hin) (by decide) (by omega)
  exact h _ s _ S.ext (S.newOf fun b o ho => (ha b o ho).resolve_right id) ⟨hs, by simp only [maxLen]; omega⟩
theorem c_graph_ownPlace {p : PlD} {c : List Value} {w : World} {r : Gh} {K : Value → World → Prop} (hr : Holds r w) (hp : PlG r c p) (hb : p.ps.length ≤ 1000000)
    (h : ∀ c' s w', Ext w w' → New w s w' → PlG s c' p → K (.agg c'.toArray) w') : oCall Try.prog Try.n_graph_ownPlace #[.agg c.toArray] w K := by
  refine Try.ok_graph_ownPlace ?_
  unfold Try.F_graph_ownPlace
  obtain ⟨v, rfl, hl⟩ := hp
  obtain ⟨qs, caps, rfl, _, _⟩ := hl.sl.shape
  have S := St.start hr
  refine S.box fun b1 w1 S => ?_
  have S : StX noX w r w1 [.cell b1 [.int .i64 p.l, .slice qs p.ps.length caps] 58] := S
  refine S.al fun b2 w2 S => ?_
  have S := S.go (Ext.drew _)
  (repeat (first|((with_reducible refine p_id ?_);first|refine s_p ?_|refine s_c (by omega) ?_)|((with_reducible refine q_id ?_);first|refine S.ld ?_|refine S.ldB ?_|refine S.ce ?_|refine S.ceB ?_|refine s_q ?_|refine s_qc (by omega) ?_)|with_reducible refine n_some ?_|rw [List.getD_cons_zero]|rw [List.getD_cons_succ]))
  refine c_Clone_stp S.holds hl hb fun v3 s w3 e3 n3 h3 => ⟨e3, ?_⟩
  obtain ⟨S, d3, a3⟩ := S.tell e3 n3
  obtain ⟨q3, c3, rfl, _, _⟩ := h3.sl.shape
  refine p_build (cs := #[.int .i64 p.l, .slice q3 p.ps.length c3]) (by kernel_rfl) ?_
  refine S.stB (b := b2) fun w4 S => ?_
  refine S.ceB (b := b2) ?_ rfl
  exact h _ s _ S.ext (S.newOf a3) ⟨_, rfl, h3⟩
theorem c_graph_ownOperand {o : OpD} {c : List Value} {w : World} {r : Gh} {K : Value → World → Prop} (hr : Holds r w) (ho : OpG r c o) (hb : o.pl.ps.length ≤ 1000000)
    (h : ∀ c' s w', Ext w w' → New w s w' → OpG s c' o → K (.agg c'.toArray) w') : oCall Try.prog Try.n_graph_ownOperand #[.agg c.toArray] w K := by
  refine Try.ok_graph_ownOperand ?_
  unfold Try.F_graph_ownOperand
  obtain ⟨v, rfl, hl⟩ := ho
  obtain ⟨qs, caps, rfl, _, _⟩ := hl.sl.shape
  have S := St.start hr
  refine S.box fun b1 w1 S => ?_
  have S : StX noX w r w1 [.cell b1 [.int .u8 o.k, .int .i64 o.n, .int .i64 o.pl.l, .slice qs o.pl.ps.length caps] 61] := S
  refine S.al fun b2 w2 S => ?_
  (repeat (first|((with_reducible refine p_id ?_);first|refine s_p ?_|refine s_c (by omega) ?_)|((with_reducible refine q_id ?_);first|refine S.ld ?_|refine S.ldB ?_|refine S.ce ?_|refine S.ceB ?_|refine s_q ?_|refine s_qc (by omega) ?_)|with_reducible refine n_some ?_|rw [List.getD_cons_zero]|rw [List.getD_cons_succ]))
  refine S.ldN (b := b1) ?_
  refine c_graph_ownPlace (p := o.pl) S.holds ⟨_, rfl, hl⟩ hb fun c3 s w3 e3 n3 h3 => ?_
  obtain ⟨S, d3, a3⟩ := S.tell e3 n3
  obtain ⟨v3, rfl, hl3⟩ := h3
  obtain ⟨q3, k3, rfl, _, _⟩ := hl3.sl.shape
  (repeat (first|((with_reducible refine p_id ?_);first|refine s_p ?_|refine s_c (by omega) ?_)|((with_reducible refine q_id ?_);first|refine S.ld ?_|refine S.ldB ?_|refine S.ce ?_|refine S.ceB ?_|refine s_q ?_|refine s_qc (by omega) ?_)|with_reducible refine n_some ?_|rw [List.getD_cons_zero]|rw [List.getD_cons_succ]))
  refine S.stN (b := b1) fun w4 S => ?_
  refine S.ldB (b := b1) ?_ rfl
  refine S.stB (b := b2) fun w5 S => ?_
  refine S.ceB (b := b2) ?_ rfl
  exact h _ s _ S.ext (S.newOf a3) ⟨_, rfl, hl3⟩
/-! ### What is assigned -/

noncomputable def assE (u : UnD) (n q : Int) : Option PlD := if ptE u n q ≠ 0 then none else match ptAt u n q with | some p => if p.op < 1 ∨ 8 < p.op then none else some p.to | none => none
theorem c_graph_Assigns {u : UnD} {n q : Int} {v : Value} {w : World} {r : Gh} {K : Value → World → Prop} (hr : Holds r w) (hu : UnG r v u)
    (hN : ∀ e w', assE u n q = none → Ext w w' → K (.tuple #[.agg #[.int .i64 0, .slice none 0 0], .bool false, .int .i64 e]) w')
    (hS : ∀ p c s w', assE u n q = some p → Ext w w' → New w s w' → PlG s c p → K (.tuple #[.agg c.toArray, .bool true, .int .i64 0]) w') : oCall Try.prog Try.n_graph_Assigns #[v, .int .i64 n, .int .i64 q] w K := by
  refine Try.ok_graph_Assigns ?_
  unfold Try.F_graph_Assigns
  have hu0 := hu
  obtain ⟨p0, cap0, vf, rfl, _, _, hst, hsl, hfn⟩ := hu
  obtain ⟨qf, capf, rfl, _, _⟩ := hfn.sl.shape
  have S := St.start hr
  refine S.box fun b3 w1 S => ?_
  have S : StX noX w r w1 [.cell b3 [.slice p0 u.ss.length cap0, .slice qf u.fs.length capf, .int .i64 u.mn] 43] := S
  refine S.al fun b6 w2 S => ?_
  refine S.ldB (b := b3) ?_ rfl
  refine c_graph_point S.holds hu0 fun c p w3 e3 hp hpi => ?_
  have S := S.go e3
  obtain ⟨z1, z2, z3, z4, z5, t1, t2, t3, t4, t5, rfl, hp0⟩ := pt_form hp
  (repeat (first | refine s_p ?_ | refine s_c (by omega) ?_))
  refine S.al fun b9 w4 S => ?_
  refine S.stB (b := b9) fun w5 S => ?_
  ((with_reducible refine p_id ?_);first|refine s_p ?_|refine s_c (by omega) ?_)
  refine j_borH (c := decide (p.op < 1)) (fun _ K2 hK2 => by (repeat (first|((with_reducible refine p_id ?_);first|refine s_p ?_|refine s_c (by omega) ?_)|((with_reducible refine q_id ?_);first|refine S.ld ?_|refine S.ldB ?_|refine S.ce ?_|refine S.ceB ?_|refine s_q ?_|refine s_qc (by omega) ?_)|with_reducible refine n_some ?_|rw [List.getD_cons_zero]|rw [List.getD_cons_succ])); exact hK2) ?_
  refine j_borH (c := decide (8 < p.op)) (fun _ K2 hK2 => by (repeat (first|((with_reducible refine p_id ?_);first|refine s_p ?_|refine s_c (by omega) ?_)|((with_reducible refine q_id ?_);first|refine S.ld ?_|refine S.ldB ?_|refine S.ce ?_|refine S.ceB ?_|refine s_q ?_|refine s_qc (by omega) ?_)|with_reducible refine n_some ?_|rw [List.getD_cons_zero]|rw [List.getD_cons_succ])); exact hK2) ?_
  refine c_b (fun hb => ?_) (fun hb => ?_)
  · have hA : assE u n q = none := by
      unfold assE
      by_cases h0 : ptE u n q = 0
      · rw [if_neg (by omega), hpi h0]
        simp only [Bool.or_eq_true, decide_eq_true_eq] at hb
        dsimp only
        rw [if_pos (by omega)]
      · rw [if_pos h0]
    refine S.ldB (b := b6) ?_ rfl
    refine S.stB (b := b6) fun w6 S => ?_
    refine S.ceB (b := b6) ?_ rfl
    exact hN _ _ hA S.ext
  · simp only [Bool.or_eq_false_iff, decide_eq_false_iff_not] at hb
    have h0 : ptE u n q = 0 := by omega
    have hA : assE u n q = some p.to := by
      unfold assE
      rw [if_neg (by omega), hpi h0]
      dsimp only
      rw [if_neg (by omega)]
    obtain ⟨_, _, _, _, _, hE, k1, _⟩ := id hp0
    cases hE
    have hpl : p.to.ps.length ≤ 1000000 := by
      obtain ⟨hf, hq0, hn, hql⟩ := ptE_ok h0
      obtain ⟨hM, _, _⟩ := fnE_ok hf
      obtain ⟨_, hpe⟩ := ptAt_mem hn (hpi h0)
      have hpg := hM.pts _ (List.getElem_mem hn) p (by rw [← hpe]; exact List.getElem_mem _)
      have := to_short hpg (by omega)
      omega
    (repeat (first|((with_reducible refine p_id ?_);first|refine s_p ?_|refine s_c (by omega) ?_)|((with_reducible refine q_id ?_);first|refine S.ld ?_|refine S.ldB ?_|refine S.ce ?_|refine S.ceB ?_|refine s_q ?_|refine s_qc (by omega) ?_)|with_reducible refine n_some ?_|rw [List.getD_cons_zero]|rw [List.getD_cons_succ]))
    refine S.ldN (b := b9) ?_
    refine c_graph_ownPlace (p := p.to) S.holds ⟨_, rfl, k1⟩ hpl fun c6 s w6 e6 n6 h6 => ?_
    obtain ⟨S, d6, a6⟩ := S.tell e6 n6
    obtain ⟨v6, rfl, hl6⟩ := id h6
    obtain ⟨q6, k6, rfl, _, _⟩ := hl6.sl.shape
    refine S.stB (b := b6) fun w7 S => ?_
    refine S.ceB (b := b6) ?_ rfl
    exact hS _ _ s _ hA S.ext (S.newOf a6) h6
/-- the type of a place of a graph, told -/
noncomputable def grTy (u : UnD) (n : Int) (p : PlD) : TyD × Int := if fnE u n ≠ 0 then (zeroD, 2) else match u.fs[n.toNat]? with
  | some g => if (spotG u.ss g.tys p).2.2 then ((spotG u.ss g.tys p).1, 0) else (zeroD, 2) | none => (zeroD, 2)
theorem c_graph_Type {u : UnD} {n : Int} {p : PlD} {c : List Value} {v : Value} {w : World} {r : Gh} {K : Value → World → Prop} (hr : Holds r w) (hu : UnG r v u) (hp : PlG r c p)
    (h : ∀ v' sn w', Ext w w' → New w sn w' → TyG sn v' (grTy u n p).1 → K (.tuple #[v', .int .i64 (grTy u n p).2]) w') : oCall Try.prog Try.n_graph_Type #[v, .int .i64 n, .agg c.toArray] w K := by
  refine Try.ok_graph_Type ?_
  unfold Try.F_graph_Type
  have hu0 := hu
  obtain ⟨p0, cap0, vf, rfl, _, _, hst, hsl, hfn⟩ := hu
  obtain ⟨qf, capf, rfl, _, _⟩ := hfn.sl.shape
  obtain ⟨vq, rfl, hl⟩ := id hp
  obtain ⟨qs, caps, rfl, _, _⟩ := hl.sl.shape
  have S := St.start hr
  refine S.box fun b3 w1 S => ?_
  have S : StX noX w r w1 [.cell b3 [.slice p0 u.ss.length cap0, .slice qf u.fs.length capf, .int .i64 u.mn] 43] := S
  refine S.box fun b5 w2 S => ?_
  have S : StX noX w r w2 [.cell b5 [.int .i64 p.l, .slice qs p.ps.length caps] 58, .cell b3 [.slice p0 u.ss.length cap0, .slice qf u.fs.length capf, .int .i64 u.mn] 43] := S
  refine S.al fun b6 w3 S => ?_
  refine S.ldB (b := b3) ?_ rfl
  refine c_graph_fn S.holds hu0 fun cg g w4 e4 hg hgi => ?_
  have S := S.go e4
  obtain ⟨x1, x2, x3, x4, y1, y2, y3, y4, rfl, hg0⟩ := gr_form hg
  (repeat (first | refine s_p ?_ | refine s_c (by omega) ?_))
  refine S.al fun b8 w5 S => ?_
  refine S.stB (b := b8) fun w6 S => ?_
  ((with_reducible refine p_id ?_);first|refine s_p ?_|refine s_c (by omega) ?_)
  refine c_if (fun hne => ?_) (fun heq => ?_)
  · have hE : fnE u n = 2 := by unfold fnE at hne ⊢; split <;> rename_i hc; rfl; rw [if_neg hc] at hne; exact absurd rfl hne
    have hT : grTy u n p = (zeroD, 2) := by rw [grTy, if_pos hne]
    rw [hT] at h
    rw [hE]
    refine p_build (cs := #[.int .u8 0, .bool false, .int .i64 0, .int .i64 0, .slice none 0 0]) (by kernel_rfl) ?_
    refine S.stB (b := b6) fun w7 S => ?_
    refine S.ceB (b := b6) ?_ rfl
    exact h _ nothing _ S.ext New.nothing ty_leaf
  have h0 : fnE u n = 0 := by omega
  have hgn := hgi h0
  obtain ⟨hM, hn0, hlt⟩ := fnE_ok h0
  have hgm : g ∈ u.fs := List.mem_of_getElem? hgn
  have hff := hM.fine hgm
  have hT : grTy u n p = if (spotG u.ss g.tys p).2.2 then ((spotG u.ss g.tys p).1, 0) else (zeroD, 2) := by rw [grTy, if_neg heq, hgn]
  rw [hT] at h
  obtain ⟨t, m, ok, hsp⟩ : ∃ t m ok, spotG u.ss g.tys p = (t, m, ok) := ⟨_, _, _, rfl⟩
  have hfs := spot_fine hff (p := p)
  rw [hsp] at h hfs
  refine S.ldB (b := b3) ?_ rfl
  refine S.ldB (b := b8) ?_ rfl
  refine p_build (cs := #[.slice p0 u.ss.length cap0, .slice qf u.fs.length capf, .int .i64 u.mn, .string g.name, .int .i64 g.lv, .slice x1 g.outs.length y1, .int .i64 g.pn, .slice x2 g.tys.length y2, .slice x3 g.nms.length y3, .slice x4 g.pts.length y4]) (by kernel_rfl) ?_
  refine S.ldB (b := b5) ?_ rfl
  refine c_graph_asker_spot S.holds ⟨_, _, _, _, _, _, _, rfl, hu0, hg0⟩ hff hp hsp fun q7 c7 w7 e7 ht7 => ?_
  have S := S.go e7
  refine S.al fun b10 w8 S => ?_
  refine S.stB (b := b10) fun w9 S => ?_
  (repeat (first|((with_reducible refine p_id ?_);first|refine s_p ?_|refine s_c (by omega) ?_)|((with_reducible refine q_id ?_);first|refine S.ld ?_|refine S.ldB ?_|refine S.ce ?_|refine S.ceB ?_|refine s_q ?_|refine s_qc (by omega) ?_)|with_reducible refine n_some ?_|rw [List.getD_cons_zero]|rw [List.getD_cons_succ]))
  refine c_b (fun hb => ?_) (fun hb => ?_)
  · have hb : ok = false := by simpa using hb
    subst hb
    refine p_build (cs := #[.int .u8 0, .bool false, .int .i64 0, .int .i64 0, .slice none 0 0]) (by kernel_rfl) ?_
    refine S.stB (b := b6) fun w10 S => ?_
    refine S.ceB (b := b6) ?_ rfl
    exact h _ nothing _ S.ext New.nothing ty_leaf
  · have hb : ok = true := by simpa using hb
    subst hb
    have hB : isB t = true := (hfs rfl).is hff.few
    (repeat (first|((with_reducible refine p_id ?_);first|refine s_p ?_|refine s_c (by omega) ?_)|((with_reducible refine q_id ?_);first|refine S.ld ?_|refine S.ldB ?_|refine S.ce ?_|refine S.ceB ?_|refine s_q ?_|refine s_qc (by omega) ?_)|with_reducible refine n_some ?_|rw [List.getD_cons_zero]|rw [List.getD_cons_succ]))
    refine S.ldN (b := b10) ?_
    refine c_types_Own S.holds ht7 fun v5 sn w10 e10 n10 h10 hc10 => ?_
    rw [hB] at h10 ⊢
    obtain ⟨S, d10, a10⟩ := S.tell e10 n10
    have h100 := h10
    obtain ⟨p10, cap10, rfl, _⟩ := h10
    (repeat (first | refine s_p ?_ | refine s_c (by omega) ?_))
    refine S.stB (b := b6) fun w11 S => ?_
    refine S.ceB (b := b6) ?_ rfl
    exact h _ sn _ S.ext (S.newOf a10) h100
end Go.Proofs
end

section
namespace Go.Sh

open Go.RowKit

section

variable {P : Program} {X : Nat → Prop} {w0 w : World} {r : Gh} {L : List Asr} {α : Type} {sz n : Nat} {R : List Value → α → Prop} {l : List α} {e : TypeId} {p : Option Addr} {cap : Nat}

/-- the cells of a list, one thing behind the other -/
theorem slG_row (hz : 0 < sz) (h : SlG sz r R (.slice p n cap) l) : ∃ xs, RowOf sz R xs l ∧ Ob r fun w => Sl w p xs := by
  have key : ∀ k, k ≤ l.length → ∃ xs, RowOf sz R xs (l.take k) ∧ Ob r fun w => Sl w p xs := by
    intro k
    induction k with
    | zero => intro _; exact ⟨[], by rw [List.take_zero]; exact RowOf.nil, fun w _ => Sl.nil w _⟩
    | succ k ih =>
      intro hk
      obtain ⟨xs, h1, h2⟩ := ih (by omega)
      obtain ⟨b, off, c, rfl, hc, hcc, hcell⟩ := h.get hz (show k < l.length by omega)
      have hxl : xs.length = k * sz := by rw [h1.1, List.length_take, Nat.min_eq_left (by omega)]
      refine ⟨xs ++ c, by rw [List.take_succ_eq_append_getElem (by omega)]; exact h1.snoc hc hcc, fun w hw i v hi => ?_⟩
      by_cases hlt : i < xs.length
      · rw [List.getElem?_append_left hlt] at hi; exact h2 w hw i v hi
      · rw [List.getElem?_append_right (by omega)] at hi
        have := hcell _ v hi w hw
        exact ⟨b, off, rfl, by rwa [show off + k * sz + (i - xs.length) = off + i by omega] at this⟩
  have := key l.length (Nat.le_refl _)
  rwa [List.take_length] at this
theorem rowOf_ones {xs : List Value} (h : RowOf sz R xs l) (hz : 0 < sz) (h1 : ∀ c x, R c x → ∀ u ∈ c, u.oneCell' = true) : ∀ u ∈ xs, u.oneCell' = true := fun u hu => by
  obtain ⟨i, hi, rfl⟩ := List.getElem_of_mem hu
  have hj : i / sz < l.length := by
    rw [h.1] at hi
    exact Nat.div_lt_of_lt_mul (by rw [Nat.mul_comm]; exact hi)
  refine h1 _ _ (h.2 _ hj) _ ?_
  have hm := Nat.mod_lt i hz
  have hd := Nat.div_add_mod i sz
  refine List.mem_of_getElem? (i := i % sz) ?_
  rw [List.getElem?_take, if_pos hm, List.getElem?_drop, show i / sz * sz + i % sz = i by rw [Nat.mul_comm]; exact hd, List.getElem?_eq_getElem hi]
/-- a literal's cell as a row -/
theorem StX.cellRow {b : Nat} {c : List Value} (S : StX X w0 r w (.cell b c e :: L)) (hn : n ≤ cap) (hc : c.length = cap * sz) (hm : cap ≤ maxLen) : StX X w0 r w (.row (.slice (some ⟨b, 0, none⟩) n cap) e sz n (c.take (n * sz)) :: L) := by
  have := own_of_blk (w := w) (base := 0) (size := sz) (n := n) (cap := cap) (Nat.zero_le _) (S.has (.cell b c e) List.mem_cons_self) hn hm hc
  exact S.turn (p := []) (x := .cell b c e) (y := .row (.slice (some ⟨b, 0, none⟩) n cap) e sz n (c.take (n * sz))) (ExtBut.refl _ _) this fun k hk => .inl (by cases hk; rfl)
end

end Go.Sh

namespace Go.Proofs

open Go.Sh

set_option maxRecDepth 100000

set_option linter.unusedSimpArgs false

set_option linter.unusedVariables false

theorem op_form {r : Gh} {c : List Value} {o : OpD} (h : OpG r c o) : ∃ q k, c = [.int .u8 o.k, .int .i64 o.n, .int .i64 o.pl.l, .slice q o.pl.ps.length k] := by
  obtain ⟨v, rfl, hl⟩ := h
  obtain ⟨q, k, rfl, _⟩ := hl.sl.shape
  exact ⟨q, k, rfl⟩
theorem op_len {r : Gh} {c : List Value} {o : OpD} (h : OpG r c o) : c.length = 4 := by obtain ⟨q, k, rfl⟩ := op_form h; rfl
theorem op_ones {r : Gh} {c : List Value} {o : OpD} (h : OpG r c o) : ∀ u ∈ c, u.oneCell' = true := by obtain ⟨q, k, rfl⟩ := op_form h; simp [Value.oneCell']
def keepO (o : OpD) : Bool := decide (o.k ≠ 0)
def opersG (p : PtD) : List OpD := (p.a :: p.b :: p.args).filter keepO
abbrev fvDel : Value := .func (.func Try.n_graph_operands_1) #[] #[]
theorem c_operands_1 {o : OpD} {c : List Value} {w0 w : World} {r : Gh} {L : List Asr} {K : Value → World → Prop} (S : StX noX w0 r w L) (ho : OpG r c o)
    (h : ∀ w', StX noX w0 r w' L → K (.bool (decide (o.k = 0))) w') : oCallV Try.prog fvDel #[.agg c.toArray] w K := by
  refine v_f10 (by kernel_rfl) ?_
  refine Try.ok_graph_operands_1 ?_
  unfold Try.F_graph_operands_1
  obtain ⟨q, k, rfl⟩ := op_form ho
  refine S.box fun b1 w1 S => ?_
  have S : StX noX w0 r w1 (.cell b1 [.int .u8 o.k, .int .i64 o.n, .int .i64 o.pl.l, .slice q o.pl.ps.length k] 61 :: L) := S
  (repeat (first|((with_reducible refine p_id ?_);first|refine s_p ?_|refine s_c (by omega) ?_)|((with_reducible refine q_id ?_);first|refine S.ld ?_|refine S.ldB ?_|refine S.ce ?_|refine S.ceB ?_|refine s_q ?_|refine s_qc (by omega) ?_)|with_reducible refine n_some ?_|rw [List.getD_cons_zero]|rw [List.getD_cons_succ]))
  exact h _ S.tl
/-- the cells of the i-th thing -/
abbrev nth4 (c : List Value) (i : Nat) : List Value := (c.drop (i * 4)).take 4
theorem c_IndexFunc_op {l : List OpD} {b n cap : Nat} {c : List Value} {w0 w : World} {r : Gh} {L : List Asr} {K : Value → World → Prop} (S : StX noX w0 r w (.cell b c 61 :: L)) (hn : n = l.length) (hb : n ≤ 1000000)
    (hrow : ∀ (i : Nat) (hi : i < l.length), OpG r (nth4 c i) l[i])
    (h : ∀ (i : Int) w', StX noX w0 r w' (.cell b c 61 :: L) → (i = -1 ∧ (∀ o ∈ l, o.k ≠ 0)) ∨ (∃ j : Nat, i = j ∧ ∃ hj : j < l.length, l[j].k = 0 ∧ ∀ o ∈ l.take j, o.k ≠ 0) → K (.int .i64 i) w') :
    oCall Try.prog Try.n_slices_IndexFunc_api_Operand_api_Operand #[.slice (some ⟨b, 0, none⟩) n cap, fvDel] w K := by
  subst hn
  refine Try.ok_slices_IndexFunc_api_Operand_api_Operand ?_
  unfold Try.F_slices_IndexFunc_api_Operand_api_Operand
  ((with_reducible refine p_id ?_);first|refine s_p ?_|refine s_c (by omega) ?_)
  refine l_intro (ι := Nat) (fun i => [.int .i64 (i : Nat)]) (fun i w' => i ≤ l.length ∧ (∀ o ∈ l.take i, o.k ≠ 0) ∧ StX noX w0 r w' (.cell b c 61 :: L)) (fun i => l.length - i) 0 rfl ⟨Nat.zero_le _, by simp, S⟩ ?_
  clear S
  rintro i d w' ⟨hi, hno, S⟩ K6 hK6
  rw [List.getD_cons_zero]
  ((with_reducible refine p_id ?_);first|refine s_p ?_|refine s_c (by omega) ?_)
  refine c_if (fun hlt => ?_) (fun hge => ?_)
  · have hlt : i < l.length := by omega
    have hr := hrow i hlt
    refine s_c (by omega) ?_
    rw [show 0 + ((i : Nat) : Int).toNat * 4 = i * 4 by omega]
    refine S.ldN (b := b) (vs := nth4 c i) ?_ rfl (op_len hr)
    refine c_operands_1 S hr fun w2 S => ?_
    refine c_if (fun hk => ?_) (fun hk => ?_)
    · exact h _ _ S (.inr ⟨i, rfl, hlt, hk, hno⟩)
    · ((with_reducible refine p_id ?_);first|refine s_p ?_|refine s_c (by omega) ?_)
      rw [show ((i : Int) + 1) = ((i + 1 : Nat) : Int) by omega]
      refine hK6 (i + 1) _ ⟨hlt, fun o ho => ?_, S⟩ (by omega)
      rw [List.take_succ_eq_append_getElem hlt, List.mem_append] at ho
      rcases ho with ho | ho
      · exact hno o ho
      · rw [List.mem_singleton.1 ho]; exact hk
  · have hie : i = l.length := by omega
    rw [hie, List.take_length] at hno
    exact h _ _ S (.inl ⟨rfl, hno⟩)
theorem filt_no {o : OpD} (h : o.k = 0) : [o].filter keepO = [] := by simp [keepO, h]
theorem filt_yes {o : OpD} (h : o.k ≠ 0) : [o].filter keepO = [o] := by simp [keepO, h]
theorem filter_all {l : List OpD} (h : ∀ o ∈ l, o.k ≠ 0) : l.filter keepO = l := List.filter_eq_self.2 fun o ho => decide_eq_true (h o ho)
theorem nth4_lo {c cs : List Value} {i m : Nat} (hc : i * 4 + 4 ≤ c.length) (hl : cs.length = 4) (hm : i < m) : nth4 (c.take (i * 4) ++ cs ++ c.drop (i * 4 + 4)) m = nth4 c m := by
  have e : (c.take (i * 4) ++ cs ++ c.drop (i * 4 + 4)).drop (m * 4) = c.drop (m * 4) := by
    rw [List.drop_append, List.drop_of_length_le (by rw [List.length_append, List.length_take, hl]; omega), List.nil_append, List.length_append, List.length_take, hl, List.drop_drop]
    congr 1; omega
  rw [nth4, e]
theorem take_up {c cs : List Value} {i : Nat} (hc : i * 4 + 4 ≤ c.length) (hl : cs.length = 4) : (c.take (i * 4) ++ cs ++ c.drop (i * 4 + 4)).take ((i + 1) * 4) = c.take (i * 4) ++ cs := by
  rw [List.take_append_of_le_length (by rw [List.length_append, List.length_take, hl]; omega), List.take_of_length_le (by rw [List.length_append, List.length_take, hl]; omega)]
set_option maxHeartbeats 1000000 in
theorem c_DeleteFunc_op {l : List OpD} {b n cap : Nat} {c : List Value} {w0 w : World} {r : Gh} {L : List Asr} {K : Value → World → Prop} (S : StX noX w0 r w (.cell b c 61 :: L)) (hn : n = l.length) (hb : n ≤ 1000000) (hnc : n ≤ cap) (hc : c.length = cap * 4)
    (hrow : ∀ (i : Nat) (hi : i < l.length), OpG r (nth4 c i) l[i])
    (h : ∀ c' w', StX noX w0 r w' (.cell b c' 61 :: L) → c'.length = cap * 4 → RowOf 4 (OpG r) (c'.take ((l.filter keepO).length * 4)) (l.filter keepO) → K (.slice (some ⟨b, 0, none⟩) (l.filter keepO).length cap) w') :
    oCall Try.prog Try.n_slices_DeleteFunc_api_Operand_api_Operand #[.slice (some ⟨b, 0, none⟩) n cap, fvDel] w K := by
  subst hn
  refine Try.ok_slices_DeleteFunc_api_Operand_api_Operand ?_
  unfold Try.F_slices_DeleteFunc_api_Operand_api_Operand
  have hrow0 : ∀ k, k ≤ l.length → RowOf 4 (OpG r) (c.take (k * 4)) (l.take k) := fun k hk => ⟨by rw [List.length_take, List.length_take]; omega, fun i hi => by
    rw [List.length_take] at hi
    rw [List.getElem_take, List.drop_take, List.take_take, Nat.min_eq_left (by omega)]
    exact hrow i (by omega)⟩
  refine c_IndexFunc_op S rfl hb hrow fun i0 w1 S hi0 => ?_
  ((with_reducible refine p_id ?_);first|refine s_p ?_|refine s_c (by omega) ?_)
  rcases hi0 with ⟨rfl, hall⟩ | ⟨j, rfl, hj, hjk, hbef⟩
  · refine c_t (by decide) ?_
    have := h c w1 S hc (by rw [filter_all hall]; have := hrow0 l.length (Nat.le_refl _); rwa [List.take_length] at this)
    rw [filter_all hall] at this
    exact this
  refine c_f (decide_eq_false (by omega)) ?_
  ((with_reducible refine p_id ?_);first|refine s_p ?_|refine s_c (by omega) ?_)
  have hf0 : (l.take j).filter keepO = l.take j := filter_all hbef
  have hf1 : (l.take (j + 1)).filter keepO = l.take j := by
    rw [List.take_succ_eq_append_getElem hj, List.filter_append, hf0, filt_no hjk, List.append_nil]
  refine l_intro (ι := Nat × Nat × List Value) (fun i => [.int .i64 (i.1 : Nat), .int .i64 (i.2.1 : Nat)]) (fun i w' => i.1 < i.2.1 ∧ i.2.1 ≤ l.length ∧ i.1 = ((l.take i.2.1).filter keepO).length ∧ i.2.2.length = cap * 4 ∧ RowOf 4 (OpG r) (i.2.2.take (i.1 * 4)) ((l.take i.2.1).filter keepO) ∧
    (∀ (m : Nat) (hm : m < l.length), i.2.1 ≤ m → OpG r (nth4 i.2.2 m) l[m]) ∧ StX noX w0 r w' (.cell b i.2.2 61 :: L)) (fun i => l.length - i.2.1) (j, j + 1, c) (by simp) ⟨by simp, hj, by rw [hf1, List.length_take]; omega, hc, by rw [hf1]; exact hrow0 j (by omega), fun m hm _ => hrow m hm, S⟩ ?_
  clear S
  rintro ⟨i, k, c1⟩ d w2 ⟨hik, hk, hie, hc1, hr1, hrest, S⟩ K2 hK2
  simp only at hik hk hie hc1 hr1 hrest S ⊢
  simp only [List.getD_cons_zero, List.getD_cons_succ]
  ((with_reducible refine p_id ?_);first|refine s_p ?_|refine s_c (by omega) ?_)
  ((with_reducible refine p_id ?_);first|refine s_p ?_|refine s_c (by omega) ?_)
  refine c_if (fun hlt => ?_) (fun hge => ?_)
  · have hlt : k < l.length := by omega
    have hrk := hrest k hlt (Nat.le_refl _)
    have hs : l.take (k + 1) = l.take k ++ [l[k]] := List.take_succ_eq_append_getElem hlt
    refine j_intro (fun s w' => ∃ i' c', s = [.int .i64 (i' : Nat)] ∧ i' < k + 1 ∧ i' = ((l.take (k + 1)).filter keepO).length ∧ c'.length = cap * 4 ∧ RowOf 4 (OpG r) (c'.take (i' * 4)) ((l.take (k + 1)).filter keepO) ∧
      (∀ (m : Nat) (hm : m < l.length), k + 1 ≤ m → OpG r (nth4 c' m) l[m]) ∧ StX noX w0 r w' (.cell b c' 61 :: L)) (fun K6 hK6 => ?_) ?_
    rotate_left
    · rintro _ w3 ⟨i', c', rfl, g1, g2, g3, g4, g5, S⟩ d3
      rw [List.getD_cons_zero]
      ((with_reducible refine p_id ?_);first|refine s_p ?_|refine s_c (by omega) ?_)
      rw [show ((k : Int) + 1) = ((k + 1 : Nat) : Int) by omega]
      exact hK2 (i', k + 1, c') _ ⟨g1, hlt, g2, g3, g4, g5, S⟩ (by show l.length - (k + 1) < l.length - k; omega)
    refine s_c (by omega) ?_
    rw [show 0 + ((k : Nat) : Int).toNat * 4 = k * 4 by omega]
    refine S.ldN (b := b) (vs := nth4 c1 k) ?_ rfl (op_len hrk)
    refine S.al fun b7 w3 S => ?_
    refine S.stB (b := b7) (cs := (nth4 c1 k).toArray) (fun w4 S => ?_) rfl (by simpa using op_len hrk) (by simpa using op_ones hrk)
    have S : StX noX w0 r w4 (.cell b7 (nth4 c1 k) 61 :: .cell b c1 61 :: L) := S
    refine S.ldB (b := b7) ?_ (op_len hrk)
    refine c_operands_1 S hrk fun w5 S => ?_
    ((with_reducible refine p_id ?_);first|refine s_p ?_|refine s_c (by omega) ?_)
    by_cases hk0 : l[k].k = 0
    · refine c_f (by rw [decide_eq_true hk0]; rfl) ?_
      have hfe : (l.take (k + 1)).filter keepO = (l.take k).filter keepO := by
        rw [hs, List.filter_append, filt_no hk0, List.append_nil]
      refine hK6 _ _ ⟨i, c1, rfl, by omega, by rw [hfe]; exact hie, hc1, by rw [hfe]; exact hr1, fun m hm hkm => hrest m hm (by omega), S.tl⟩
    · refine c_t (by rw [decide_eq_false hk0]; rfl) ?_
      have hfe : (l.take (k + 1)).filter keepO = (l.take k).filter keepO ++ [l[k]] := by
        rw [hs, List.filter_append, filt_yes hk0]
      refine S.ldB (b := b7) ?_ (op_len hrk)
      refine s_c (by omega) ?_
      rw [show 0 + ((i : Nat) : Int).toNat * 4 = i * 4 by omega]
      refine S.stN (b := b) (cs := (nth4 c1 k).toArray) (fun w6 S => ?_) (by omega) (by simpa using op_len hrk) (by simpa using op_ones hrk)
      have S : StX noX w0 r w6 (.cell b7 (nth4 c1 k) 61 :: .cell b (c1.take (i * 4) ++ nth4 c1 k ++ c1.drop (i * 4 + 4)) 61 :: L) := S
      ((with_reducible refine p_id ?_);first|refine s_p ?_|refine s_c (by omega) ?_)
      rw [show ((i : Int) + 1) = ((i + 1 : Nat) : Int) by omega]
      refine hK6 _ _ ⟨i + 1, c1.take (i * 4) ++ nth4 c1 k ++ c1.drop (i * 4 + 4), rfl, by omega, by rw [hfe, List.length_append, ← hie]; rfl, ?_, ?_, fun m hm hkm => ?_, S.tl⟩
      · rw [List.length_append, List.length_append, List.length_take, List.length_drop, op_len hrk]; omega
      · rw [take_up (by omega) (op_len hrk), hfe]
        exact hr1.snoc (op_len hrk) hrk
      · rw [nth4_lo (by omega) (op_len hrk) (by omega)]
        exact hrest m hm (by omega)
  · have hke : k = l.length := by omega
    rw [hke, List.take_length] at hie hr1
    refine s_c (by omega) ?_
    rw [if_neg (by omega), Option.map_some, addr_add, Int.toNat_natCast, Nat.zero_add]
    refine S.clr (b := b) (by
      have e : (List.length [Value.int .u8 0, Value.int .i64 0, Value.int .i64 0, Value.slice none 0 0]) = 4 := rfl
      rw [e]; omega) (by simp [Value.oneCell']) fun c2 w3 hc2 ht2 S => ?_
    refine s_c (by omega) ?_
    rw [Int.toNat_natCast, hie]
    exact h c2 w3 S (by omega) (by rw [← hie, ht2]; exact hr1)
set_option maxHeartbeats 1000000 in
theorem c_graph_operands {p : PtD} {c : List Value} {w : World} {r : Gh} {K : Value → World → Prop} (hr : Holds r w) (hp : PtG r c p) (hb : p.args.length ≤ 1000)
    (h : ∀ b cap c' w', StX noX w r w' [.cell b c' 61] → c'.length = cap * 4 → (opersG p).length ≤ cap → RowOf 4 (OpG r) (c'.take ((opersG p).length * 4)) (opersG p) → K (.slice (some ⟨b, 0, none⟩) (opersG p).length cap) w') :
    oCall Try.prog Try.n_graph_operands #[.agg c.toArray] w K := by
  refine Try.ok_graph_operands ?_
  unfold Try.F_graph_operands
  obtain ⟨q1, q2, q3, q4, q5, c1, c2, c3, c4, c5, rfl, hp0⟩ := pt_form hp
  obtain ⟨_, _, _, _, _, hE, k1, k2, k3, k4, k5⟩ := hp0
  cases hE
  have S := St.start hr
  refine S.box fun b1 w1 S => ?_
  have S : StX noX w r w1 [.cell b1 (ptL p q1 q2 q3 q4 q5 c1 c2 c3 c4 c5) 64] := S
  have hoa : OpG r [.int .u8 p.a.k, .int .i64 p.a.n, .int .i64 p.a.pl.l, .slice q2 p.a.pl.ps.length c2] p.a := ⟨_, rfl, k2⟩
  have hob : OpG r [.int .u8 p.b.k, .int .i64 p.b.n, .int .i64 p.b.pl.l, .slice q3 p.b.pl.ps.length c3] p.b := ⟨_, rfl, k3⟩
  (repeat (first|((with_reducible refine p_id ?_);first|refine s_p ?_|refine s_c (by omega) ?_)|((with_reducible refine q_id ?_);first|refine S.ld ?_|refine S.ldB ?_|refine S.ce ?_|refine S.ceB ?_|refine s_q ?_|refine s_qc (by omega) ?_)|with_reducible refine n_some ?_|rw [List.getD_cons_zero]|rw [List.getD_cons_succ]))
  refine S.ldN (b := b1) ?_
  (repeat (first|((with_reducible refine p_id ?_);first|refine s_p ?_|refine s_c (by omega) ?_)|((with_reducible refine q_id ?_);first|refine S.ld ?_|refine S.ldB ?_|refine S.ce ?_|refine S.ceB ?_|refine s_q ?_|refine s_qc (by omega) ?_)|with_reducible refine n_some ?_|rw [List.getD_cons_zero]|rw [List.getD_cons_succ]))
  refine S.ldN (b := b1) ?_
  refine S.lit (e := 61) (cs := [.int .u8 p.a.k, .int .i64 p.a.n, .int .i64 p.a.pl.l, .slice q2 p.a.pl.ps.length c2] ++ [.int .u8 p.b.k, .int .i64 p.b.n, .int .i64 p.b.pl.l, .slice q3 p.b.pl.ps.length c3]) (by kernel_rfl) fun b8 w2 S => ?_
  have S := S.cellRow (n := 2) (cap := 2) (sz := 4) (Nat.le_refl _) rfl (by simp [maxLen])
  obtain ⟨xs, hxr, hxs⟩ := slG_row (by decide) k4.sl
  obtain ⟨_, _, hE, hq4, _⟩ := k4.sl.shape
  cases hE
  (repeat (first|((with_reducible refine p_id ?_);first|refine s_p ?_|refine s_c (by omega) ?_)|((with_reducible refine q_id ?_);first|refine S.ld ?_|refine S.ldB ?_|refine S.ce ?_|refine S.ceB ?_|refine s_q ?_|refine s_qc (by omega) ?_)|with_reducible refine n_some ?_|rw [List.getD_cons_zero]|rw [List.getD_cons_succ]))
  refine S.ap (v := .slice (some ⟨b8, 0, none⟩) 2 2) (S.at hxs) (fun v3 w3 S => ?_) (by omega) hxr.1 hq4 (rowOf_ones hxr (by decide) fun c x hx => op_ones hx)
  obtain ⟨b9, cap9, c9, rfl, hc9, hcl9, htk9, S⟩ := S.rowCell v3 (by omega)
  have hlen : (p.a :: p.b :: p.args).length = 2 + p.args.length := by simp; omega
  have hrw : RowOf 4 (OpG r) (c9.take ((2 + p.args.length) * 4)) (p.a :: p.b :: p.args) := by
    rw [htk9]
    exact rowOf_cons (c := [.int .u8 p.a.k, .int .i64 p.a.n, .int .i64 p.a.pl.l, .slice q2 p.a.pl.ps.length c2]) rfl hoa (rowOf_cons (c := [.int .u8 p.b.k, .int .i64 p.b.n, .int .i64 p.b.pl.l, .slice q3 p.b.pl.ps.length c3]) rfl hob hxr)
  refine c_DeleteFunc_op (l := p.a :: p.b :: p.args) (L := [.cell b1 (ptL p q1 q2 q3 q4 q5 c1 c2 c3 c4 c5) 64]) S hlen.symm (by omega) hc9 hcl9 (fun i hi => ?_) fun c' w4 S hc' hrow => ?_
  · have := hrw.2 i hi
    rw [List.drop_take, List.take_take, Nat.min_eq_left (by omega)] at this
    exact this
  have hle : (opersG p).length ≤ cap9 := by
    have := List.length_filter_le keepO (p.a :: p.b :: p.args)
    show ((p.a :: p.b :: p.args).filter keepO).length ≤ cap9
    omega
  exact h b9 cap9 c' w4 (S.less (fun _ _ h => h) (.cons_cons _ (List.nil_sublist _))) hc' hle hrow
end Go.Proofs
end

section
namespace Go.Proofs

open Go.Sh

set_option maxRecDepth 100000

set_option linter.unusedSimpArgs false

set_option linter.unusedVariables false

/-- a type without its regions -/
abbrev bare (t : TyD) : TyD := t.mapR fBare
theorem bare_inj {a b : TyD} (h : bare a = bare b) : a.k = b.k ∧ a.m = b.m ∧ a.st = b.st ∧ TyD.mapsR fBare a.of = TyD.mapsR fBare b.of := by
  cases a; cases b
  simp only [bare, TyD.mapR, TyD.mk.injEq] at h
  exact ⟨h.1, h.2.1, h.2.2.2.1, h.2.2.2.2⟩
theorem bare_of {a b u : TyD} (h : bare a = bare b) (ha : a.of = [u]) : ∃ x, b.of = [x] ∧ bare u = bare x := by
  have h4 := (bare_inj h).2.2.2
  rw [ha, TyD.mapsR, TyD.mapsR] at h4
  cases hb : b.of with
  | nil => rw [hb, TyD.mapsR] at h4; cases h4
  | cons x l =>
    rw [hb, TyD.mapsR] at h4
    simp only [List.cons.injEq] at h4
    cases l with
    | nil => exact ⟨x, rfl, h4.1⟩
    | cons y l => rw [TyD.mapsR] at h4; cases h4.2
theorem bare_nil {a b : TyD} (h : bare a = bare b) (ha : a.of = []) : b.of = [] := by
  have h4 := (bare_inj h).2.2.2
  rw [ha, TyD.mapsR] at h4
  cases hb : b.of with
  | nil => rfl
  | cons x l => rw [hb, TyD.mapsR] at h4; cases h4
theorem bare_mk {a b u x : TyD} (hk : a.k = b.k) (hm : a.m = b.m) (hs : a.st = b.st) (hr : a.k ≠ 4 → a.re = b.re) (ha : a.of = [u]) (hb : b.of = [x]) (h : bare u = bare x) : bare a = bare b := by
  show a.mapR fBare = b.mapR fBare
  rw [mapR_one ha, mapR_one hb, hk, hm, hs, show u.mapR fBare = x.mapR fBare from h]
  by_cases h4 : b.k = 4
  · rw [if_pos h4, if_pos h4]; rfl
  · rw [if_neg h4, if_neg h4, hr (by omega)]
theorem look_re0 {s : Int} {n : Nat} {t : TyD} (h : lookB s n t = true) (hk : t.k ≠ 4) : t.re = 0 := by
  cases n with
  | zero => cases h
  | succ n => exact (look_plain h hk).2
theorem bare_lay {s : Int} : ∀ (n : Nat) {t : TyD} {l : List Int}, lookB s n t = true → bare (t.lay l) = bare t := by
  intro n
  induction n with
  | zero => intro t l h; cases h
  | succ n ih =>
    intro t l h
    obtain ⟨hk1, hk2, hk3⟩ := lay_k t l
    rcases look_cases h with ⟨ho, hk⟩ | ⟨u, ho, hu, hk⟩
    · show (t.lay l).mapR fBare = t.mapR fBare
      rw [mapR_nil (lay_of_nil ho), mapR_nil ho, hk1, hk2, hk3, if_neg (by omega), if_neg (by omega), lay_nil ho]
      show TyD.mk _ _ (if t.k = 4 then _ else _) _ _ = _
      rw [if_neg (by omega)]
    · refine bare_mk hk1 hk2 hk3 (fun h4 => ?_) (lay_of_one ho) ho (ih hu)
      rw [hk1] at h4
      rw [lay_one ho]
      show (if t.k = 4 then _ else _) = _
      rw [if_neg h4]
theorem alike_bare {s s' : Int} : ∀ (n : Nat) {a b : TyD}, lookB s n a = true → lookB s' n b = true → (alikeB fAll n a b = true ↔ bare a = bare b) := by
  intro n
  induction n with
  | zero => intro a b h; cases h
  | succ n ih =>
    intro a b ha hb
    have flat : (!(decide (a.k ≠ b.k) || !(a.m == b.m) || decide (a.st ≠ b.st) || !fAll a.re b.re)) = true ↔ a.k = b.k ∧ a.m = b.m ∧ a.st = b.st := by
      simp only [fAll, Bool.not_true, Bool.or_false, Bool.not_eq_true', Bool.or_eq_false_iff, decide_eq_false_iff_not, Bool.not_eq_false', beq_iff_eq]
      constructor
      · rintro ⟨⟨h1, h2⟩, h3⟩; exact ⟨by omega, h2, by omega⟩
      · rintro ⟨h1, h2, h3⟩; exact ⟨⟨by omega, h2⟩, by omega⟩
    rcases look_cases ha with ⟨ho, hk⟩ | ⟨u, ho, hu, hk⟩
    · rw [alikeB_nil ho, flat]
      constructor
      · rintro ⟨h1, h2, h3⟩
        rcases look_cases hb with ⟨ho', hk'⟩ | ⟨x, ho', hx, hk'⟩
        · show a.mapR fBare = b.mapR fBare
          rw [mapR_nil ho, mapR_nil ho', h1, h2, h3, if_neg (by omega), if_neg (by omega), look_re0 ha (by omega), look_re0 hb (by omega)]
        · omega
      · intro h; obtain ⟨h1, h2, h3, _⟩ := bare_inj h; exact ⟨h1, h2, h3⟩
    · constructor
      · intro h
        rcases look_cases hb with ⟨ho', hk'⟩ | ⟨x, ho', hx, hk'⟩
        · exfalso
          have hne : a.k ≠ b.k := by omega
          rw [alikeB_false (by rw [decide_eq_true hne]; rfl)] at h; cases h
        · rw [alikeB_one ho ho', Bool.and_eq_true, flat] at h
          obtain ⟨⟨h1, h2, h3⟩, h4⟩ := h
          exact bare_mk h1 h2 h3 (fun h5 => by rw [look_re0 ha h5, look_re0 hb (by omega)]) ho ho' ((ih hu hx).1 h4)
      · intro h
        obtain ⟨x, ho', hbx⟩ := bare_of h ho
        obtain ⟨h1, h2, h3, _⟩ := bare_inj h
        have hx : lookB s' n x = true := by
          rcases look_cases hb with ⟨ho2, _⟩ | ⟨y, ho2, hy, _⟩
          · rw [ho2] at ho'; cases ho'
          · rw [ho2] at ho'; cases ho'; exact hy
        rw [alikeB_one ho ho', Bool.and_eq_true, flat]
        exact ⟨⟨h1, h2, h3⟩, (ih hu hx).2 hbx⟩
theorem alikeT_iff {a b : TyD} (ha : isB a = true) (hb : isB b = true) : alikeT fAll a b = true ↔ bare a = bare b := by
  rw [alikeT, ha, hb]
  exact alike_bare 48 ha hb
theorem alikeT_bare {a b : TyD} (h : alikeT fAll a b = true) : isB a = true ∧ isB b = true ∧ bare a = bare b := by
  rw [alikeT, Bool.and_eq_true, Bool.and_eq_true] at h
  exact ⟨h.1.1, h.1.2, (alike_bare 48 h.1.1 h.1.2).1 h.2⟩
/-- whether a type may be hangs on its shape and on no region being too low -/
theorem look_bare {s : Int} : ∀ (n : Nat) {a b : TyD}, lookB s n a = true → bare a = bare b → (b.k ≠ 4 → b.re = 0) → (∀ u, b.of = [u] → ∃ m, lookB s m u = true) → (b.k = 4 → -1 ≤ b.re) → lookB s n b = true := by
  intro n
  induction n with
  | zero => intro a b h; cases h
  | succ n ih =>
    intro a b ha h hre hin hlow
    obtain ⟨h1, h2, h3, _⟩ := bare_inj h
    rcases look_cases ha with ⟨ho, hk⟩ | ⟨u, ho, hu, hk⟩
    · have hob := bare_nil h ho
      have hr := hre (by omega)
      have hra := look_re0 ha (by omega)
      have : b = a := by
        cases a; cases b
        simp only [TyD.k, TyD.m, TyD.re, TyD.st, TyD.of] at *
        subst h1 h2 h3 ho hob hr hra; rfl
      rw [this]; exact ha
    · obtain ⟨x, hob, hbx⟩ := bare_of h ho
      obtain ⟨m, hm⟩ := hin x hob
      have hx : lookB s n x = true := by
        refine ih hu hbx (fun hk4 => look_re0 hm hk4) (fun y hy => ?_) (fun hk4 => ?_)
        · cases m with
          | zero => cases hm
          | succ m =>
            rcases look_cases hm with ⟨ho2, _⟩ | ⟨z, ho2, hz, _⟩
            · rw [ho2] at hy; cases hy
            · rw [ho2] at hy; cases hy; exact ⟨m, hz⟩
        · cases m with
          | zero => cases hm
          | succ m => exact look_re hm hk4
      have hib : inB s n b = true := by rw [inB, hob]; exact hx
      have hia : inB s n a = true := by rw [inB, ho]; exact hu
      rw [lookB_succ] at ha ⊢
      rw [if_neg (by omega), if_neg (by omega)] at ha ⊢
      rw [hia] at ha
      rw [hib]
      by_cases hk3 : a.k = 3
      · rw [if_pos hk3] at ha
        rw [if_pos (by omega), ← h2, ← h3, hre (by omega), hob]
        rw [look_re0 (n := n + 1) (s := s) (by rw [lookB_succ, if_neg (by omega), if_neg (by omega), if_pos hk3, hia]; exact ha) (by omega), ho] at ha
        exact ha
      · have hk4 : a.k = 4 := by omega
        rw [if_neg hk3, if_pos hk4] at ha
        rw [if_neg (by omega), if_pos (by omega), ← h3, hob]
        rw [ho] at ha
        simp only [Bool.and_eq_true, decide_eq_true_eq] at ha ⊢
        exact ⟨⟨hlow (by omega), ha.1.2⟩, ha.2⟩
/-! ### Steps -/

abbrev bareS (s : TyD × Int) : TyD × Int := (bare s.1, s.2)
theorem stepH_bare {ss : List StD} {t t' : TyD} {k : Int} (h : bare t = bare t') (hf : Fine ss t) : (stepH ss t k).map bareS = (stepH ss t' k).map bareS := by
  obtain ⟨h1, h2, h3, _⟩ := bare_inj h
  have hin : ∀ n : Int, (t.of.head?.map fun u => (u, n)).map bareS = (t'.of.head?.map fun u => (u, n)).map bareS := by
    intro n
    rcases hf.cases with ⟨ho, _⟩ | ⟨u, ho, _⟩
    · rw [ho, bare_nil h ho]
    · obtain ⟨x, ho', hx⟩ := bare_of h ho
      rw [ho, ho']
      show some (bare u, n) = some (bare x, n)
      rw [hx]
  unfold stepH
  rw [← h1, ← h2, ← h3]
  split
  · exact hin 1
  split
  · exact hin _
  split
  · rfl
  · rfl
theorem walkH_bare {ss : List StD} (hg : Good ss) : ∀ (l : List Int) {t t' : TyD}, bare t = bare t' → Fine ss t → (walkH ss l t).map (fun x => bare x.1) = (walkH ss l t').map fun x => bare x.1
  | [], t, t', h, _ => by show some (bare t) = some (bare t'); rw [h]
  | k :: l, t, t', h, hf => by
    have hs := stepH_bare (k := k) h hf
    rw [walkH, walkH]
    cases h1 : stepH ss t k with
    | none =>
      rw [h1] at hs
      cases h2 : stepH ss t' k with
      | none => rfl
      | some s' => rw [h2] at hs; cases hs
    | some s =>
      rw [h1] at hs
      cases h2 : stepH ss t' k with
      | none => rw [h2] at hs; cases hs
      | some s' =>
        rw [h2] at hs
        have hb : bare s.1 = bare s'.1 := congrArg Prod.fst (Option.some.inj hs)
        have := walkH_bare hg l hb (stepH_fine hg hf h1)
        show ((walkH ss l s.1).map _).map _ = ((walkH ss l s'.1).map _).map _
        rw [Option.map_map, Option.map_map]
        exact this
theorem goG_walkH {ss : List StD} : ∀ (l : List Int) (t : TyD) (m : Int), (goG ss l (t, m)).map (·.1) = (walkH ss l t).map (·.1)
  | [], t, m => rfl
  | k :: l, t, m => by
    have hs : (stepG ss (t, m) k).map (·.1) = (stepH ss t k).map (·.1) := by
      unfold stepG stepH
      split
      · cases t.of.head? <;> rfl
      split
      · cases t.of.head? <;> rfl
      split
      · cases (tysAt ss t.st)[k.toNat]? <;> rfl
      · rfl
    rw [goG, walkH]
    cases h1 : stepG ss (t, m) k with
    | none =>
      rw [h1] at hs
      cases h2 : stepH ss t k with
      | none => rfl
      | some s' => rw [h2] at hs; cases hs
    | some s =>
      rw [h1] at hs
      cases h2 : stepH ss t k with
      | none => rw [h2] at hs; cases hs
      | some s' =>
        rw [h2] at hs
        have hb : s.1 = s'.1 := Option.some.inj hs
        have := goG_walkH (ss := ss) l s.1 s.2
        show (goG ss l s).map _ = ((walkH ss l s'.1).map _).map _
        rw [Option.map_map, ← hb]
        exact this
/-- a place that is one of the graph is one among its numbered regions, of the same shape -/
theorem place_spot {u : UnD} {g : GrD} {fn : Nat} (hM : MayU u) (hH : HeadU u fn g) {p : PlD} (ho : (spotG u.ss g.tys p).2.2 = true) :
    ∃ x, placeW u.ss (locK g.tys g.lv) p = some x ∧ bare x.1 = bare (spotG u.ss g.tys p).1 := by
  have hfin := hH.fine hM.ok
  have h8 := spot_short ho
  unfold spotG at ho ⊢
  cases hb : (if p.l < 0 then none else g.tys[p.l.toNat]?).bind fun t => goG u.ss p.ps (t, 0) with
  | none => rw [hb] at ho; cases ho
  | some s =>
    split at hb
    · cases hb
    · rename_i hl0
      cases ht : g.tys[p.l.toNat]? with
      | none => rw [ht] at hb; cases hb
      | some t =>
        rw [ht] at hb
        have hb : goG u.ss p.ps (t, 0) = some s := hb
        obtain ⟨hlt, rfl⟩ := List.getElem?_eq_some_iff.1 ht
        have hft : Fine u.ss g.tys[p.l.toNat] := hfin.all _ (List.getElem_mem hlt)
        have hB := hft.is hfin.few
        have hlow : ∀ i (hi : i < g.tys.length), ∀ x ∈ numK (regsT g.tys[i]) (g.lv + locC (g.tys.take i)), -1 ≤ x := fun i hi x hx => by
          obtain ⟨j, hj, rfl⟩ := List.getElem_of_mem hx
          rw [numK_len] at hj
          rw [numK_at hj]
          have := (numC_le ((regsT g.tys[i]).take j)).1
          have := hH.lv0
          have := locC_pos (g.tys.take i)
          split <;> omega
        have hmay : ∀ i (hi : i < g.tys.length), mayB u.ss (g.tys[i].lay (numK (regsT g.tys[i]) (g.lv + locC (g.tys.take i)))) = true := fun i hi => by
          have hf := hfin.all _ (List.getElem_mem hi)
          have hrT : regsT g.tys[i] = g.tys[i].regs := by rw [regsT, hf.is hfin.few]; rfl
          rw [mayB, hM.ok]
          have := look_lay (l := numK (regsT g.tys[i]) (g.lv + locC (g.tys.take i))) 48 hf (by rw [numK_len, hrT]; exact Nat.le_refl _) (hlow i hi)
          rw [this]; rfl
        have hO : placeO u.ss (locK g.tys g.lv) p = true := by
          simp only [placeO, Bool.and_eq_true, decide_eq_true_eq, List.all_eq_true, locK_len]
          refine ⟨⟨⟨by omega, by omega⟩, h8⟩, hM.ok, fun x hx => ?_⟩
          obtain ⟨i, hi, rfl⟩ := List.getElem_of_mem hx
          rw [locK_len] at hi
          rw [locK_at hi]
          exact hmay i hi
        have hget : (locK g.tys g.lv).getD p.l.toNat zeroD = g.tys[p.l.toNat].lay (numK (regsT g.tys[p.l.toNat]) (g.lv + locC (g.tys.take p.l.toNat))) := by
          rw [List.getD_eq_getElem?_getD, List.getElem?_eq_getElem (by rw [locK_len]; exact hlt), Option.getD_some, locK_at hlt]
        rw [placeW, if_pos hO, hget]
        have e1 := walkH_bare hfin.good p.ps (bare_lay (l := numK (regsT g.tys[p.l.toNat]) (g.lv + locC (g.tys.take p.l.toNat))) 48 hB).symm hft
        have e2 := goG_walkH (ss := u.ss) p.ps g.tys[p.l.toNat] 0
        rw [hb] at e2
        cases hw : walkH u.ss p.ps g.tys[p.l.toNat] with
        | none => rw [hw] at e2; cases e2
        | some y =>
          rw [hw] at e1 e2
          have e2 : s.1 = y.1 := Option.some.inj e2
          cases hw2 : walkH u.ss p.ps (g.tys[p.l.toNat].lay (numK (regsT g.tys[p.l.toNat]) (g.lv + locC (g.tys.take p.l.toNat)))) with
          | none => rw [hw2] at e1; cases e1
          | some z =>
            rw [hw2] at e1
            have e1 : bare y.1 = bare z.1 := Option.some.inj e1
            exact ⟨z, rfl, by show bare z.1 = bare s.1; rw [← e1, e2]⟩
/-! ### Operands -/

theorem argsG_at {ss : List StD} {tys : List TyD} : ∀ {l : List OpD} {ts : List TyD}, argsG ss tys l ts = true → l.length = ts.length ∧ ∀ (i : Nat) (hi : i < l.length) (hj : i < ts.length), (operG ss tys l[i]).2 = true ∧ alikeT fAll (operG ss tys l[i]).1 ts[i] = true
  | [], [], _ => ⟨rfl, fun i hi => absurd hi (Nat.not_lt_zero _)⟩
  | [], _ :: _, h => by cases h
  | _ :: _, [], h => by cases h
  | o :: l, t :: r, h => by
    rw [argsG_cons, Bool.and_eq_true, Bool.and_eq_true] at h
    obtain ⟨h1, h2⟩ := argsG_at h.2
    refine ⟨by simp [h1], fun i hi hj => ?_⟩
    cases i with
    | zero => exact h.1
    | succ i => exact h2 i (by simpa using hi) (by simpa using hj)
theorem oper_short {ss : List StD} {tys : List TyD} {o : OpD} (h : (operG ss tys o).2 = true) : o.pl.ps.length ≤ 8 := by
  unfold operG at h
  split at h
  · simp only [zeroP, Bool.and_eq_true, decide_eq_true_eq] at h; omega
  split at h
  · simp only [zeroP, Bool.and_eq_true, decide_eq_true_eq] at h; omega
  split at h
  · simp only [Bool.and_eq_true] at h; exact spot_short h.1.1
  split at h
  · simp only [Bool.and_eq_true] at h; exact spot_short h.1.1.1
  · cases h
theorem oper_kind {ss : List StD} {tys : List TyD} {o : OpD} (h : (operG ss tys o).2 = true) : o.k ≠ 0 := by
  intro h0
  unfold operG at h
  rw [if_neg (by omega), if_neg (by omega), if_neg (by omega), if_neg (by omega)] at h
  cases h
theorem oper_spot {ss : List StD} {tys : List TyD} {o : OpD} (h : (operG ss tys o).2 = true) (hk : o.k = 3 ∨ o.k = 4) : (spotG ss tys o.pl).2.2 = true ∧ (operG ss tys o).1 = (spotG ss tys o.pl).1 := by
  unfold operG at h ⊢
  rw [if_neg (by omega), if_neg (by omega)] at h ⊢
  rcases hk with hk | hk
  · rw [if_pos hk] at h ⊢
    simp only [Bool.and_eq_true] at h
    exact ⟨h.1.1, rfl⟩
  · rw [if_neg (by omega), if_pos hk] at h ⊢
    simp only [Bool.and_eq_true] at h
    exact ⟨h.1.1.1, rfl⟩
theorem noneO_k {o : OpD} (h : o.k ≠ 0) : noneO o = false := by rw [noneO, decide_eq_false h]; rfl
theorem point_range {u : UnD} {g : GrD} {p : PtD} (h : ptG u g p = true) : 1 ≤ p.op ∧ p.op ≤ 14 := by
  refine Classical.byContradiction fun hc => ?_
  rw [ptG] at h
  rw [if_neg (by omega), if_neg (by omega), if_neg (by omega), if_neg (by omega), if_neg (by omega), if_neg (by omega), if_neg (by omega), if_neg (by omega), if_neg (by omega), if_neg (by omega), if_neg (by omega), if_neg (by omega), if_neg (by omega)] at h
  cases h
theorem point_ops {u : UnD} {g : GrD} {p : PtD} (h : pointG u g p = true) : ∀ o ∈ opersG p, (operG u.ss g.tys o).2 = true := by
  have h2 := point_pt h
  intro o ho
  rw [opersG, List.mem_filter, keepO, decide_eq_true_eq] at ho
  obtain ⟨hm, hk⟩ := ho
  have hn := noneO_k hk
  have hc : p.op = 1 ∨ p.op = 2 ∨ p.op = 3 ∨ p.op = 4 ∨ p.op = 5 ∨ p.op = 6 ∨ p.op = 7 ∨ p.op = 8 ∨ p.op = 9 ∨ p.op = 10 ∨ p.op = 11 ∨ p.op = 12 ∨ p.op = 13 ∨ p.op = 14 := by
    have := point_range h2
    omega
  cases hf : (operG u.ss g.tys o).2 with
  | true => rfl
  | false =>
    exfalso
    rw [List.mem_cons, List.mem_cons] at hm
    rw [ptG] at h2
    rcases hm with rfl | rfl | hm
    · rcases hc with hc | hc | hc | hc | hc | hc | hc | hc | hc | hc | hc | hc | hc | hc <;> simp [hc, hf, hn, restG, restL] at h2
    · rcases hc with hc | hc | hc | hc | hc | hc | hc | hc | hc | hc | hc | hc | hc | hc <;> simp [hc, hf, hn, restG, restL] at h2
    · have hne : p.args.length ≠ 0 := fun h0 => by rw [List.eq_nil_of_length_eq_zero h0] at hm; cases hm
      obtain ⟨i, hi, rfl⟩ := List.getElem_of_mem hm
      have harg : ∀ ts, argsG u.ss g.tys p.args ts = false := fun ts => by
        cases ha : argsG u.ss g.tys p.args ts with
        | false => rfl
        | true =>
          obtain ⟨hl, hx⟩ := argsG_at ha
          have := (hx i hi (by omega)).1
          rw [hf] at this; cases this
      have hne' : p.args ≠ [] := fun h0 => hne (by rw [h0]; rfl)
      rcases hc with hc | hc | hc | hc | hc | hc | hc | hc | hc | hc | hc | hc | hc | hc <;> first | (simp [hc, hne, hne', restG, restL] at h2; done) | (simp [hc, hne, hne', restG, restL, harg] at h2; try (split at h2 <;> simp_all))
theorem args_few {u : UnD} {g : GrD} {p : PtD} (hM : MayU u) (h : pointG u g p = true) : p.args.length ≤ 1000 := by
  have h2 := point_pt h
  by_cases hne : p.args.length = 0
  · omega
  have hne' : p.args ≠ [] := fun h0 => hne (by rw [h0]; rfl)
  rw [ptG] at h2
  by_cases h6 : p.op = 6
  · simp only [h6, Int.reduceEq, if_false, if_true, Bool.and_eq_true, decide_eq_true_eq, isK] at h2
    have hl := (argsG_at h2.2).1
    have hf : (fieldsT u.ss (spotG u.ss g.tys p.to).1).1.length ≤ 8 := by
      rw [fieldsT]
      split
      · exact len8_of (structs_ok hM.ok).2.1 _
      · simp
    omega
  by_cases h7 : p.op = 7
  · simp only [h7, Int.reduceEq, if_false, if_true, Bool.and_eq_true, decide_eq_true_eq] at h2
    have hlt : p.fn.toNat < u.fs.length := by omega
    rw [List.getElem?_eq_getElem hlt] at h2
    have h3 := h2.2
    simp only [Bool.and_eq_true] at h3
    have hl := (argsG_at h3.2).1
    have := (hM.hd hlt).pn8
    rw [List.length_take] at hl
    omega
  · exfalso
    have hc : p.op = 1 ∨ p.op = 2 ∨ p.op = 3 ∨ p.op = 4 ∨ p.op = 5 ∨ p.op = 8 ∨ p.op = 9 ∨ p.op = 10 ∨ p.op = 11 ∨ p.op = 12 ∨ p.op = 13 ∨ p.op = 14 := by
      have := point_range (point_pt h)
      omega
    rcases hc with hc | hc | hc | hc | hc | hc | hc | hc | hc | hc | hc | hc <;> simp [hc, hne, hne', restG, restL] at h2
end Go.Proofs
end

section
namespace Go.Proofs

open Go.Sh

set_option maxRecDepth 100000

set_option linter.unusedSimpArgs false

set_option linter.unusedVariables false

/-- a cell whose beginning is a list stays -/
theorem StX.cutSl {α : Type} {sz b cap : Nat} {R : List Value → α → Prop} {l : List α} {X : Nat → Prop} {w0 w : World} {r : Gh} {L : List Asr} {xs : List Value} {e : TypeId} (S : StX X w0 r w (.cell b xs e :: L)) (h : RowOf sz R (xs.take (l.length * sz)) l) (hz : 0 < sz) (hc : l.length ≤ cap) :
    StX X w0 (r.or (one b xs e)) w L ∧ SlG sz (one b xs e) R (.slice (some ⟨b, 0, none⟩) l.length cap) l :=
  ⟨StX.frz S, h.sl (by simp) hc (fun w k => (Sl.blk (one_blk w k)).take _) hz ⟨w, one_holds (S.has _ (List.mem_cons_self ..))⟩⟩
/-- the operands of a point, told -/
noncomputable def gopE (u : UnD) (n q : Int) : List OpD × Int := if ptE u n q ≠ 0 then ([], ptE u n q) else match ptAt u n q with | some p => (opersG p, 0) | none => ([], 2)
theorem pt_good {u : UnD} {n q : Int} {p : PtD} (h0 : ptE u n q = 0) (hp : ptAt u n q = some p) : MayU u ∧ ∃ g ∈ u.fs, u.fs[n.toNat]? = some g ∧ p ∈ g.pts ∧ pointG u g p = true ∧ HeadU u n.toNat g := by
  obtain ⟨hf, hq0, hn, hql⟩ := ptE_ok h0
  obtain ⟨hM, _, _⟩ := fnE_ok hf
  obtain ⟨hl, hpe⟩ := ptAt_mem hn hp
  have hm : p ∈ u.fs[n.toNat].pts := by rw [← hpe]; exact List.getElem_mem _
  exact ⟨hM, _, List.getElem_mem hn, List.getElem?_eq_getElem hn, hm, hM.pts _ (List.getElem_mem hn) p hm, hM.hd hn⟩
set_option maxHeartbeats 1000000 in
theorem c_graph_Operands {u : UnD} {n q : Int} {v : Value} {w : World} {r : Gh} {K : Value → World → Prop} (hr : Holds r w) (hu : UnG r v u)
    (h : ∀ vl s w', Ext w w' → New w s w' → SlG 4 s (OpG s) vl (gopE u n q).1 → K (.tuple #[vl, .int .i64 (gopE u n q).2]) w') : oCall Try.prog Try.n_graph_Operands #[v, .int .i64 n, .int .i64 q] w K := by
  refine Try.ok_graph_Operands ?_
  unfold Try.F_graph_Operands
  have hu0 := hu
  obtain ⟨p0, cap0, vf, rfl, _, _, hst, hsl, hfn⟩ := hu
  obtain ⟨qf, capf, rfl, _, _⟩ := hfn.sl.shape
  have S := St.start hr
  refine S.box fun b3 w1 S => ?_
  have S : StX noX w r w1 [.cell b3 [.slice p0 u.ss.length cap0, .slice qf u.fs.length capf, .int .i64 u.mn] 43] := S
  refine S.ldB (b := b3) ?_ rfl
  refine c_graph_point S.holds hu0 fun c p w3 e3 hp hpi => ?_
  have S := S.go e3
  obtain ⟨z1, z2, z3, z4, z5, t1, t2, t3, t4, t5, rfl, hp0⟩ := pt_form hp
  (repeat (first | refine s_p ?_ | refine s_c (by omega) ?_))
  refine S.al fun b8 w4 S => ?_
  refine S.stB (b := b8) fun w5 S => ?_
  ((with_reducible refine p_id ?_);first|refine s_p ?_|refine s_c (by omega) ?_)
  refine c_if (fun hne => ?_) (fun heq => ?_)
  · have hG : gopE u n q = ([], ptE u n q) := by rw [gopE, if_pos hne]
    rw [hG] at h
    exact h _ nothing _ S.ext New.nothing SlG.nil
  have h0 : ptE u n q = 0 := by omega
  have hpn := hpi h0
  have hG : gopE u n q = (opersG p, 0) := by rw [gopE, if_neg (by omega), hpn]
  rw [hG] at h
  rw [h0]
  obtain ⟨hM, g, hgm, hgi, hpm, hpg, hH⟩ := pt_good h0 hpn
  have harg := args_few hM hpg
  have hsh : ∀ o ∈ opersG p, o.pl.ps.length ≤ 8 := fun o ho => oper_short (point_ops hpg o ho)
  have hfw : (opersG p).length ≤ 1002 := by
    have := List.length_filter_le keepO (p.a :: p.b :: p.args)
    show ((p.a :: p.b :: p.args).filter keepO).length ≤ 1002
    simp only [List.length_cons] at this
    omega
  refine S.ldB (b := b8) ?_ rfl
  refine c_graph_operands S.holds hp0 harg fun b cap c w6 S6 hc hcap hrow => ?_
  have S : StX noX w r w6 [.cell b c 61] := S.whole S6 fun _ h => h.elim
  clear S6
  generalize opersG p = l at h hsh hfw hcap hrow ⊢
  ((with_reducible refine p_id ?_);first|refine s_p ?_|refine s_c (by omega) ?_)
  refine l_intro (ι := Nat × Gh × List Value) (fun i => [.int .i64 (i.1 : Nat)]) (fun i w' => i.1 ≤ l.length ∧ i.2.2.length = cap * 4 ∧ Above w i.2.1 ∧ RowOf 4 (OpG i.2.1) (i.2.2.take (i.1 * 4)) (l.take i.1) ∧
    (∀ (m : Nat) (hm : m < l.length), i.1 ≤ m → OpG r (nth4 i.2.2 m) l[m]) ∧ StX noX w (r.or i.2.1) w' [.cell b i.2.2 61]) (fun i => l.length - i.1) (0, nothing, c) rfl ⟨Nat.zero_le _, hc, Above.no, by simpa using RowOf.nil, fun m hm _ => by
      have := hrow.2 m hm
      rw [List.drop_take, List.take_take, Nat.min_eq_left (by omega)] at this
      exact this, S.to _⟩ ?_
  clear S hrow hc
  rintro ⟨i, s, c1⟩ d w7 ⟨hi, hc1, hab, hr1, hrest, S⟩ K6 hK6
  simp only at hi hc1 hab hr1 hrest S ⊢
  rw [List.getD_cons_zero]
  ((with_reducible refine p_id ?_);first|refine s_p ?_|refine s_c (by omega) ?_)
  refine c_if (fun hlt => ?_) (fun hge => ?_)
  · have hlt : i < l.length := by omega
    have hri := hrest i hlt (Nat.le_refl _)
    refine s_c (by omega) ?_
    rw [show 0 + ((i : Nat) : Int).toNat * 4 = i * 4 by omega]
    refine S.ldN (b := b) (vs := nth4 c1 i) ?_ rfl (op_len hri)
    refine c_graph_ownOperand S.holds (OpG.up hri) (by have := hsh _ (List.getElem_mem hlt); omega) fun c' sn w8 e8 n8 h8 => ?_
    obtain ⟨S, d8, a8⟩ := S.tell e8 n8
    have S := S.reGh
    refine s_c (by omega) ?_
    rw [show 0 + ((i : Nat) : Int).toNat * 4 = i * 4 by omega]
    refine S.stN (b := b) (cs := c'.toArray) (fun w9 S => ?_) (by omega) (by simpa using op_len h8) (by simpa using op_ones h8)
    have S : StX noX w (r.or (s.or sn)) w9 [.cell b (c1.take (i * 4) ++ c' ++ c1.drop (i * 4 + 4)) 61] := S
    ((with_reducible refine p_id ?_);first|refine s_p ?_|refine s_c (by omega) ?_)
    rw [show ((i : Int) + 1) = ((i + 1 : Nat) : Int) by omega]
    refine hK6 (i + 1, s.or sn, c1.take (i * 4) ++ c' ++ c1.drop (i * 4 + 4)) _ ⟨hlt, ?_, hab.or' a8, ?_, fun m hm hkm => ?_, S⟩ (by show l.length - (i + 1) < l.length - i; omega)
    · show (c1.take (i * 4) ++ c' ++ c1.drop (i * 4 + 4)).length = cap * 4
      rw [List.length_append, List.length_append, List.length_take, List.length_drop, op_len h8]; omega
    · show RowOf 4 (OpG (s.or sn)) ((c1.take (i * 4) ++ c' ++ c1.drop (i * 4 + 4)).take ((i + 1) * 4)) (l.take (i + 1))
      rw [take_up (by omega) (op_len h8), List.take_succ_eq_append_getElem hlt]
      exact (hr1.mono fun c x hx => OpG.up hx).snoc (op_len h8) (OpG.up h8)
    · show OpG r (nth4 (c1.take (i * 4) ++ c' ++ c1.drop (i * 4 + 4)) m) l[m]
      have hkm : i + 1 ≤ m := hkm
      rw [nth4_lo (by omega) (op_len h8) (by omega)]
      exact hrest m hm (by omega)
  have hie : i = l.length := by omega
  subst hie
  rw [List.take_length] at hr1
  have hmine := S.mine _ (List.mem_cons_self ..) b rfl
  obtain ⟨S, hs2⟩ := StX.cutSl (cap := cap) S hr1 (by decide) hcap
  have S := S.reGh
  have hab2 : Above w (one b c1 61) := fun b' o ho => by rw [ho.1]; exact hmine.1.resolve_right id
  exact h _ (s.or (one b c1 61)) _ S.ext (S.newOf (hab.or' hab2)) (hs2.up' inferInstance fun c x hx => OpG.up hx)
end Go.Proofs
end
