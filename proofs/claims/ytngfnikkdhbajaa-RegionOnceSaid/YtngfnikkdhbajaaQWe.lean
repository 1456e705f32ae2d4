/-
  Which programs may be: what it tells when one may.
  Contracts: heads of graphs; Check and May of graph.
  Contracts: the regions of a function, numbered.
  Contracts: all regions of a function; Of, Width.
  Contracts: Of, Width, Place, Borrowed, Called of region.
  Contracts: Borrowed, Called of region.
  Contracts: SameType of the reference, typeFits and spoil of law 13.
  Contracts: the example of law 13, and what is told of it.
  What is told of the example of law 13; awake.
  Contracts: fits of law 13; lists of numbers read in a memory that stays.
  loanwordlaw13.RegionOnce: whatever the program, the function: the law returns true.
  Openings: what arguments that are types, programs, lists of numbers tell.
  loanwordlaw13.RegionOnce: whatever the input, the law returns true and the input reads as it did.
-/
import Derived.Test.YtngfnikkdhbajaaQWd
import Derived.Test.YtngfnikkdhbajaaQWc
import Derived.Test.YtngfnikkdhbajaaQWb
import Derived.Test.YtngfnikkdhbajaaRows
import Derived.WalkKit

section
namespace Go.Proofs

open Go.Sh

set_option linter.unusedVariables false

theorem headsG_none {u : UnD} : ∀ {l : List GrD} {i : Nat}, headsG u i l = none ↔ ∀ (j : Nat) (h : j < l.length), headG u (i + j) l[j] = true
  | [], i => ⟨fun _ j h => absurd h (Nat.not_lt_zero _), fun _ => rfl⟩
  | g :: l, i => by
    rw [headsG]
    constructor
    · intro h j hj
      split at h
      · rename_i hg
        cases j with
        | zero => exact hg
        | succ j =>
          have := (headsG_none (l := l) (i := i + 1)).1 h j (by simpa using hj)
          rw [List.getElem_cons_succ, show i + (j + 1) = i + 1 + j by omega]; exact this
      · cases h
    · intro h
      rw [if_pos (show headG u i g = true from h 0 (Nat.zero_lt_succ _))]
      refine (headsG_none (l := l) (i := i + 1)).2 fun j hj => ?_
      have := h (j + 1) (by simpa using hj)
      rwa [List.getElem_cons_succ, show i + (j + 1) = i + 1 + j by omega] at this
theorem badPt_none {u : UnD} {g : GrD} : ∀ {l : List PtD} {q : Nat}, badPt u g q l = none ↔ ∀ p ∈ l, pointG u g p = true
  | [], q => ⟨fun _ p h => (by cases h), fun _ => rfl⟩
  | x :: l, q => by
    rw [badPt]
    constructor
    · intro h p hp
      split at h
      · rename_i hx
        rcases List.mem_cons.1 hp with rfl | hp
        · exact hx
        · exact (badPt_none (l := l) (q := q + 1)).1 h p hp
      · cases h
    · intro h
      rw [if_pos (h x List.mem_cons_self)]
      exact (badPt_none (l := l) (q := q + 1)).2 fun p hp => h p (List.mem_cons_of_mem _ hp)
theorem badG_none {u : UnD} : ∀ {l : List GrD} {i : Nat}, badG u i l = none ↔ ∀ g ∈ l, ∀ p ∈ g.pts, pointG u g p = true
  | [], i => ⟨fun _ g h => (by cases h), fun _ => rfl⟩
  | x :: l, i => by
    rw [badG]
    constructor
    · intro h g hg
      split at h
      · cases h
      · rename_i hx
        rcases List.mem_cons.1 hg with rfl | hg
        · exact badPt_none.1 hx
        · exact (badG_none (l := l) (i := i + 1)).1 h g hg
    · intro h
      rw [badPt_none.2 (h x List.mem_cons_self)]
      exact (badG_none (l := l) (i := i + 1)).2 fun g hg => h g (List.mem_cons_of_mem _ hg)
/-- a program that may be -/
structure MayU (u : UnD) : Prop where
  ok : (structsT u.ss).2 = 0
  fs1 : 1 ≤ u.fs.length
  fs32 : u.fs.length ≤ 32
  mn0 : 0 ≤ u.mn
  mn1 : u.mn < u.fs.length
  head : ∀ (i : Nat) (h : i < u.fs.length), headG u i u.fs[i] = true
  pts : ∀ g ∈ u.fs, ∀ p ∈ g.pts, pointG u g p = true
theorem checkG_ok {u : UnD} (h : MayU u) : checkG u = (0, 0, 0) := by
  have h1 := h.fs1; have h2 := h.fs32; have h3 := h.mn0; have h4 := h.mn1
  unfold checkG
  rw [if_neg (by rw [h.ok, decide_eq_false (show ¬ u.fs.length < 1 by omega), decide_eq_false (show ¬ 32 < u.fs.length by omega), decide_eq_false (show ¬ u.mn < 0 by omega), decide_eq_false (show ¬ (u.fs.length : Int) ≤ u.mn by omega)]; decide),
    headsG_none.2 (fun j hj => by rw [Nat.zero_add]; exact h.head j hj)]
  dsimp only
  rw [badG_none.2 h.pts]
theorem checkG_no {u : UnD} (h : (checkG u).2.2 = 0) : MayU u := by
  unfold checkG at h
  split at h
  · cases h
  · rename_i h1
    split at h
    · cases h
    · rename_i h2
      split at h
      · cases h
      · rename_i h3
        simp only [Bool.or_eq_true, Bool.not_eq_true', decide_eq_false_iff_not, decide_eq_true_eq, not_or] at h1
        obtain ⟨⟨h4, h5, h6⟩, h7, h8⟩ := h1
        exact ⟨by omega, by omega, by omega, by omega, by omega, fun i hi => by have := headsG_none.1 h2 i hi; rwa [Nat.zero_add] at this, badG_none.1 h3⟩
theorem mayU_iff {u : UnD} : mayU u = true ↔ MayU u := by
  rw [mayU, decide_eq_true_eq]
  exact ⟨checkG_no, fun h => by rw [checkG_ok h]⟩
/-- what a head tells -/
structure HeadU (u : UnD) (fn : Nat) (g : GrD) : Prop where
  lv0 : 0 ≤ g.lv
  lv8 : g.lv ≤ 8
  pn0 : 0 ≤ g.pn
  pn8 : g.pn ≤ 8
  pn1 : g.pn < g.tys.length
  ty512 : g.tys.length ≤ 512
  nms : g.nms.length = g.tys.length
  tys : tysG u g 0 g.tys = true
  pt1 : 1 ≤ g.pts.length
  pt1024 : g.pts.length ≤ 1024
  outs : outsG g = true
  loans : loansG g.pts ≤ 256
  main : (fn : Int) = u.mn → g.lv = 0 ∧ g.pn = 0 ∧ (g.tys.headD zeroD).k = 1
theorem headU {u : UnD} {fn : Nat} {g : GrD} (h : headG u fn g = true) : HeadU u fn g := by
  simp only [headG, Bool.and_eq_true, Bool.or_eq_true, Bool.not_eq_true', decide_eq_true_eq, decide_eq_false_iff_not, isK] at h
  obtain ⟨⟨⟨⟨⟨⟨⟨h1, h2⟩, h3, h4⟩, h5, h6⟩, h7⟩, h8⟩, ⟨h9, h10⟩, h11⟩, h12, h13⟩ := h
  exact ⟨h1, h2, h3, h4, by omega, h6, h7, h8, h9, h10, h11, h12, fun e => by rcases h13 with h | ⟨⟨h, h'⟩, h2⟩
                                                                              · exact absurd e h
                                                                              · exact ⟨h, h', h2⟩⟩
theorem HeadU.fine {u : UnD} {fn : Nat} {g : GrD} (h : HeadU u fn g) (ok : (structsT u.ss).2 = 0) : FineU u.ss g.tys := by
  obtain ⟨h1, h2, h3, h4, _⟩ := structs_ok ok
  exact ⟨h1, h3, h4, fun t ht => (may_ok (tysG_all h.tys t ht)).2⟩
theorem MayU.hd {u : UnD} (h : MayU u) {i : Nat} (hi : i < u.fs.length) : HeadU u i u.fs[i] := headU (h.head i hi)
end Go.Proofs
end

section
namespace Go.Sh

/-- 'b1 and (b2 or (b3 and b4 and b5))' -/
theorem j_andora {w : World} {A2 : (List Value → World → Prop) → Prop} {A3 A4 A5 : (List Value → World → Prop) → World → Prop} {Z : Value → World → Prop} {b1 b2 b3 b4 b5 : Bool}
    (h2 : ∀ K : List Value → World → Prop, K [.bool b2] w → A2 K) (h3 : ∀ K : List Value → World → Prop, K [.bool b3] w → A3 K w) (h4 : ∀ K : List Value → World → Prop, K [.bool b4] w → A4 K w) (h5 : ∀ K : List Value → World → Prop, K [.bool b5] w → A5 K w)
    (hZ : Z (.bool (b1 && (b2 || ((b3 && b4) && b5)))) w) :
    sJoin (fun K => gIf (.bool b1) true (A2 K) (K [undef] w)) fun s64 _ w66 =>
      sJoin (fun K => gIf (s64.getD 0 undef) false (A3 K w66) (K [undef] w66)) fun s68 _ w70 =>
        sJoin (fun K => gIf (s68.getD 0 undef) true (A4 K w70) (K [undef] w70)) fun s72 _ w74 =>
          sJoin (fun K => gIf (s64.getD 0 undef) false (oPick (s68.getD 0 undef) (s72.getD 0 undef) (.bool false) fun t => K [t] w74) (K [undef] w74)) fun s76 _ w78 =>
            sJoin (fun K => gIf (s76.getD 0 undef) true (A5 K w78) (K [undef] w78)) fun s80 _ w82 =>
              sJoin (fun K => gIf (s64.getD 0 undef) false (oPick (s76.getD 0 undef) (s80.getD 0 undef) (.bool false) fun t => K [t] w82) (K [undef] w82)) fun s84 _ w86 =>
                sJoin (fun K => gIf (.bool b1) true (oPick (s64.getD 0 undef) (.bool true) (s84.getD 0 undef) fun t => K [t] w86) (K [undef] w86)) fun s88 _ w90 =>
                  oPick (.bool b1) (s88.getD 0 undef) (.bool false) fun t => Z t w90 := by
  cases b1 <;> cases b2 <;> cases b3 <;> cases b4 <;>
    (iterate 7 (intro K hK; first | refine hK _ _ fun _ => ?_ | refine h2 _ (hK _ _ fun _ => ?_) | refine h3 _ (hK _ _ fun _ => ?_) | refine h4 _ (hK _ _ fun _ => ?_) | refine h5 _ (hK _ _ fun _ => ?_) | refine ⟨_, rfl, hK _ _ fun _ => ?_⟩)) <;>
    exact ⟨_, rfl, by simpa using hZ⟩
end Go.Sh

namespace Go.Proofs

open Go.Sh

set_option maxRecDepth 100000

set_option linter.unusedSimpArgs false

set_option linter.unusedVariables false

theorem nat_ne_int {a b : Nat} : decide ((a : Int) ≠ (b : Int)) = decide (a ≠ b) := decide_eq_decide.2 (by omega)
theorem tyG_any {u : UnD} {g : GrD} {i : Nat} {t : TyD} : tyG u g i t = (mayB u.ss t && !((regsT t).any fun r => decide (r < (if (i : Int) ≤ g.pn then 0 else -1)) || decide (g.lv ≤ r))) := by
  rw [tyG, List.not_any_eq_all_not]
set_option maxHeartbeats 4000000 in
theorem c_graph_head {u : UnD} {i : Nat} {v : Value} {w : World} {r : Gh} {K : Value → World → Prop} (hi : i < u.fs.length) (hr : Holds r w) (hu : UnG r v u)
    (h : ∀ w', Ext w w' → K (.bool (headG u i u.fs[i])) w') : oCall Try.prog Try.n_graph_head #[v, .int .i64 i] w K := by
  obtain ⟨p0, cap0, vf, rfl, _, _, hst, hsl, hfn⟩ := hu
  obtain ⟨qf, capf, rfl, _, _⟩ := hfn.sl.shape
  obtain ⟨bf, of, cf, rfl, hcf, hgc, hfo⟩ := hfn.sl.get (by decide) hi
  refine Try.ok_graph_head ?_
  unfold Try.F_graph_head
  generalize hgi : u.fs[i] = g at h hgc
  obtain ⟨vo, vt, vn, vp, rfl, h1, h2, h3, h4⟩ := id hgc
  obtain ⟨qo, capo, rfl, _, _⟩ := h1.sl.shape
  obtain ⟨qt, capt, rfl, _, hct⟩ := h2.sl.shape
  obtain ⟨qn, capn, rfl, _, _⟩ := h3.sl.shape
  obtain ⟨qp, capp, rfl, _, _⟩ := h4.sl.shape
  have hptl : g.pts.length ≤ 9223372036854775807 := h4.few
  have htl : g.tys.length ≤ 9223372036854775807 := h2.few
  have S := St.start hr
  refine S.box fun b2 w1 S => ?_
  (repeat (first | refine s_p ?_ | refine s_c (by omega) ?_ | refine S.ld ?_ | refine S.ldB ?_ | refine S.ce ?_ | refine S.ceB ?_ | refine s_q ?_ | refine s_qc (by omega) ?_ | refine n_some ?_ | rw [List.getD_cons_zero] | rw [List.getD_cons_succ]))
  refine s_ldN (n := 7) hcf (fun j v hj => by rw [Int.toNat_natCast]; exact S.at (hfo j v hj)) ?_
  refine S.al fun b5 w2 S => ?_
  refine S.stB (b := b5) fun w3 S => ?_
  (repeat (first | refine s_p ?_ | refine s_c (by omega) ?_ | refine S.ld ?_ | refine S.ldB ?_ | refine S.ce ?_ | refine S.ceB ?_ | refine s_q ?_ | refine s_qc (by omega) ?_ | refine n_some ?_ | rw [List.getD_cons_zero] | rw [List.getD_cons_succ]))
  have no : (HeadU u i g → False) → headG u i g = false := fun hh => by
    cases e : headG u i g
    · rfl
    · exact (hh (headU e)).elim
  refine j_borH (c := decide (8 < g.lv)) (fun _ K2 hK2 => ?_) ?_
  · (repeat (first | refine s_p ?_ | refine s_c (by omega) ?_ | refine S.ld ?_ | refine S.ldB ?_ | refine S.ce ?_ | refine S.ceB ?_ | refine s_q ?_ | refine s_qc (by omega) ?_ | refine n_some ?_ | rw [List.getD_cons_zero] | rw [List.getD_cons_succ]))
    exact hK2
  refine j_borH (c := decide (g.pn < 0)) (fun _ K2 hK2 => ?_) ?_
  · (repeat (first | refine s_p ?_ | refine s_c (by omega) ?_ | refine S.ld ?_ | refine S.ldB ?_ | refine S.ce ?_ | refine S.ceB ?_ | refine s_q ?_ | refine s_qc (by omega) ?_ | refine n_some ?_ | rw [List.getD_cons_zero] | rw [List.getD_cons_succ]))
    exact hK2
  refine j_borH (c := decide (8 < g.pn)) (fun _ K2 hK2 => ?_) ?_
  · (repeat (first | refine s_p ?_ | refine s_c (by omega) ?_ | refine S.ld ?_ | refine S.ldB ?_ | refine S.ce ?_ | refine S.ceB ?_ | refine s_q ?_ | refine s_qc (by omega) ?_ | refine n_some ?_ | rw [List.getD_cons_zero] | rw [List.getD_cons_succ]))
    exact hK2
  refine j_borH (c := decide ((g.tys.length : Int) ≤ g.pn)) (fun _ K2 hK2 => ?_) ?_
  · (repeat (first | refine s_p ?_ | refine s_c (by omega) ?_ | refine S.ld ?_ | refine S.ldB ?_ | refine S.ce ?_ | refine S.ceB ?_ | refine s_q ?_ | refine s_qc (by omega) ?_ | refine n_some ?_ | rw [List.getD_cons_zero] | rw [List.getD_cons_succ]))
    exact hK2
  refine j_borH (c := decide (512 < g.tys.length)) (fun _ K2 hK2 => ?_) ?_
  · (repeat (first | refine s_p ?_ | refine s_c (by omega) ?_ | refine S.ld ?_ | refine S.ldB ?_ | refine S.ce ?_ | refine S.ceB ?_ | refine s_q ?_ | refine s_qc (by omega) ?_ | refine n_some ?_ | rw [List.getD_cons_zero] | rw [List.getD_cons_succ]))
    rw [show decide ((512 : Int) < (g.tys.length : Int)) = decide (512 < g.tys.length) from decide_eq_decide.2 (by omega)]
    exact hK2
  refine j_borH (c := decide (g.nms.length ≠ g.tys.length)) (fun _ K2 hK2 => ?_) ?_
  · (repeat (first | refine s_p ?_ | refine s_c (by omega) ?_ | refine S.ld ?_ | refine S.ldB ?_ | refine S.ce ?_ | refine S.ceB ?_ | refine s_q ?_ | refine s_qc (by omega) ?_ | refine n_some ?_ | rw [List.getD_cons_zero] | rw [List.getD_cons_succ]))
    rw [nat_ne_int]
    exact hK2
  refine c_b (fun hbad => ?_) (fun hgood => ?_)
  · rw [no fun H => by
      have := H.lv0; have := H.lv8; have := H.pn0; have := H.pn8; have := H.pn1; have := H.ty512; have := H.nms
      simp only [Bool.or_eq_true, decide_eq_true_eq] at hbad; omega] at h
    exact h _ S.ext
  have hnum : (0 ≤ g.lv ∧ g.lv ≤ 8 ∧ 0 ≤ g.pn ∧ g.pn ≤ 8) ∧ g.pn < g.tys.length ∧ g.tys.length ≤ 512 ∧ g.nms.length = g.tys.length := by
    simp only [Bool.or_eq_false_iff, decide_eq_false_iff_not] at hgood; omega
  clear hgood
  obtain ⟨⟨hlv0, hlv8, hpn0, hpn8⟩, hpn1, hty, hnm⟩ := hnum
  (repeat (first | refine s_p ?_ | refine s_c (by omega) ?_ | refine S.ld ?_ | refine S.ldB ?_ | refine S.ce ?_ | refine S.ceB ?_ | refine s_q ?_ | refine s_qc (by omega) ?_ | refine n_some ?_ | rw [List.getD_cons_zero] | rw [List.getD_cons_succ]))
  refine l_intro (ι := Nat) (fun i => [.int .i64 (i : Nat)]) (fun j w' => j ≤ g.tys.length ∧ tysG u g j (g.tys.drop j) = tysG u g 0 g.tys ∧ StX noX w r w' _) (fun i => g.tys.length - i) 0 rfl ⟨Nat.zero_le _, rfl, S⟩ ?_
  clear S
  rintro j d w5 ⟨hj, hd, S⟩ K6 hK6
  rw [List.getD_cons_zero]
  (first | refine s_p ?_ | refine s_c (by omega) ?_)
  refine c_if (fun hlt => ?_) (fun hge => ?_)
  · have hlt : j < g.tys.length := by omega
    obtain ⟨bt, ot, ct, rfl, hct, htc, hcell⟩ := h2.sl.get (by decide) hlt
    obtain ⟨q2, cap2, rfl, ht2⟩ := ty_form htc
    rw [tysG_drop hlt] at hd
    (first | refine s_p ?_ | refine s_c (by omega) ?_)
    refine s_ldN (n := 5) hct (fun j v hj => by rw [Int.toNat_natCast]; exact S.at (hcell j v hj)) ?_
    refine S.al fun b7 w6 S => ?_
    refine S.stB (b := b7) fun w7 S => ?_
    (repeat (first | refine s_p ?_ | refine s_c (by omega) ?_ | refine S.ld ?_ | refine S.ldB ?_ | refine S.ce ?_ | refine S.ceB ?_ | refine s_q ?_ | refine s_qc (by omega) ?_ | refine n_some ?_ | rw [List.getD_cons_zero] | rw [List.getD_cons_succ]))
    refine c_types_May S.holds hst ht2 fun w8 e8 => ?_
    have S := S.go e8
    (first | refine s_p ?_ | refine s_c (by omega) ?_)
    refine c_b (fun hm => ?_) (fun hm => ?_)
    · have hm : mayB u.ss g.tys[j] = false := by simpa using hm
      rw [no fun H => by
        have := H.tys
        rw [← hd, tyG, hm, Bool.false_and, Bool.false_and] at this; cases this] at h
      exact h _ S.ext
    have hm : mayB u.ss g.tys[j] = true := by simpa using hm
    refine S.al fun b8 w9 S => ?_
    refine S.st (b := b8) fun w10 S => ?_
    refine j_intro (fun _ w' => StX noX w r w' [.cell b8 [.int .i64 (if (j : Int) ≤ g.pn then 0 else -1)] 3, .cell b7 (tyL g.tys[j] q2 cap2) 25, .cell b5 [.string g.name, .int .i64 g.lv, .slice qo g.outs.length capo, .int .i64 g.pn, .slice (some ⟨bt, ot, none⟩) g.tys.length capt, .slice qn g.nms.length capn, .slice qp g.pts.length capp] 53,
      .cell b2 [.slice p0 u.ss.length cap0, .slice (some ⟨bf, of, none⟩) u.fs.length capf, .int .i64 u.mn] 43]) (fun K3 hK3 => ?_) ?_
    · (repeat (first | refine s_p ?_ | refine s_c (by omega) ?_ | refine S.ld ?_ | refine S.ldB ?_ | refine S.ce ?_ | refine S.ceB ?_ | refine s_q ?_ | refine s_qc (by omega) ?_ | refine n_some ?_ | rw [List.getD_cons_zero] | rw [List.getD_cons_succ]))
      refine c_if (fun hle => ?_) (fun hgt => ?_)
      · refine S.st (b := b8) fun w11 S => ?_
        refine hK3 [] _ ?_
        rw [if_pos hle]; exact S
      · refine hK3 [] _ ?_
        rw [if_neg hgt]; exact S
    clear S
    rintro _ w11 S d11
    refine S.ldB (b := b7) ?_ rfl
    refine c_types_Regions S.holds ht2 fun v7 w12 e12 o12 => ?_
    have S := S.go e12
    obtain ⟨p7, cap7, rfl, _, _, _, hs7⟩ := own_shape o12
    (first | refine s_p ?_ | refine s_c (by omega) ?_)
    have hr48 : (regsT g.tys[j]).length ≤ 1000 := by
      rw [regsT]; split
      · have := regs_le48 (by assumption); omega
      · simp
    refine c_ContainsFunc_intW (f := fun x => decide (x < (if (j : Int) ≤ g.pn then 0 else -1)) || decide (g.lv ≤ x)) (fun x K hK => ?_) hs7 (by omega) ?_
    · refine v_f12 (by kernel_rfl) ?_
      refine Try.ok_graph_head_1 ?_
      unfold Try.F_graph_head_1
      refine S.ld (b := b8) ?_ rfl
      (first | refine s_p ?_ | refine s_c (by omega) ?_)
      refine j_borH (c := decide (g.lv ≤ x)) (fun _ K2 hK2 => ?_) hK
      (repeat (first | refine s_p ?_ | refine s_c (by omega) ?_ | refine S.ld ?_ | refine S.ldB ?_ | refine S.ce ?_ | refine S.ceB ?_ | refine s_q ?_ | refine s_qc (by omega) ?_ | refine n_some ?_ | rw [List.getD_cons_zero] | rw [List.getD_cons_succ]))
      exact hK2
    have hty : tyG u g j g.tys[j] = !((regsT g.tys[j]).any fun x => decide (x < (if (j : Int) ≤ g.pn then 0 else -1)) || decide (g.lv ≤ x)) := by
      rw [tyG_any, hm, Bool.true_and]
    refine c_b (fun hx => ?_) (fun hx => ?_)
    · rw [hty, hx, Bool.not_true, Bool.false_and] at hd
      rw [no fun H => by have := H.tys; rw [← hd] at this; cases this] at h
      exact h _ S.ext
    · rw [hty, hx, Bool.not_false, Bool.true_and] at hd
      (first | refine s_p ?_ | refine s_c (by omega) ?_)
      rw [show ((j : Int) + 1) = ((j + 1 : Nat) : Int) by omega]
      exact hK6 (j + 1) _ ⟨hlt, hd, (S.drop b8).drop b7⟩ (by omega)
  have hje : j = g.tys.length := by omega
  rw [hje, List.drop_length] at hd
  have htys : tysG u g 0 g.tys = true := hd.symm
  clear hd hK6 K6 hge hj hje
  (repeat (first | refine s_p ?_ | refine s_c (by omega) ?_ | refine S.ld ?_ | refine S.ldB ?_ | refine S.ce ?_ | refine S.ceB ?_ | refine s_q ?_ | refine s_qc (by omega) ?_ | refine n_some ?_ | rw [List.getD_cons_zero] | rw [List.getD_cons_succ]))
  refine j_borH (c := decide (1024 < g.pts.length)) (fun _ K2 hK2 => ?_) ?_
  · (repeat (first | refine s_p ?_ | refine s_c (by omega) ?_ | refine S.ld ?_ | refine S.ldB ?_ | refine S.ce ?_ | refine S.ceB ?_ | refine s_q ?_ | refine s_qc (by omega) ?_ | refine n_some ?_ | rw [List.getD_cons_zero] | rw [List.getD_cons_succ]))
    rw [show decide ((1024 : Int) < (g.pts.length : Int)) = decide (1024 < g.pts.length) from decide_eq_decide.2 (by omega)]
    exact hK2
  refine j_borE (c := !outsG g) (fun _ K2 hK2 => ?_) fun w20 e20 => ?_
  · refine S.ldB (b := b5) ?_ rfl
    refine c_graph_outlives S.holds hgc hlv0 hlv8 hpn0 hpn1 (fun t ht x hx => ?_) fun w21 e21 => ?_
    · obtain ⟨k, hk, rfl⟩ := List.getElem_of_mem ht
      rw [List.length_take] at hk
      rw [List.getElem_take] at hx
      have := tysG_low htys (j := k) (by omega) (by omega) x hx
      omega
    (first | refine s_p ?_ | refine s_c (by omega) ?_)
    exact hK2 _ e21
  have S := S.go e20
  refine c_b (fun hbad => ?_) (fun hgood => ?_)
  · rw [no fun H => by
      have := H.pt1; have := H.pt1024; have h3 := H.outs
      rw [h3] at hbad
      simp only [Bool.or_eq_true, decide_eq_true_eq, Bool.not_true, Bool.false_eq_true, or_false] at hbad; omega] at h
    exact h _ S.ext
  have hnum : (1 ≤ g.pts.length ∧ g.pts.length ≤ 1024) ∧ outsG g = true := by
    cases ho : outsG g
    · rw [ho] at hgood; simp at hgood
    · simp only [Bool.or_eq_false_iff, decide_eq_false_iff_not] at hgood
      exact ⟨by omega, rfl⟩
  clear hgood
  obtain ⟨⟨hp1, hp1024⟩, hout⟩ := hnum
  (repeat (first | refine s_p ?_ | refine s_c (by omega) ?_ | refine S.ld ?_ | refine S.ldB ?_ | refine S.ce ?_ | refine S.ceB ?_ | refine s_q ?_ | refine s_qc (by omega) ?_ | refine n_some ?_ | rw [List.getD_cons_zero] | rw [List.getD_cons_succ]))
  refine l_intro (ι := Nat) (fun i => [.int .i64 (loansG (g.pts.take i) : Nat), .int .i64 (i : Nat)]) (fun j w' => j ≤ g.pts.length ∧ loansG (g.pts.take j) ≤ j ∧ StX noX w r w' _) (fun i => g.pts.length - i) 0 rfl ⟨Nat.zero_le _, Nat.le_refl _, S⟩ ?_
  clear S
  rintro j d w22 ⟨hj, hlj, S⟩ K7 hK7
  simp only [List.getD_cons_zero, List.getD_cons_succ]
  (first | refine s_p ?_ | refine s_c (by omega) ?_)
  refine c_if (fun hlt => ?_) (fun hge => ?_)
  · have hlt : j < g.pts.length := by omega
    obtain ⟨bp, op, cp, rfl, hcp, hpc, hcell⟩ := h4.sl.get (by decide) hlt
    refine j_intro (fun s w' => s = [.int .i64 (loansG (g.pts.take (j + 1)) : Nat)] ∧ StX noX w r w' [.cell b5 [.string g.name, .int .i64 g.lv, .slice qo g.outs.length capo, .int .i64 g.pn, .slice qt g.tys.length capt, .slice qn g.nms.length capn, .slice (some ⟨bp, op, none⟩) g.pts.length capp] 53,
      .cell b2 [.slice p0 u.ss.length cap0, .slice (some ⟨bf, of, none⟩) u.fs.length capf, .int .i64 u.mn] 43]) (fun K3 hK3 => ?_) ?_
    · (first | refine s_p ?_ | refine s_c (by omega) ?_)
      refine s_ldN (n := 21) hcp (fun j v hj => by rw [Int.toNat_natCast]; exact S.at (hcell j v hj)) ?_
      obtain ⟨vto, va, vb, vl, vfr, rfl, k1, k2, k3, k4, k5⟩ := hpc
      obtain ⟨_, _, rfl, _⟩ := k1.sl.shape
      obtain ⟨_, _, rfl, _⟩ := k2.sl.shape
      obtain ⟨_, _, rfl, _⟩ := k3.sl.shape
      obtain ⟨_, _, rfl, _⟩ := k4.sl.shape
      obtain ⟨_, _, rfl, _⟩ := k5.sl.shape
      refine S.al fun b11 w23 S => ?_
      refine S.stB (b := b11) fun w24 S => ?_
      (repeat (first | refine s_p ?_ | refine s_c (by omega) ?_ | refine S.ld ?_ | refine S.ldB ?_ | refine S.ce ?_ | refine S.ceB ?_ | refine s_q ?_ | refine s_qc (by omega) ?_ | refine n_some ?_ | rw [List.getD_cons_zero] | rw [List.getD_cons_succ]))
      have hlo := loans_take hlt
      refine c_if (fun ho => ?_) (fun ho => ?_)
      · rw [if_pos ho] at hlo
        (first | refine s_p ?_ | refine s_c (by omega) ?_)
        rw [show ((loansG (g.pts.take j) : Nat) : Int) + 1 = ((loansG (g.pts.take (j + 1)) : Nat) : Int) by omega]
        exact hK3 _ _ ⟨rfl, S.drop b11⟩
      · rw [if_neg ho] at hlo
        rw [show ((loansG (g.pts.take j) : Nat) : Int) = ((loansG (g.pts.take (j + 1)) : Nat) : Int) by omega]
        exact hK3 _ _ ⟨rfl, S.drop b11⟩
    clear S
    rintro _ w25 ⟨rfl, S⟩ d25
    rw [List.getD_cons_zero]
    (first | refine s_p ?_ | refine s_c (by omega) ?_)
    rw [show ((j : Int) + 1) = ((j + 1 : Nat) : Int) by omega]
    refine hK7 (j + 1) _ ⟨hlt, ?_, S⟩ (by omega)
    rw [loans_take hlt]; split <;> omega
  have hje : j = g.pts.length := by omega
  rw [hje, List.take_length]
  (first | refine s_p ?_ | refine s_c (by omega) ?_)
  have hfin : headG u i g = (decide (loansG g.pts ≤ 256) && (decide ((i : Int) ≠ u.mn) || ((decide (g.lv = 0) && decide (g.pn = 0)) && isK (g.tys.headD zeroD) 1))) := by
    rw [headG, htys, hout, decide_eq_true hlv0, decide_eq_true hlv8, decide_eq_true hpn0, decide_eq_true hpn8, decide_eq_true hpn1, decide_eq_true hty, decide_eq_true hnm, decide_eq_true hp1, decide_eq_true hp1024, decide_not]; rfl
  rw [hfin] at h
  rw [show decide ((loansG g.pts : Int) ≤ 256) = decide (loansG g.pts ≤ 256) from decide_eq_decide.2 (by omega)]
  refine j_andora (b2 := decide ((i : Int) ≠ u.mn)) (b3 := decide (g.lv = 0)) (b4 := decide (g.pn = 0)) (b5 := isK (g.tys.headD zeroD) 1) (fun K2 hK2 => ?_) (fun K2 hK2 => ?_) (fun K2 hK2 => ?_) (fun K2 hK2 => ?_) (h _ S.ext)
  · (repeat (first | refine s_p ?_ | refine s_c (by omega) ?_ | refine S.ld ?_ | refine S.ldB ?_ | refine S.ce ?_ | refine S.ceB ?_ | refine s_q ?_ | refine s_qc (by omega) ?_ | refine n_some ?_ | rw [List.getD_cons_zero] | rw [List.getD_cons_succ]))
    exact hK2
  · (repeat (first | refine s_p ?_ | refine s_c (by omega) ?_ | refine S.ld ?_ | refine S.ldB ?_ | refine S.ce ?_ | refine S.ceB ?_ | refine s_q ?_ | refine s_qc (by omega) ?_ | refine n_some ?_ | rw [List.getD_cons_zero] | rw [List.getD_cons_succ]))
    exact hK2
  · (repeat (first | refine s_p ?_ | refine s_c (by omega) ?_ | refine S.ld ?_ | refine S.ldB ?_ | refine S.ce ?_ | refine S.ceB ?_ | refine s_q ?_ | refine s_qc (by omega) ?_ | refine n_some ?_ | rw [List.getD_cons_zero] | rw [List.getD_cons_succ]))
    exact hK2
  · have hpos : 0 < g.tys.length := by omega
    obtain ⟨bt, ot, ct, rfl, hct, htc, hcell⟩ := h2.sl.get (by decide) hpos
    obtain ⟨q2, cap2, rfl, ht2⟩ := ty_form htc
    (repeat (first | refine s_p ?_ | refine s_c (by omega) ?_ | refine S.ld ?_ | refine S.ldB ?_ | refine S.ce ?_ | refine S.ceB ?_ | refine s_q ?_ | refine s_qc (by omega) ?_ | refine n_some ?_ | rw [List.getD_cons_zero] | rw [List.getD_cons_succ]))
    refine s_ld1 (v := .int .u8 g.tys[0].k) (by simpa using S.at (hcell 0 _ rfl)) ?_
    (repeat (first | refine s_p ?_ | refine s_c (by omega) ?_ | refine S.ld ?_ | refine S.ldB ?_ | refine S.ce ?_ | refine S.ceB ?_ | refine s_q ?_ | refine s_qc (by omega) ?_ | refine n_some ?_ | rw [List.getD_cons_zero] | rw [List.getD_cons_succ]))
    have he : g.tys.headD zeroD = g.tys[0] := by
      rw [List.headD_eq_head?_getD, List.head?_eq_getElem?, List.getElem?_eq_getElem hpos, Option.getD_some]
    rw [he] at hK2
    exact hK2
/-! ### Check, May -/

theorem headsG_at {u : UnD} {i : Nat} {l : List GrD} (hi : i < l.length) : headsG u i (l.drop i) = if headG u i l[i] then headsG u (i + 1) (l.drop (i + 1)) else some i := by
  rw [List.drop_eq_getElem_cons hi]; rfl
theorem badPt_at {u : UnD} {g : GrD} {q : Nat} {l : List PtD} (hq : q < l.length) : badPt u g q (l.drop q) = if pointG u g l[q] then badPt u g (q + 1) (l.drop (q + 1)) else some q := by
  rw [List.drop_eq_getElem_cons hq]; rfl
theorem badG_at {u : UnD} {i : Nat} {l : List GrD} (hi : i < l.length) : badG u i (l.drop i) = match badPt u l[i] 0 l[i].pts with | some q => some (i, q) | none => badG u (i + 1) (l.drop (i + 1)) := by
  rw [List.drop_eq_getElem_cons hi]; rfl
/-- what Check tells, when structs, functions and main are as they must be -/
noncomputable def checkH (u : UnD) : Int × Int × Int := match headsG u 0 u.fs with
    | some i => (i, -1, 100)
    | none => match badG u 0 u.fs with
      | some (i, q) => (i, q, 100)
      | none => (0, 0, 0)
set_option maxHeartbeats 4000000 in
theorem c_graph_Check {u : UnD} {v : Value} {w : World} {r : Gh} {K : Value → World → Prop} (hr : Holds r w) (hu : UnG r v u)
    (h : ∀ w', Ext w w' → K (.tuple #[.int .i64 (checkG u).1, .int .i64 (checkG u).2.1, .int .i64 (checkG u).2.2]) w') : oCall Try.prog Try.n_graph_Check #[v] w K := by
  have hu0 := hu
  obtain ⟨p0, cap0, vf, rfl, _, _, hst, hsl, hfn⟩ := hu
  obtain ⟨qf, capf, rfl, _, _⟩ := hfn.sl.shape
  have hfl : u.fs.length ≤ 9223372036854775807 := hfn.few
  refine Try.ok_graph_Check ?_
  unfold Try.F_graph_Check
  have S := St.start hr
  refine S.box fun b1 w1 S => ?_
  (repeat (first | refine s_p ?_ | refine s_c (by omega) ?_ | refine S.ld ?_ | refine S.ldB ?_ | refine S.ce ?_ | refine S.ceB ?_ | refine s_q ?_ | refine s_qc (by omega) ?_ | refine n_some ?_ | rw [List.getD_cons_zero] | rw [List.getD_cons_succ]))
  refine c_types_Structs S.holds hst fun w2 e2 => ?_
  have S := S.go e2
  (repeat (first | refine s_p ?_ | refine s_c (by omega) ?_))
  refine j_borH (c := decide (u.fs.length < 1)) (fun _ K2 hK2 => ?_) ?_
  · (repeat (first | refine s_p ?_ | refine s_c (by omega) ?_ | refine S.ld ?_ | refine S.ldB ?_ | refine S.ce ?_ | refine S.ceB ?_ | refine s_q ?_ | refine s_qc (by omega) ?_ | refine n_some ?_ | rw [List.getD_cons_zero] | rw [List.getD_cons_succ]))
    rw [show decide ((u.fs.length : Int) < 1) = decide (u.fs.length < 1) from decide_eq_decide.2 (by omega)]
    exact hK2
  refine j_borH (c := decide (32 < u.fs.length)) (fun _ K2 hK2 => ?_) ?_
  · (repeat (first | refine s_p ?_ | refine s_c (by omega) ?_ | refine S.ld ?_ | refine S.ldB ?_ | refine S.ce ?_ | refine S.ceB ?_ | refine s_q ?_ | refine s_qc (by omega) ?_ | refine n_some ?_ | rw [List.getD_cons_zero] | rw [List.getD_cons_succ]))
    rw [show decide ((32 : Int) < (u.fs.length : Int)) = decide (32 < u.fs.length) from decide_eq_decide.2 (by omega)]
    exact hK2
  refine j_borH (c := decide (u.mn < 0)) (fun _ K2 hK2 => ?_) ?_
  · (repeat (first | refine s_p ?_ | refine s_c (by omega) ?_ | refine S.ld ?_ | refine S.ldB ?_ | refine S.ce ?_ | refine S.ceB ?_ | refine s_q ?_ | refine s_qc (by omega) ?_ | refine n_some ?_ | rw [List.getD_cons_zero] | rw [List.getD_cons_succ]))
    exact hK2
  refine j_borH (c := decide ((u.fs.length : Int) ≤ u.mn)) (fun _ K2 hK2 => ?_) ?_
  · (repeat (first | refine s_p ?_ | refine s_c (by omega) ?_ | refine S.ld ?_ | refine S.ldB ?_ | refine S.ce ?_ | refine S.ceB ?_ | refine s_q ?_ | refine s_qc (by omega) ?_ | refine n_some ?_ | rw [List.getD_cons_zero] | rw [List.getD_cons_succ]))
    exact hK2
  have hC : checkG u = if ((((decide ((structsT u.ss).2 ≠ 0) || decide (u.fs.length < 1)) || decide (32 < u.fs.length)) || decide (u.mn < 0)) || decide ((u.fs.length : Int) ≤ u.mn)) = true then (-1, -1, 100) else checkH u := by
    rw [checkG, checkH]
    simp only [ne_eq, decide_not, Bool.or_assoc]
    rfl
  rw [hC] at h
  refine c_b (fun hbad => ?_) (fun hgood => ?_)
  · rw [if_pos hbad] at h
    exact h _ S.ext
  rw [if_neg (by rw [hgood]; decide)] at h
  have hok : (structsT u.ss).2 = 0 := by
    simp only [Bool.or_eq_false_iff, decide_eq_false_iff_not] at hgood; omega
  clear hC hgood
  (repeat (first | refine s_p ?_ | refine s_c (by omega) ?_ | refine S.ld ?_ | refine S.ldB ?_ | refine S.ce ?_ | refine S.ceB ?_ | refine s_q ?_ | refine s_qc (by omega) ?_ | refine n_some ?_ | rw [List.getD_cons_zero] | rw [List.getD_cons_succ]))
  refine l_intro (ι := Nat × Int) (fun i => [.int .i64 i.2, .int .i64 0, .int .i64 (i.1 : Nat)]) (fun j w' => j.1 ≤ u.fs.length ∧ headsG u j.1 (u.fs.drop j.1) = headsG u 0 u.fs ∧ StX noX w r w' _) (fun i => u.fs.length - i.1) (0, 0) rfl ⟨Nat.zero_le _, rfl, S⟩ ?_
  clear S
  rintro ⟨j, a⟩ d w5 ⟨hj, hd, S⟩ K6 hK6
  simp only at hj hd S ⊢
  simp only [List.getD_cons_zero, List.getD_cons_succ]
  (first | refine s_p ?_ | refine s_c (by omega) ?_)
  refine c_if (fun hlt => ?_) (fun hge => ?_)
  · have hlt : j < u.fs.length := by omega
    rw [headsG_at hlt] at hd
    refine S.ldB (b := b1) ?_ rfl
    refine c_graph_head hlt S.holds hu0 fun w6 e6 => ?_
    have S := S.go e6
    (first | refine s_p ?_ | refine s_c (by omega) ?_)
    refine c_b (fun hx => ?_) (fun hx => ?_)
    · rw [if_neg (by simpa using hx)] at hd
      rw [checkH, ← hd] at h
      exact h _ S.ext
    · rw [if_pos (by simpa using hx)] at hd
      (first | refine s_p ?_ | refine s_c (by omega) ?_)
      rw [show ((j : Int) + 1) = ((j + 1 : Nat) : Int) by omega]
      exact hK6 (j + 1, j) _ ⟨hlt, hd, S⟩ (by show u.fs.length - (j + 1) < u.fs.length - j; omega)
  have hje : j = u.fs.length := by omega
  rw [hje, List.drop_length] at hd
  have hnone : headsG u 0 u.fs = none := hd.symm
  have hheads := fun (i : Nat) (hi : i < u.fs.length) => headU (by have := headsG_none.1 hnone i hi; rwa [Nat.zero_add] at this : headG u i u.fs[i] = true)
  rw [checkH, hnone] at h
  dsimp only at h
  clear hd hK6 K6 hge hj hje
  refine j_intro (fun s w' => Ext w w' ∧ ((∃ x y : Nat, s = [.int .i64 (x : Int), .int .i64 (y : Int), .bool true] ∧ badG u 0 u.fs = some (x, y)) ∨ ∃ x y, s = [x, y, .bool false] ∧ badG u 0 u.fs = none)) (fun K3 hK3 => ?_) ?_
  rotate_left
  · rintro _ w9 ⟨e9, ⟨x, y, rfl, hb⟩ | ⟨x, y, rfl, hb⟩⟩ d9
    · rw [hb] at h
      refine c_t rfl ?_
      exact h _ e9
    · rw [hb] at h
      refine c_f rfl ?_
      exact h _ e9
  (repeat (first | refine s_p ?_ | refine s_c (by omega) ?_ | refine S.ld ?_ | refine S.ldB ?_ | refine S.ce ?_ | refine S.ceB ?_ | refine s_q ?_ | refine s_qc (by omega) ?_ | refine n_some ?_ | rw [List.getD_cons_zero] | rw [List.getD_cons_succ]))
  refine l_intro (ι := Nat × Value × Value) (fun i => [i.2.1, i.2.2, .bool false, .int .i64 (i.1 : Nat)]) (fun j w' => j.1 ≤ u.fs.length ∧ badG u j.1 (u.fs.drop j.1) = badG u 0 u.fs ∧ StX noX w r w' _) (fun i => u.fs.length - i.1) (0, .int .i64 a, .int .i64 0) rfl ⟨Nat.zero_le _, rfl, S⟩ ?_
  clear S
  rintro ⟨j, x1, x2⟩ d w5 ⟨hj, hd, S⟩ K6 hK6
  simp only at hj hd S ⊢
  simp only [List.getD_cons_zero, List.getD_cons_succ]
  (first | refine s_p ?_ | refine s_c (by omega) ?_)
  refine c_if (fun hlt => ?_) (fun hge => ?_)
  rotate_left
  · have hje : j = u.fs.length := by omega
    rw [hje, List.drop_length] at hd
    exact hK3 _ _ ⟨S.ext, .inr ⟨_, _, rfl, hd.symm⟩⟩
  have hlt : j < u.fs.length := by omega
  obtain ⟨bf, of, cf, rfl, hcf, hgc, hfo⟩ := hfn.sl.get (by decide) hlt
  rw [badG_at hlt] at hd
  have hH := hheads j hlt
  have hfin := hH.fine hok
  have hpn : ∀ f ∈ u.fs, 0 ≤ f.pn ∧ f.pn < f.tys.length := fun f hf => by
    obtain ⟨i, hi, rfl⟩ := List.getElem_of_mem hf
    exact ⟨(hheads i hi).pn0, (hheads i hi).pn1⟩
  generalize hgi : u.fs[j] = g at hd hgc hH hfin
  obtain ⟨vo, vt, vn, vp, rfl, h1, h2, h3, h4⟩ := id hgc
  obtain ⟨qo, capo, rfl, _, _⟩ := h1.sl.shape
  obtain ⟨qt, capt, rfl, _, hct⟩ := h2.sl.shape
  obtain ⟨qn, capn, rfl, _, _⟩ := h3.sl.shape
  obtain ⟨qp, capp, rfl, _, _⟩ := h4.sl.shape
  have hptl : g.pts.length ≤ 9223372036854775807 := h4.few
  (first | refine s_p ?_ | refine s_c (by omega) ?_)
  refine s_ldN (n := 7) hcf (fun j v hj => by rw [Int.toNat_natCast]; exact S.at (hfo j v hj)) ?_
  refine S.al fun b9 w6 S => ?_
  refine S.stB (b := b9) fun w7 S => ?_
  refine S.ldB (b := b1) ?_ rfl
  refine S.ldB (b := b9) ?_ rfl
  refine p_build (cs := #[.slice p0 u.ss.length cap0, .slice (some ⟨bf, of, none⟩) u.fs.length capf, .int .i64 u.mn, .string g.name, .int .i64 g.lv, .slice qo g.outs.length capo, .int .i64 g.pn, .slice qt g.tys.length capt, .slice qn g.nms.length capn, .slice qp g.pts.length capp]) (by kernel_rfl) ?_
  refine S.al fun b10 w8 S => ?_
  refine S.stB (b := b10) fun w9 S => ?_
  (repeat (first | refine s_p ?_ | refine s_c (by omega) ?_ | refine S.ld ?_ | refine S.ldB ?_ | refine S.ce ?_ | refine S.ceB ?_ | refine s_q ?_ | refine s_qc (by omega) ?_ | refine n_some ?_ | rw [List.getD_cons_zero] | rw [List.getD_cons_succ]))
  have hask : AskG r (.agg #[.slice p0 u.ss.length cap0, .slice (some ⟨bf, of, none⟩) u.fs.length capf, .int .i64 u.mn, .string g.name, .int .i64 g.lv, .slice qo g.outs.length capo, .int .i64 g.pn, .slice qt g.tys.length capt, .slice qn g.nms.length capn, .slice qp g.pts.length capp]) u g := ⟨_, _, _, _, _, _, _, rfl, hu0, hgc⟩
  refine l_intro (ι := Nat) (fun i => [x1, x2, .bool false, .int .i64 (i : Nat)]) (fun k w' => k ≤ g.pts.length ∧ badPt u g k (g.pts.drop k) = badPt u g 0 g.pts ∧ StX noX w r w' _) (fun i => g.pts.length - i) 0 rfl ⟨Nat.zero_le _, rfl, S⟩ ?_
  clear S
  rintro k d w10 ⟨hk, hdk, S⟩ K7 hK7
  simp only [List.getD_cons_zero, List.getD_cons_succ]
  (first | refine s_p ?_ | refine s_c (by omega) ?_)
  refine c_if (fun hlt2 => ?_) (fun hge => ?_)
  · have hlt2 : k < g.pts.length := by omega
    obtain ⟨bp, op, cp, rfl, hcp, hpc, hcell⟩ := h4.sl.get (by decide) hlt2
    rw [badPt_at hlt2] at hdk
    (first | refine s_p ?_ | refine s_c (by omega) ?_)
    refine s_ldN (n := 21) hcp (fun j v hj => by rw [Int.toNat_natCast]; exact S.at (hcell j v hj)) ?_
    obtain ⟨vto, va, vb, vl, vfr, rfl, k1, k2, k3, k4, k5⟩ := id hpc
    obtain ⟨_, _, rfl, _⟩ := k1.sl.shape
    obtain ⟨_, _, rfl, _⟩ := k2.sl.shape
    obtain ⟨_, _, rfl, _⟩ := k3.sl.shape
    obtain ⟨_, _, rfl, _⟩ := k4.sl.shape
    obtain ⟨_, _, rfl, _⟩ := k5.sl.shape
    refine S.al fun b12 w11 S => ?_
    refine S.stB (b := b12) fun w12 S => ?_
    refine S.ldB (b := b10) ?_ rfl
    refine S.ldB (b := b12) ?_ rfl
    refine c_graph_asker_point S.holds hask hfin hpn hpc fun w13 e13 => ?_
    have S := S.go e13
    (first | refine s_p ?_ | refine s_c (by omega) ?_)
    refine c_b (fun hx => ?_) (fun hx => ?_)
    · rw [if_neg (by simpa using hx)] at hdk
      rw [← hdk] at hd
      exact hK3 _ _ ⟨S.ext, .inl ⟨j, k, rfl, hd.symm⟩⟩
    · rw [if_pos (by simpa using hx)] at hdk
      (first | refine s_p ?_ | refine s_c (by omega) ?_)
      rw [show ((k : Int) + 1) = ((k + 1 : Nat) : Int) by omega]
      exact hK7 (k + 1) _ ⟨hlt2, hdk, S.drop b12⟩ (by omega)
  have hke : k = g.pts.length := by omega
  rw [hke, List.drop_length] at hdk
  rw [← hdk] at hd
  (first | refine s_p ?_ | refine s_c (by omega) ?_)
  rw [show ((j : Int) + 1) = ((j + 1 : Nat) : Int) by omega]
  exact hK6 (j + 1, x1, x2) _ ⟨hlt, hd, (S.drop b10).drop b9⟩ (by show u.fs.length - (j + 1) < u.fs.length - j; omega)
theorem c_graph_May {u : UnD} {v : Value} {w : World} {r : Gh} {K : Value → World → Prop} (hr : Holds r w) (hu : UnG r v u)
    (h : ∀ w', Ext w w' → K (.bool (mayU u)) w') : oCall Try.prog Try.n_graph_May #[v] w K := by
  refine Try.ok_graph_May ?_
  unfold Try.F_graph_May
  have hu0 := hu
  obtain ⟨p0, cap0, vf, rfl, _, _, hst, hsl, hfn⟩ := hu
  obtain ⟨qf, capf, rfl, _, _⟩ := hfn.sl.shape
  have S := St.start hr
  refine S.box fun b1 w1 S => ?_
  refine S.ldB (b := b1) ?_ rfl
  refine c_graph_Check S.holds hu0 fun w2 e2 => ?_
  have S := S.go e2
  (repeat (first | refine s_p ?_ | refine s_c (by omega) ?_))
  exact h _ S.ext
end Go.Proofs
end

section
namespace Go.Proofs

open Go.Sh

set_option maxRecDepth 100000

set_option linter.unusedSimpArgs false

set_option linter.unusedVariables false

theorem anew_ok {t : TyD} {m : List Int} (hB : isB t = true) (hm : m.length = t.regs.length) (hlow : ∀ x ∈ m, -1 ≤ x) : anewT t m = (t.lay m, 0) := by
  have : anewB t m = true := by
    rw [anewB, hB, decide_eq_true hm.symm, Bool.true_and, Bool.true_and, Bool.not_eq_true', List.any_eq_false]
    intro x hx
    have := hlow x hx
    simp only [decide_eq_true_eq]; omega
  rw [anewT, if_pos this]
theorem sl_ints {s : Gh} {p : Option Addr} {n cap : Nat} {l : List Int} (h : SlG 1 s IntC (.slice p n cap) l) : Ob s fun w => Sl w p (ints l) := fun w hw i v hi => by
  have hlt : i < l.length := by
    have := (List.getElem?_eq_some_iff.1 hi).1
    rwa [ints_len] at this
  have hv : v = .int .i64 l[i] := by
    rw [ints, List.getElem?_map, List.getElem?_eq_getElem hlt] at hi
    exact (Option.some.inj hi).symm
  subst hv
  obtain ⟨b, off, c, rfl, hc, hcc, hcell⟩ := h.get (by decide) hlt
  obtain rfl : c = _ := hcc
  have := hcell 0 _ rfl w hw
  exact ⟨b, off, rfl, by simpa using this⟩
theorem c_region_turned {X : Nat → Prop} {w0 : World} {r : Gh} {t : TyD} {m : List Int} {Lc : Nat → List Asr} {fv : Value} (hB : isB t = true) (hm : m.length = t.regs.length) (hlow : ∀ x ∈ m, -1 ≤ x)
    (hf : ∀ (i : Nat) (hi : i < t.regs.length) {M : List Asr} {w : World} {K : Value → World → Prop}, StX X w0 r w (Lc i ++ M) → (∀ w', StX X w0 r w' (Lc (i + 1) ++ M) → K (.int .i64 (m[i]'(by omega))) w') → oCallV Try.prog fv #[.int .i64 t.regs[i]] w K)
    {M : List Asr} {w : World} {v : Value} {K : Value → World → Prop} (S : StX X w0 r w (Lc 0 ++ M)) (hv : TyG r v t)
    (h : ∀ v' sn w', StX X w0 (r.or sn) w' (Lc t.regs.length ++ M) → Above w0 sn → TyG sn v' (t.lay m) → ChnG sn v' (t.lay m) → K v' w') : oCall Try.prog Try.n_region_turned #[v, fv] w K := by
  refine Try.ok_region_turned ?_
  unfold Try.F_region_turned
  have h48 := regs_le48 hB
  have hrT : regsT t = t.regs := by rw [regsT, hB]; rfl
  have hv0 := hv
  obtain ⟨p1, cap1, rfl, _⟩ := hv
  refine S.box fun b2 w1 S => ?_
  have S : StX X w0 r w1 (.cell b2 (tyL t p1 cap1) 25 :: (Lc 0 ++ M)) := S
  refine S.al fun b4 w2 S => ?_
  refine S.ldB (b := b2) ?_ rfl
  refine c_types_Regions S.holds hv0 fun v9 w3 e3 o3 => ?_
  rw [hrT] at o3
  have S := S.take e3 o3
  obtain ⟨p9, cap9, rfl, _⟩ := S.rowS v9
  (first | refine s_p ?_ | refine s_c (by omega) ?_)
  refine l_intro (ι := Nat) (fun i => [.int .i64 (i : Nat)]) (fun i w' => i ≤ t.regs.length ∧ StX X w0 r w' (Lc i ++ (.row (.slice p9 t.regs.length cap9) 3 1 t.regs.length (ints (m.take i ++ t.regs.drop i)) :: .cell b4 zeroL 25 :: .cell b2 (tyL t p1 cap1) 25 :: M))) (fun i => t.regs.length - i) 0 rfl
    ⟨Nat.zero_le _, by
      rw [List.take_zero, List.drop_zero, List.nil_append]
      exact S.perm (by
        refine ((List.Perm.cons _ ((List.Perm.cons _ List.perm_middle.symm).trans List.perm_middle.symm))).trans List.perm_middle.symm)⟩ ?_
  clear S
  rintro i d w4 ⟨hi, S⟩ K6 hK6
  rw [List.getD_cons_zero]
  (first | refine s_p ?_ | refine s_c (by omega) ?_)
  refine c_if (fun hlt => ?_) (fun hge => ?_)
  · have hlt : i < t.regs.length := by omega
    have S1 := S.perm (M := .row (.slice p9 t.regs.length cap9) 3 1 t.regs.length (ints (m.take i ++ t.regs.drop i)) :: (Lc i ++ (.cell b4 zeroL 25 :: .cell b2 (tyL t p1 cap1) 25 :: M))) List.perm_middle
    obtain ⟨b9, rfl⟩ := S1.row0N (p := p9) (n := t.regs.length) (cap := cap9) trivial (by omega)
    obtain ⟨_, _, hv9, _, _, _, hs9⟩ := S1.rowS (.slice (some ⟨b9, 0, none⟩) t.regs.length cap9)
    cases hv9
    have hlen : (m.take i ++ t.regs.drop i).length = t.regs.length := by rw [List.length_append, List.length_take, List.length_drop]; omega
    obtain ⟨bx, ox, hbx, hcell⟩ := ints_at hs9 (i := i) (by omega)
    cases hbx
    have hel : (m.take i ++ t.regs.drop i)[i] = t.regs[i] := by
      rw [List.getElem_append_right (by rw [List.length_take]; omega)]
      simp only [List.length_take, List.getElem_drop]
      congr 1; omega
    (first | refine s_p ?_ | refine s_c (by omega) ?_)
    refine s_ld1 (v := .int .i64 t.regs[i]) (by rw [← hel]; simpa using hcell) ?_
    refine hf i hlt S fun w5 S => ?_
    have S := S.perm (M := .row (.slice (some ⟨b9, 0, none⟩) t.regs.length cap9) 3 1 t.regs.length (ints (m.take i ++ t.regs.drop i)) :: (Lc (i + 1) ++ (.cell b4 zeroL 25 :: .cell b2 (tyL t p1 cap1) 25 :: M))) List.perm_middle
    (first | refine s_p ?_ | refine s_c (by omega) ?_)
    rw [show 0 + ((i : Nat) : Int).toNat = i by omega]
    refine S.stRow1 (cap := cap9) hlt fun w6 S => ?_
    (first | refine s_p ?_ | refine s_c (by omega) ?_)
    rw [show ((i : Int) + 1) = ((i + 1 : Nat) : Int) by omega]
    refine hK6 (i + 1) _ ⟨hlt, ?_⟩ (by omega)
    have hset : (ints (m.take i ++ t.regs.drop i)).set i (.int .i64 (m[i]'(by omega))) = ints (m.take (i + 1) ++ t.regs.drop (i + 1)) := by
      rw [ints, ints, ← List.map_set]
      congr 1
      rw [List.set_append_right _ _ (by rw [List.length_take]; omega), List.length_take, Nat.min_eq_left (by omega), Nat.sub_self, List.drop_eq_getElem_cons hlt, List.set_cons_zero, show m.take (i + 1) = m.take i ++ [m[i]'(by omega)] from List.take_succ_eq_append_getElem (by omega), List.append_assoc]
      rfl
    rw [hset] at S
    exact S.perm List.perm_middle.symm
  · have hie : i = t.regs.length := by omega
    rw [hie, List.drop_of_length_le (Nat.le_refl _), List.append_nil, List.take_of_length_le (by omega)] at S
    have S := S.perm (M := .row (.slice p9 t.regs.length cap9) 3 1 t.regs.length (ints m) :: (Lc t.regs.length ++ (.cell b4 zeroL 25 :: .cell b2 (tyL t p1 cap1) 25 :: M))) List.perm_middle
    have S := S.perm (M := .row (.slice p9 t.regs.length cap9) 3 1 t.regs.length (ints m) :: .cell b4 zeroL 25 :: .cell b2 (tyL t p1 cap1) 25 :: (Lc t.regs.length ++ M)) (List.Perm.cons _ (List.perm_middle.trans (List.Perm.cons _ List.perm_middle)))
    obtain ⟨s9, S, hsl, _, hab9⟩ := S.doneRow (l := m) (R := IntC) (sz := 1) ⟨by rw [ints_len, Nat.mul_one], fun j hj => by
      show _ = _
      rw [Nat.mul_one, ints, ← List.map_drop, ← List.map_take, List.drop_eq_getElem_cons hj]; rfl⟩ (by decide) (by omega)
    refine S.ldB (b := b2) ?_ rfl
    rw [show t.regs.length = m.length from hm.symm] at hsl ⊢
    refine c_types_Anew S.holds hv0.up (sl_ints hsl).up (by omega) fun v' sn w7 e7 n7 ht7 hc7 => ?_
    rw [anew_ok hB hm hlow] at ht7 hc7 ⊢
    obtain ⟨S, d7, a7⟩ := S.tell e7 n7
    have ht70 := ht7
    obtain ⟨p7, cap7, rfl, _⟩ := ht7
    (first | refine s_p ?_ | refine s_c (by omega) ?_)
    (first | refine s_p ?_ | refine s_c (by omega) ?_)
    refine S.stB (b := b2) fun w8 S => ?_
    refine S.ldB (b := b2) ?_ rfl
    refine S.stB (b := b4) fun w9 S => ?_
    refine S.ceB (b := b4) ?_ rfl
    have S := (S.tl.tl).to (r.or sn)
    exact h _ sn _ S a7 ht70 hc7
end Go.Proofs
end

section
namespace Go.Sh

/-- a cell of one's own, at the head -/
theorem StX.front {X : Nat → Prop} {w0 w : World} {r : Gh} {L M : List Asr} (S : StX X w0 r w L) (b : Nat) {c : List Value} {T : TypeId} [h : Pull b L c T M] : StX X w0 r w (.cell b c T :: M) := S.permO h.h.symm
end Go.Sh

namespace Go.Proofs

open Go.Sh

set_option maxRecDepth 100000

set_option linter.unusedSimpArgs false

set_option linter.unusedVariables false

theorem point_call {u : UnD} {g : GrD} {p : PtD} (h : pointG u g p = true) (ho : p.op = 7) : 0 ≤ p.fn ∧ p.fn < u.fs.length := by
  rw [pointG, Bool.and_eq_true] at h
  have h2 := h.2
  rw [ptG] at h2
  simp only [ho, Int.reduceEq, if_false, if_true, Bool.and_eq_true, decide_eq_true_eq] at h2
  exact ⟨h2.1.2.1, h2.1.2.2⟩
theorem numC_48 (t : TyD) : numC (regsT t) ≤ 48 := by
  have := (numC_le (regsT t)).2
  have : (regsT t).length ≤ 48 := by
    rw [regsT]; split
    · exact regs_le48 (by assumption)
    · simp
  omega
theorem locC_le (l : List TyD) : locC l ≤ 48 * l.length := by
  induction l with
  | nil => simp [locC]
  | cons t l ih => rw [locC, List.length_cons]; have := numC_48 t; omega
theorem MayU.ptN {u : UnD} (h : MayU u) {g : GrD} (hg : g ∈ u.fs) {p : PtD} (hp : p ∈ g.pts) : 0 ≤ Go.Proofs.ptN u p ∧ Go.Proofs.ptN u p ≤ 8 := by
  unfold Go.Proofs.ptN
  split
  · omega
  split
  · rename_i h7
    have hc := point_call (h.pts g hg p hp) h7
    rw [lvOf, List.getElem?_eq_getElem (show p.fn.toNat < u.fs.length by omega)]
    have := h.hd (show p.fn.toNat < u.fs.length by omega)
    exact ⟨this.lv0, this.lv8⟩
  · omega
theorem atC_le {u : UnD} {l : List PtD} (h : ∀ p ∈ l, ptN u p ≤ 8) : atC u l ≤ 8 * l.length := by
  induction l with
  | nil => simp [atC]
  | cons t l ih =>
    rw [atC, List.length_cons]
    have := h t List.mem_cons_self
    have := ih fun p hp => h p (List.mem_cons_of_mem _ hp)
    omega
abbrev rgL (lv pt ct : Int) (vl va : Value) : List Value := [.int .i64 lv, .int .i64 pt, .int .i64 ct, vl, va]
theorem c_region_all_1 {X : Nat → Prop} {w0 : World} {r : Gh} {b6 : Nat} {lv pt c : Int} {vl va : Value} {regs : List Int} (hc0 : 0 ≤ c) (hc1 : c ≤ 1000000) (hn : regs.length ≤ 1000000) :
    ∀ (i : Nat) (hi : i < regs.length) {M : List Asr} {w : World} {K : Value → World → Prop}, StX X w0 r w ([.cell b6 (rgL lv pt (c + numC (regs.take i)) vl va) 46] ++ M) →
      (∀ w', StX X w0 r w' ([.cell b6 (rgL lv pt (c + numC (regs.take (i + 1))) vl va) 46] ++ M) → K (.int .i64 ((numK regs c)[i]'(by rw [numK_len]; exact hi))) w') → oCallV Try.prog (.func (.func Try.n_region_all_1) #[] #[.pointer (some ⟨b6, 0, none⟩)]) #[.int .i64 regs[i]] w K := by
  intro i hi M w K S h
  refine v_f11 (by kernel_rfl) ?_
  refine Try.ok_region_all_1 ?_
  unfold Try.F_region_all_1
  have S : StX X w0 r w (.cell b6 (rgL lv pt (c + numC (regs.take i)) vl va) 46 :: M) := S
  have hk := numK_at (c := c) hi
  have ht := numC_take hi
  have hle := numC_le (regs.take i)
  rw [List.length_take] at hle
  rw [hk] at h
  refine j_intro (fun s w' => s = [.int .i64 (if regs[i] < 0 then c + numC (regs.take i) else regs[i])] ∧ StX X w0 r w' ([.cell b6 (rgL lv pt (c + numC (regs.take (i + 1))) vl va) 46] ++ M)) (fun K3 hK3 => ?_) ?_
  · (first | refine s_p ?_ | refine s_c (by omega) ?_)
    refine c_if (fun hlt => ?_) (fun hge => ?_)
    · (repeat (first | refine s_p ?_ | refine s_c (by omega) ?_ | refine S.ld ?_ | refine S.ldB ?_ | refine S.ce ?_ | refine S.ceB ?_ | refine s_q ?_ | refine s_qc (by omega) ?_ | refine n_some ?_ | rw [List.getD_cons_zero] | rw [List.getD_cons_succ]))
      refine S.st (b := b6) fun w2 S => ?_
      refine hK3 _ _ ⟨by rw [if_pos hlt], ?_⟩
      rw [ht, if_pos hlt, show c + (numC (regs.take i) + 1) = c + numC (regs.take i) + 1 by omega]
      exact S
    · refine hK3 _ _ ⟨by rw [if_neg hge], ?_⟩
      rw [ht, if_neg hge, Int.add_zero]
      exact S
  rintro _ w3 ⟨rfl, S⟩ d3
  rw [List.getD_cons_zero]
  exact h _ S
theorem rowOf_ints (l : List Int) : RowOf 1 IntC (ints l) l := ⟨by rw [ints_len, Nat.mul_one], fun j hj => by
  show _ = _
  rw [Nat.mul_one, ints, ← List.map_drop, ← List.map_take, List.drop_eq_getElem_cons hj]; rfl⟩
set_option maxHeartbeats 8000000 in
theorem c_region_all {u : UnD} {fn q : Int} {v : Value} {w : World} {r : Gh} {K : Value → World → Prop} (hr : Holds r w) (hu : UnG r v u)
    (h : ∀ v' s w', Ext w w' → New w s w' → RgG s v' (allT u fn q).1 → K (.tuple #[v', .int .i64 (allT u fn q).2]) w') : oCall Try.prog Try.n_region_all #[v, .int .i64 fn, .int .i64 q] w K := by
  have hu0 := hu
  obtain ⟨p0, cap0, vf, rfl, _, _, hst, hsl, hfn⟩ := hu
  obtain ⟨qf, capf, rfl, _, _⟩ := hfn.sl.shape
  have hfl : u.fs.length ≤ 9223372036854775807 := hfn.few
  refine Try.ok_region_all ?_
  unfold Try.F_region_all
  have S := St.start hr
  refine S.box fun b3 w1 S => ?_
  have S : StX noX w r w1 [.cell b3 [.slice p0 u.ss.length cap0, .slice qf u.fs.length capf, .int .i64 u.mn] 43] := S
  refine S.al fun b6 w2 S => ?_
  (first | refine s_p ?_ | refine s_c (by omega) ?_)
  refine j_borH (c := decide ((u.fs.length : Int) ≤ fn)) (fun _ K2 hK2 => ?_) ?_
  · (repeat (first | refine s_p ?_ | refine s_c (by omega) ?_ | refine S.ld ?_ | refine S.ldB ?_ | refine S.ce ?_ | refine S.ceB ?_ | refine s_q ?_ | refine s_qc (by omega) ?_ | refine n_some ?_ | rw [List.getD_cons_zero] | rw [List.getD_cons_succ]))
    exact hK2
  refine j_borE (c := !mayU u) (fun _ K2 hK2 => ?_) fun w3 e3 => ?_
  · refine S.ldB (b := b3) ?_ rfl
    refine c_graph_May S.holds hu0 fun w3 e3 => ?_
    (first | refine s_p ?_ | refine s_c (by omega) ?_)
    exact hK2 _ e3
  have S := S.go e3
  have hlen : ∀ {K9 : Value → World → Prop}, True := fun {_} => trivial
  refine j_borH (c := decide (((u.fs[fn.toNat]?.map fun g => (g.pts.length : Int)).getD 0) ≤ q)) (fun hb K2 hK2 => ?_) ?_
  · simp only [Bool.or_eq_false_iff, decide_eq_false_iff_not, Bool.not_eq_false'] at hb
    have hlt : fn.toNat < u.fs.length := by omega
    obtain ⟨bf, of, cf, rfl, hcf, hgc, hfo⟩ := hfn.sl.get (by decide) hlt
    rw [List.getElem?_eq_getElem hlt] at hK2
    obtain ⟨vo, vt, vn, vp, rfl, h1, h2, h3, h4⟩ := hgc
    obtain ⟨qp, capp, rfl, _, _⟩ := h4.sl.shape
    (repeat (first | refine s_p ?_ | refine s_c (by omega) ?_ | refine S.ld ?_ | refine S.ldB ?_ | refine S.ce ?_ | refine S.ceB ?_ | refine s_q ?_ | refine s_qc (by omega) ?_ | refine n_some ?_ | rw [List.getD_cons_zero] | rw [List.getD_cons_succ]))
    refine s_ld1 (v := .slice qp u.fs[fn.toNat].pts.length capp) (by simpa using S.at (hfo 6 _ rfl)) ?_
    (repeat (first | refine s_p ?_ | refine s_c (by omega) ?_ | refine S.ld ?_ | refine S.ldB ?_ | refine S.ce ?_ | refine S.ceB ?_ | refine s_q ?_ | refine s_qc (by omega) ?_ | refine n_some ?_ | rw [List.getD_cons_zero] | rw [List.getD_cons_succ]))
    exact hK2
  have hU : isU u fn q = !(((decide (fn < 0) || decide ((u.fs.length : Int) ≤ fn)) || !mayU u) || decide (((u.fs[fn.toNat]?.map fun g => (g.pts.length : Int)).getD 0) ≤ q)) := by
    rw [isU]
    generalize ((u.fs[fn.toNat]?.map fun g => (g.pts.length : Int)).getD 0) = n
    cases mayU u <;> by_cases h1 : fn < 0 <;> by_cases h2 : (u.fs.length : Int) ≤ fn <;> by_cases h3 : n ≤ q <;>
      simp [h1, h2, h3, Int.not_lt.2, Int.not_le.1, show (0 ≤ fn) = ¬ fn < 0 from propext (by omega), show (fn < (u.fs.length : Int)) = ¬ (u.fs.length : Int) ≤ fn from propext (by omega), show (q < n) = ¬ n ≤ q from propext (by omega)]
  cases hc : isU u fn q with
  | false =>
    have hT : allT u fn q = (zeroRg, 2) := by rw [allT, hc]; rfl
    rw [hc] at hU
    rw [hT] at h
    refine c_t (bn_f hU) ?_
    refine S.ldB (b := b6) ?_ rfl
    refine S.stB (b := b6) fun w4 S => ?_
    (repeat (first | refine s_p ?_ | refine s_c (by omega) ?_ | refine S.ld ?_ | refine S.ldB ?_ | refine S.ce ?_ | refine S.ceB ?_ | refine s_q ?_ | refine s_qc (by omega) ?_ | refine n_some ?_ | rw [List.getD_cons_zero] | rw [List.getD_cons_succ]))
    exact h _ nothing _ S.ext New.nothing RgG.zero
  | true =>
  rw [hc] at hU
  refine c_f (bn_t hU) ?_
  have hU := bn_t hU
  simp only [Bool.or_eq_false_iff, decide_eq_false_iff_not, Bool.not_eq_false'] at hU
  obtain ⟨⟨⟨hf0, hf1⟩, hmay⟩, hq⟩ := hU
  have hM := mayU_iff.1 hmay
  have hlt : fn.toNat < u.fs.length := by omega
  have hT : allT u fn q = (allD u u.fs[fn.toNat], 0) := by rw [allT, hc, List.getElem?_eq_getElem hlt]; rfl
  rw [hT] at h
  have hH := hM.hd hlt
  have hfin := hH.fine hM.ok
  have hptN := fun p hp => hM.ptN (List.getElem_mem hlt) (p := p) hp
  have hpts := hM.pts _ (List.getElem_mem hlt)
  obtain ⟨bf, of, cf, rfl, hcf, hgc, hfo⟩ := hfn.sl.get (by decide) hlt
  clear hq hT
  generalize u.fs[fn.toNat] = g at h hH hfin hptN hpts hgc
  obtain ⟨vo, vt, vn, vp, rfl, h1, h2, h3, h4⟩ := id hgc
  obtain ⟨qo, capo, rfl, _, _⟩ := h1.sl.shape
  obtain ⟨qt, capt, rfl, _, hct⟩ := h2.sl.shape
  obtain ⟨qn, capn, rfl, _, _⟩ := h3.sl.shape
  obtain ⟨qp, capp, rfl, _, _⟩ := h4.sl.shape
  obtain ⟨hlv0, hlv8, _, _, _, hty, _, htys, hp1, hp1024, _, _, _⟩ := hH
  (repeat (first | refine s_p ?_ | refine s_c (by omega) ?_ | refine S.ld ?_ | refine S.ldB ?_ | refine S.ce ?_ | refine S.ceB ?_ | refine s_q ?_ | refine s_qc (by omega) ?_ | refine n_some ?_ | rw [List.getD_cons_zero] | rw [List.getD_cons_succ]))
  refine s_ldN (n := 7) hcf (fun j v hj => S.at (hfo j v hj)) ?_
  refine S.al fun b8 w4 S => ?_
  refine S.stB (b := b8) fun w5 S => ?_
  have S := S.go (Ext.drew _)
  have S : StX noX w r w5.drew [.cell b8 [.string g.name, .int .i64 g.lv, .slice qo g.outs.length capo, .int .i64 g.pn, .slice qt g.tys.length capt, .slice qn g.nms.length capn, .slice qp g.pts.length capp] 53,
    .cell b6 (rgL 0 0 0 (.slice none 0 0) (.slice none 0 0)) 46, .cell b3 [.slice p0 u.ss.length cap0, .slice (some ⟨bf, of, none⟩) u.fs.length capf, .int .i64 u.mn] 43] := S
  refine j_intro (fun _ w' => StX noX w r w' [.cell b8 [.string g.name, .int .i64 g.lv, .slice qo g.outs.length capo, .int .i64 g.pn, .slice qt g.tys.length capt, .slice qn g.nms.length capn, .slice qp g.pts.length capp] 53,
    .cell b6 (rgL g.lv g.pts.length g.lv (.slice none 0 0) (.slice none 0 0)) 46, .cell b3 [.slice p0 u.ss.length cap0, .slice (some ⟨bf, of, none⟩) u.fs.length capf, .int .i64 u.mn] 43]) (fun K20 hK20 => ?_) ?_
  · repeat' (first
      | (first | refine s_p ?_ | refine s_c (by omega) ?_ | refine S.ld ?_ | refine S.ldB ?_ | refine S.ce ?_ | refine S.ceB ?_ | refine s_q ?_ | refine s_qc (by omega) ?_ | refine n_some ?_ | rw [List.getD_cons_zero] | rw [List.getD_cons_succ])
      | (refine S.st (b := b6) fun w6 S => ?_)
      | exact hK20 [] _ S
      | refine w_qE ?_
      | refine And.intro ?_ ?_)
  clear S
  rintro _ w6 S d6
  have S := S.swap
  have S := S.ownNil 25 5
  have S := S.swap
  (repeat (first | refine s_p ?_ | refine s_c (by omega) ?_ | refine S.ld ?_ | refine S.ldB ?_ | refine S.ce ?_ | refine S.ceB ?_ | refine s_q ?_ | refine s_qc (by omega) ?_ | refine n_some ?_ | rw [List.getD_cons_zero] | rw [List.getD_cons_succ]))
  refine l_intro (ι := Nat × Value × Gh × List Value) (fun i => [.int .i64 (i.1 : Nat)]) (fun i w' => i.1 ≤ g.tys.length ∧ RowOf 5 (TyC i.2.2.1) i.2.2.2 (locK (g.tys.take i.1) g.lv) ∧ Above w i.2.2.1 ∧
    StX noX w (r.or i.2.2.1) w' [.cell b6 (rgL g.lv g.pts.length (g.lv + locC (g.tys.take i.1)) i.2.1 (.slice none 0 0)) 46, .row i.2.1 25 5 i.1 i.2.2.2,
      .cell b8 [.string g.name, .int .i64 g.lv, .slice qo g.outs.length capo, .int .i64 g.pn, .slice qt g.tys.length capt, .slice qn g.nms.length capn, .slice qp g.pts.length capp] 53, .cell b3 [.slice p0 u.ss.length cap0, .slice (some ⟨bf, of, none⟩) u.fs.length capf, .int .i64 u.mn] 43]) (fun i => g.tys.length - i.1) (0, .slice none 0 0, nothing, []) rfl
    ⟨Nat.zero_le _, RowOf.nil, Above.no, by
      rw [List.take_zero, show g.lv + locC [] = g.lv by simp [locC]]; exact S.to (r.or nothing)⟩ ?_
  clear S
  rintro ⟨i, v, s, xs⟩ d w7 ⟨hi, hrow, hab, S⟩ K6 hK6
  simp only at hi hrow hab S ⊢
  rw [List.getD_cons_zero]
  (first | refine s_p ?_ | refine s_c (by omega) ?_)
  refine c_if (fun hlt2 => ?_) (fun hge => ?_)
  · have hlt2 : i < g.tys.length := by omega
    obtain ⟨bt, ot, ct, rfl, hct2, htc, hcell⟩ := h2.sl.get (by decide) hlt2
    obtain ⟨q2, cap2, rfl, ht2⟩ := ty_form htc
    have hfi : Fine u.ss g.tys[i] := hfin.all _ (List.getElem_mem hlt2)
    have hB := hfi.is hfin.few
    have hrT : regsT g.tys[i] = g.tys[i].regs := by rw [regsT, hB]; rfl
    have h48 := regs_le48 hB
    have hl0 := locC_pos (g.tys.take i)
    have hl1 := locC_le (g.tys.take i)
    rw [List.length_take] at hl1
    have hlow : ∀ x ∈ numK g.tys[i].regs (g.lv + locC (g.tys.take i)), -1 ≤ x := fun x hx => by
      obtain ⟨j, hj, rfl⟩ := List.getElem_of_mem hx
      rw [numK_len] at hj
      rw [numK_at hj]
      have := (numC_le (g.tys[i].regs.take j)).1
      split <;> omega
    obtain ⟨pv, capv, rfl, _, _, hxl, _⟩ := S.rowS v
    refine j_intro (fun _ w' => ∃ v' s' xs', RowOf 5 (TyC s') xs' (locK (g.tys.take (i + 1)) g.lv) ∧ Above w s' ∧ StX noX w (r.or s') w' [.cell b6 (rgL g.lv g.pts.length (g.lv + locC (g.tys.take (i + 1))) v' (.slice none 0 0)) 46, .row v' 25 5 (i + 1) xs',
      .cell b8 [.string g.name, .int .i64 g.lv, .slice qo g.outs.length capo, .int .i64 g.pn, .slice (some ⟨bt, ot, none⟩) g.tys.length capt, .slice qn g.nms.length capn, .slice qp g.pts.length capp] 53, .cell b3 [.slice p0 u.ss.length cap0, .slice (some ⟨bf, of, none⟩) u.fs.length capf, .int .i64 u.mn] 43]) (fun K87 hK87 => ?_) ?_
    rotate_left
    · clear S
      rintro _ w8 ⟨v', s', xs', hr', ha', S⟩ d8
      (first | refine s_p ?_ | refine s_c (by omega) ?_)
      rw [show ((i : Int) + 1) = ((i + 1 : Nat) : Int) by omega]
      exact hK6 (i + 1, v', s', xs') _ ⟨hlt2, hr', ha', S⟩ (by show g.tys.length - (i + 1) < g.tys.length - i; omega)
    (first | refine s_p ?_ | refine s_c (by omega) ?_)
    refine s_ldN (n := 5) hct2 (fun j v hj => by rw [Int.toNat_natCast]; exact S.at (hcell j v hj)) ?_
    refine S.al fun b10 w8 S => ?_
    refine S.stB (b := b10) fun w9 S => ?_
    have S := S.go (Ext.drew _)
    (repeat (first | refine s_p ?_ | refine s_c (by omega) ?_ | refine S.ld ?_ | refine S.ldB ?_ | refine S.ce ?_ | refine S.ceB ?_ | refine s_q ?_ | refine s_qc (by omega) ?_ | refine n_some ?_ | rw [List.getD_cons_zero] | rw [List.getD_cons_succ]))
    have hsnoc := locK_snoc (c := g.lv) hlt2
    have htak := locC_take hlt2
    rw [hrT] at hsnoc htak
    have hcall : ∀ {M : List Asr} {w9 : World} {K9 : Value → World → Prop}, StX noX w (r.or s) w9 (.cell b6 (rgL g.lv g.pts.length (g.lv + locC (g.tys.take i)) (.slice pv i capv) (.slice none 0 0)) 46 :: M) →
        (∀ q' cap' sn w', StX noX w ((r.or s).or sn) w' (.cell b6 (rgL g.lv g.pts.length (g.lv + locC (g.tys.take (i + 1))) (.slice pv i capv) (.slice none 0 0)) 46 :: M) → Above w (s.or sn) →
          RowOf 5 (TyC (s.or sn)) (xs ++ tyL (g.tys[i].lay (numK g.tys[i].regs (g.lv + locC (g.tys.take i)))) q' cap') (locK (g.tys.take (i + 1)) g.lv) → K9 (tyV (g.tys[i].lay (numK g.tys[i].regs (g.lv + locC (g.tys.take i)))) q' cap') w') →
        oCall Try.prog Try.n_region_turned #[tyV g.tys[i] q2 cap2, .func (.func Try.n_region_all_1) #[] #[.pointer (some ⟨b6, 0, none⟩)]] w9 K9 := by
      intro M w9 K9 S hk
      refine c_region_turned (Lc := fun j => [.cell b6 (rgL g.lv g.pts.length (g.lv + locC (g.tys.take i) + numC (g.tys[i].regs.take j)) (.slice pv i capv) (.slice none 0 0)) 46]) (M := M) (m := numK g.tys[i].regs (g.lv + locC (g.tys.take i))) hB (numK_len _ _) hlow
        (c_region_all_1 (by omega) (by omega) (by omega)) (by
          show StX _ _ _ _ (.cell b6 (rgL _ _ (_ + numC (List.take 0 _)) _ _) _ :: M)
          rw [List.take_zero, show numC [] = 0 from rfl, Int.add_zero]; exact S) ht2.up fun v' sn w' S ha ht hc => ?_
      obtain ⟨q', cap', rfl, _⟩ := id ht
      refine hk q' cap' sn w' ?_ (hab.or' ha) ?_
      · rw [htak, ← Int.add_assoc]
        have S : StX noX w ((r.or s).or sn) w' (.cell b6 (rgL g.lv g.pts.length (g.lv + locC (g.tys.take i) + numC (g.tys[i].regs.take g.tys[i].regs.length)) (.slice pv i capv) (.slice none 0 0)) 46 :: M) := S
        rw [List.take_length] at S
        exact S
      · rw [hsnoc]
        exact (hrow.mono fun c x hx => TyG.up hx).snoc rfl (TyG.up ht)
    have hS := S
    repeat' (first
      | (first | refine s_p ?_ | refine s_c (by omega) ?_ | refine S.ld ?_ | refine S.ldB ?_ | refine S.ce ?_ | refine S.ceB ?_ | refine s_q ?_ | refine s_qc (by omega) ?_ | refine n_some ?_ | rw [List.getD_cons_zero] | rw [List.getD_cons_succ])
      | (rw [show 0 + ((i : Nat) : Int).toNat * 5 = i * 5 by omega])
      | (refine S.litU (e := 25) (cs := zeroL) (by kernel_rfl) fun b33 w33 S => ?_)
      | (refine hcall (S.front b6) fun q' cap' sn w34 S ha9 hr9 => ?_)
      | (refine S.ap (m' := 1) (Sl.blk (S.blk b33)) (fun v9 w35 S => ?_) (by omega); obtain ⟨p9, cap9, rfl, _⟩ := S.rowS v9; obtain ⟨b9, rfl⟩ := S.row0N (p := p9) (n := i + 1) (cap := cap9) trivial (by omega))
      | (refine S.stRowN (i := i) (b := b9) (n := i + 1) (cap := cap9) (by omega) fun w36 S => ?_; rw [fill_last hxl rfl] at S)
      | (refine S.st (b := b6) fun w37 S => ?_)
      | exact hK87 [] _ ⟨_, _, _, hr9, ha9, ((S.drop b33).drop b10).reGh⟩
      | refine w_qE ?_
      | refine And.intro ?_ ?_)
  have hie : i = g.tys.length := by omega
  subst hie
  rw [List.take_length] at hrow S
  have S := S.swap
  obtain ⟨s2, S, hsl2, _, hab2⟩ := S.doneRow hrow (by decide) (by rw [locK_len])
  have hab2 : Above w s2 := fun b o ho => (hab2 b o ho).resolve_right id
  have hloc := locC_pos g.tys
  have hloc2 := locC_le g.tys
  clear hK6 K6 hge hi
  have S := S.ownNil 3 1
  have S := S.swap
  (repeat (first | refine s_p ?_ | refine s_c (by omega) ?_ | refine S.ld ?_ | refine S.ldB ?_ | refine S.ce ?_ | refine S.ceB ?_ | refine s_q ?_ | refine s_qc (by omega) ?_ | refine n_some ?_ | rw [List.getD_cons_zero] | rw [List.getD_cons_succ]))
  generalize hbase : g.lv + locC g.tys = base at S
  refine l_intro (ι := Nat × Value) (fun i => [.int .i64 (i.1 : Nat)]) (fun i w' => i.1 ≤ g.pts.length ∧
    StX noX w ((r.or s).or s2) w' [.cell b6 (rgL g.lv g.pts.length (base + atC u (g.pts.take i.1)) v i.2) 46, .row i.2 3 1 i.1 (ints (atK u (g.pts.take i.1) base)),
      .cell b8 [.string g.name, .int .i64 g.lv, .slice qo g.outs.length capo, .int .i64 g.pn, .slice qt g.tys.length capt, .slice qn g.nms.length capn, .slice qp g.pts.length capp] 53, .cell b3 [.slice p0 u.ss.length cap0, .slice (some ⟨bf, of, none⟩) u.fs.length capf, .int .i64 u.mn] 43]) (fun i => g.pts.length - i.1) (0, .slice none 0 0) rfl
    ⟨Nat.zero_le _, by
      rw [List.take_zero, show base + atC u [] = base by simp [atC]]; exact S⟩ ?_
  clear S
  rintro ⟨i, va⟩ d w8 ⟨hi, S⟩ K7 hK7
  simp only at hi S ⊢
  rw [List.getD_cons_zero]
  have ha0 := atC_part (u := u) (l := g.pts) (fun p hp => (hptN p hp).1) i
  have ha1 := atC_le (u := u) (l := g.pts) fun p hp => (hptN p hp).2
  (first | refine s_p ?_ | refine s_c (by omega) ?_)
  refine c_if (fun hlt2 => ?_) (fun hge => ?_)
  · have hlt2 : i < g.pts.length := by omega
    obtain ⟨bp, op, cp, rfl, hcp, hpc, hcell⟩ := h4.sl.get (by decide) hlt2
    have hN := hptN g.pts[i] (List.getElem_mem hlt2)
    have hpt := hpts g.pts[i] (List.getElem_mem hlt2)
    have hsn := atK_snoc (u := u) (c := base) hlt2
    have htk := atC_take (u := u) hlt2
    (first | refine s_p ?_ | refine s_c (by omega) ?_)
    refine s_ldN (n := 21) hcp (fun j v hj => by rw [Int.toNat_natCast]; exact S.at (hcell j v hj)) ?_
    generalize g.pts[i] = p at hpc hN hpt hsn htk
    obtain ⟨vto, vaa, vb, vl, vfr, rfl, k1, k2, k3, k4, k5⟩ := hpc
    obtain ⟨_, _, rfl, _⟩ := k1.sl.shape
    obtain ⟨_, _, rfl, _⟩ := k2.sl.shape
    obtain ⟨_, _, rfl, _⟩ := k3.sl.shape
    obtain ⟨_, _, rfl, _⟩ := k4.sl.shape
    obtain ⟨_, _, rfl, _⟩ := k5.sl.shape
    refine S.al fun b12 w9 S => ?_
    refine S.stB (b := b12) fun w10 S => ?_
    refine j_intro (fun s w' => s = [.int .i64 (ptN u p)] ∧ w' = w10) (fun K9 hK9 => ?_) ?_
    · (repeat (first | refine s_p ?_ | refine s_c (by omega) ?_ | refine S.ld ?_ | refine S.ldB ?_ | refine S.ce ?_ | refine S.ceB ?_ | refine s_q ?_ | refine s_qc (by omega) ?_ | refine n_some ?_ | rw [List.getD_cons_zero] | rw [List.getD_cons_succ]))
      refine c_if (fun ho => ?_) (fun ho => ?_)
      · refine hK9 _ _ ⟨by rw [ptN, if_pos ho], rfl⟩
      (repeat (first | refine s_p ?_ | refine s_c (by omega) ?_ | refine S.ld ?_ | refine S.ldB ?_ | refine S.ce ?_ | refine S.ceB ?_ | refine s_q ?_ | refine s_qc (by omega) ?_ | refine n_some ?_ | rw [List.getD_cons_zero] | rw [List.getD_cons_succ]))
      refine c_if (fun ho2 => ?_) (fun ho2 => ?_)
      · have hcc := point_call hpt ho2
        have hlt3 : p.fn.toNat < u.fs.length := by omega
        obtain ⟨bf2, of2, cf2, hbe, hcf2, hgc2, hfo2⟩ := hfn.sl.get (by decide) hlt3
        cases hbe
        obtain ⟨vo', vt', vn', vp', rfl, _⟩ := hgc2
        (repeat (first | refine s_p ?_ | refine s_c (by omega) ?_ | refine S.ld ?_ | refine S.ldB ?_ | refine S.ce ?_ | refine S.ceB ?_ | refine s_q ?_ | refine s_qc (by omega) ?_ | refine n_some ?_ | rw [List.getD_cons_zero] | rw [List.getD_cons_succ]))
        refine s_ld1 (v := .int .i64 u.fs[p.fn.toNat].lv) (by simpa using S.at (hfo2 1 _ rfl)) ?_
        refine hK9 _ _ ⟨by rw [ptN, if_neg ho, if_pos ho2, lvOf, List.getElem?_eq_getElem hlt3], rfl⟩
      · exact hK9 _ _ ⟨by rw [ptN, if_neg ho, if_neg ho2], rfl⟩
    rintro _ w10 ⟨rfl, rfl⟩ d10
    (repeat (first | refine s_p ?_ | refine s_c (by omega) ?_ | refine S.ld ?_ | refine S.ldB ?_ | refine S.ce ?_ | refine S.ceB ?_ | refine s_q ?_ | refine s_qc (by omega) ?_ | refine n_some ?_ | rw [List.getD_cons_zero] | rw [List.getD_cons_succ]))
    refine j_intro (fun s w' => s = [.int .i64 (if ptN u p = 0 then -1 else base + atC u (g.pts.take i))] ∧ w' = w10) (fun K9 hK9 => ?_) ?_
    · (repeat (first | refine s_p ?_ | refine s_c (by omega) ?_ | refine S.ld ?_ | refine S.ldB ?_ | refine S.ce ?_ | refine S.ceB ?_ | refine s_q ?_ | refine s_qc (by omega) ?_ | refine n_some ?_ | rw [List.getD_cons_zero] | rw [List.getD_cons_succ]))
      refine c_if (fun ho => ?_) (fun ho => ?_)
      · exact hK9 _ _ ⟨by rw [if_pos ho], rfl⟩
      · exact hK9 _ _ ⟨by rw [if_neg ho], rfl⟩
    rintro _ w10 ⟨rfl, rfl⟩ d11
    obtain ⟨pa, capa, rfl, _, _, hxl, _⟩ := S.rowS va
    (repeat (first | refine s_p ?_ | refine s_c (by omega) ?_ | refine S.ld ?_ | refine S.ldB ?_ | refine S.ce ?_ | refine S.ceB ?_ | refine s_q ?_ | refine s_qc (by omega) ?_ | refine n_some ?_ | rw [List.getD_cons_zero] | rw [List.getD_cons_succ]))
    refine S.lit (e := 3) (cs := [.int .i64 (if ptN u p = 0 then -1 else base + atC u (g.pts.take i))]) (by kernel_rfl) fun b13 w11 S => ?_
    refine S.ap (m' := 1) (Sl.blk (S.blk b13)) (fun v13 w12 S => ?_) (by omega)
    have hv1 := S.row1 v13
    (repeat (first | refine s_p ?_ | refine s_c (by omega) ?_ | refine S.ld ?_ | refine S.ldB ?_ | refine S.ce ?_ | refine S.ceB ?_ | refine s_q ?_ | refine s_qc (by omega) ?_ | refine n_some ?_ | rw [List.getD_cons_zero] | rw [List.getD_cons_succ]))
    refine S.st (b := b6) (h1 := hv1) fun w13 S => ?_
    (repeat (first | refine s_p ?_ | refine s_c (by omega) ?_ | refine S.ld ?_ | refine S.ldB ?_ | refine S.ce ?_ | refine S.ceB ?_ | refine s_q ?_ | refine s_qc (by omega) ?_ | refine n_some ?_ | rw [List.getD_cons_zero] | rw [List.getD_cons_succ]))
    refine S.st (b := b6) fun w14 S => ?_
    (repeat (first | refine s_p ?_ | refine s_c (by omega) ?_ | refine S.ld ?_ | refine S.ldB ?_ | refine S.ce ?_ | refine S.ceB ?_ | refine s_q ?_ | refine s_qc (by omega) ?_ | refine n_some ?_ | rw [List.getD_cons_zero] | rw [List.getD_cons_succ]))
    rw [show ((i : Int) + 1) = ((i + 1 : Nat) : Int) by omega]
    refine hK7 (i + 1, v13) _ ⟨hlt2, ?_⟩ (by show g.pts.length - (i + 1) < g.pts.length - i; omega)
    have hins : ints (atK u (g.pts.take i) base) ++ [.int .i64 (if ptN u p = 0 then -1 else base + atC u (g.pts.take i))] = ints (atK u (g.pts.take (i + 1)) base) := by rw [hsn, ints, ints, List.map_append]; rfl
    rw [hins] at S
    have S := (S.drop b13).drop b12
    rw [htk, ← Int.add_assoc]
    exact S
  have hie : i = g.pts.length := by omega
  subst hie
  rw [List.take_length] at S
  have S := S.swap
  obtain ⟨s3, S, hsl3, _, hab3⟩ := S.doneRow (l := atK u g.pts base) (R := IntC) (sz := 1) (rowOf_ints _) (by decide) (by rw [atK_len])
  have hab3 : Above w s3 := fun b o ho => (hab3 b o ho).resolve_right id
  obtain ⟨_, _, rfl, _⟩ := hsl2.shape
  obtain ⟨_, _, rfl, _⟩ := hsl3.shape
  (repeat (first | refine s_p ?_ | refine s_c (by omega) ?_ | refine S.ld ?_ | refine S.ldB ?_ | refine S.ce ?_ | refine S.ceB ?_ | refine s_q ?_ | refine s_qc (by omega) ?_ | refine n_some ?_ | rw [List.getD_cons_zero] | rw [List.getD_cons_succ]))
  refine S.stB (b := b6) fun w15 S => ?_
  (repeat (first | refine s_p ?_ | refine s_c (by omega) ?_ | refine S.ld ?_ | refine S.ldB ?_ | refine S.ce ?_ | refine S.ceB ?_ | refine s_q ?_ | refine s_qc (by omega) ?_ | refine n_some ?_ | rw [List.getD_cons_zero] | rw [List.getD_cons_succ]))
  have hle : Le ((s.or s2).or s3) (((r.or s).or s2).or s3) := ⟨fun b o ho => by
    rcases ho with (ho | ho) | ho
    · exact .inl (.inl (.inr ho))
    · exact .inl (.inr ho)
    · exact .inr ho⟩
  refine h _ ((s.or s2).or s3) _ S.ext (S.newOf ((hab.or' hab2).or' hab3)) ⟨_, _, ?_, hsl2.up' (s := (s.or s2).or s3) inferInstance fun c x hx => TyG.up hx, by rw [show (allD u g).at' = atK u g.pts base by rw [← hbase]; rfl]; exact hsl3.cells⟩
  rw [← hbase]; rfl
end Go.Proofs
end

section
namespace Go.Proofs

open Go.Sh

set_option maxRecDepth 100000

set_option linter.unusedSimpArgs false

set_option linter.unusedVariables false

theorem RgG.shape {r : Gh} {v : Value} {d : RgD} (h : RgG r v d) : ∃ q1 c1 q2 c2, v = .agg (rgL d.lv d.pt d.ct (.slice q1 d.tys.length c1) (.slice q2 d.at'.length c2)).toArray ∧ SlG 5 r (TyC r) (.slice q1 d.tys.length c1) d.tys ∧ SlG 1 r IntC (.slice q2 d.at'.length c2) d.at' := by
  obtain ⟨vl, va, rfl, h1, h2⟩ := h
  obtain ⟨q1, c1, rfl, _⟩ := h1.shape
  obtain ⟨q2, c2, rfl, _⟩ := h2.shape
  exact ⟨q1, c1, q2, c2, rfl, h1, h2⟩
abbrev rgZ : List Value := rgL 0 0 0 (.slice none 0 0) (.slice none 0 0)
theorem c_region_few {d : RgD} {e : Int} {v : Value} {w : World} {r : Gh} {K : Value → World → Prop} (hr : Holds r w) (hd : RgG r v d)
    (h : ∀ v' w', Ext w w' → RgG r v' (fewT (d, e)).1 → K (.tuple #[v', .int .i64 (fewT (d, e)).2]) w') : oCall Try.prog Try.n_region_few #[v, .int .i64 e] w K := by
  refine Try.ok_region_few ?_
  unfold Try.F_region_few
  have hd0 := hd
  obtain ⟨q1, c1, q2, c2, rfl, h1, h2⟩ := hd.shape
  have S := St.start hr
  refine S.box fun b2 w1 S => ?_
  have S : StX noX w r w1 [.cell b2 (rgL d.lv d.pt d.ct (.slice q1 d.tys.length c1) (.slice q2 d.at'.length c2)) 46] := S
  refine S.al fun b4 w2 S => ?_
  have S : StX noX w r w2 [.cell b4 rgZ 46, .cell b2 (rgL d.lv d.pt d.ct (.slice q1 d.tys.length c1) (.slice q2 d.at'.length c2)) 46] := S
  refine j_intro (fun s w' => s = [.int .i64 (fewT (d, e)).2] ∧ w' = w2) (fun K3 hK3 => ?_) ?_
  · (first | refine s_p ?_ | refine s_c (by omega) ?_)
    refine j_bandH (c := decide (512 < d.ct)) (fun _ K2 hK2 => ?_) ?_
    · (repeat (first | refine s_p ?_ | refine s_c (by omega) ?_ | refine S.ld ?_ | refine S.ldB ?_ | refine S.ce ?_ | refine S.ceB ?_ | refine s_q ?_ | refine s_qc (by omega) ?_ | refine n_some ?_ | rw [List.getD_cons_zero] | rw [List.getD_cons_succ]))
      exact hK2
    refine c_b (fun hb => ?_) (fun hb => ?_)
    · have hb : e = 0 ∧ 512 < d.ct := by simpa using hb
      refine hK3 _ _ ⟨?_, rfl⟩
      rw [fewT, if_pos hb.1, if_pos hb.2]
    · refine hK3 _ _ ⟨?_, rfl⟩
      rw [fewT]
      by_cases he : e = 0
      · rw [if_pos he, if_neg (by rw [decide_eq_true he, Bool.true_and, decide_eq_false_iff_not] at hb; exact hb)]
      · rw [if_neg he]
  rintro _ w2 ⟨rfl, rfl⟩ d3
  (repeat (first | refine s_p ?_ | refine s_c (by omega) ?_ | refine S.ld ?_ | refine S.ldB ?_ | refine S.ce ?_ | refine S.ceB ?_ | refine s_q ?_ | refine s_qc (by omega) ?_ | refine n_some ?_ | rw [List.getD_cons_zero] | rw [List.getD_cons_succ]))
  have hf : fewT (d, e) = if (fewT (d, e)).2 = 0 then (d, 0) else (zeroRg, (fewT (d, e)).2) := by
    unfold fewT
    by_cases he : e = 0
    · by_cases hc : 512 < d.ct
      · simp [he, hc]
      · simp [he, hc]
    · simp [he]
  generalize (fewT (d, e)).2 = x at hf
  refine c_if (fun hne => ?_) (fun heq => ?_)
  · rw [if_neg hne] at hf
    rw [hf] at h
    refine p_build (cs := rgZ.toArray) (by kernel_rfl) ?_
    refine S.stB (b := b4) fun w3 S => ?_
    refine S.ceB (b := b4) ?_ rfl
    exact h _ _ S.ext RgG.zero
  · have heq : x = 0 := by omega
    rw [if_pos heq] at hf
    rw [hf] at h
    refine S.ldB (b := b2) ?_ rfl
    refine S.stB (b := b4) fun w3 S => ?_
    refine S.ceB (b := b4) ?_ rfl
    rw [heq]
    exact h _ _ S.ext hd0
theorem c_region_Of {u : UnD} {fn : Int} {v : Value} {w : World} {r : Gh} {K : Value → World → Prop} (hr : Holds r w) (hu : UnG r v u)
    (h : ∀ v' s w', Ext w w' → New w s w' → RgG s v' (fewT (allT u fn (-1))).1 → K (.tuple #[v', .int .i64 (fewT (allT u fn (-1))).2]) w') : oCall Try.prog Try.n_region_Of #[v, .int .i64 fn] w K := by
  refine Try.ok_region_Of ?_
  unfold Try.F_region_Of
  have hu0 := hu
  obtain ⟨p0, cap0, vf, rfl, _, _, hst, hsl, hfn⟩ := hu
  obtain ⟨qf, capf, rfl, _, _⟩ := hfn.sl.shape
  have S := St.start hr
  refine S.box fun b2 w1 S => ?_
  refine S.al fun b4 w2 S => ?_
  refine S.ldB (b := b2) ?_ rfl
  refine c_region_all S.holds hu0 fun v3 s w3 e3 n3 h3 => ?_
  obtain ⟨S, d3, a3⟩ := S.tell e3 n3
  (repeat (first | refine s_p ?_ | refine s_c (by omega) ?_))
  refine c_region_few (r := s) (S.holds.le (h := inferInstance)) h3 fun v4 w4 e4 h4 => ?_
  have S := S.go e4
  obtain ⟨q1, c1, q2, c2, rfl, _, _⟩ := h4.shape
  (repeat (first | refine s_p ?_ | refine s_c (by omega) ?_))
  refine S.stB (b := b4) fun w5 S => ?_
  refine S.ceB (b := b4) ?_ rfl
  exact h _ s _ S.ext (S.newOf a3) h4
theorem c_region_Width {d : RgD} {v : Value} {w : World} {r : Gh} {K : Value → World → Prop} (hr : Holds r w) (hd : RgG r v d) (hb : 0 ≤ d.pt ∧ d.pt ≤ 1000000 ∧ 0 ≤ d.lv ∧ d.lv ≤ 1000000)
    (h : ∀ w', Ext w w' → K (.int .i64 (d.pt + d.lv)) w') : oCall Try.prog Try.n_region_Width #[v] w K := by
  refine Try.ok_region_Width ?_
  unfold Try.F_region_Width
  obtain ⟨q1, c1, q2, c2, rfl, h1, h2⟩ := hd.shape
  have S := St.start hr
  refine S.box fun b2 w1 S => ?_
  have S : StX noX w r w1 [.cell b2 (rgL d.lv d.pt d.ct (.slice q1 d.tys.length c1) (.slice q2 d.at'.length c2)) 46] := S
  (repeat (first | refine s_p ?_ | refine s_c (by omega) ?_ | refine S.ld ?_ | refine S.ldB ?_ | refine S.ce ?_ | refine S.ceB ?_ | refine s_q ?_ | refine s_qc (by omega) ?_ | refine n_some ?_ | rw [List.getD_cons_zero] | rw [List.getD_cons_succ]))
  exact h _ S.ext
/-! ### Facts of what is numbered -/

theorem isU_spec {u : UnD} {fn q : Int} (h : isU u fn q = true) : MayU u ∧ 0 ≤ fn ∧ ∃ hlt : fn.toNat < u.fs.length, q < u.fs[fn.toNat].pts.length ∧ allT u fn q = (allD u u.fs[fn.toNat], 0) := by
  have h0 := h
  rw [isU] at h
  simp only [Bool.and_eq_true, decide_eq_true_eq] at h
  obtain ⟨⟨h1, h2⟩, h3, h4⟩ := h
  have hlt : fn.toNat < u.fs.length := by omega
  rw [List.getElem?_eq_getElem hlt] at h4
  exact ⟨mayU_iff.1 h3, h1, hlt, h4, by rw [allT, if_pos h0, List.getElem?_eq_getElem hlt]⟩
theorem isU_no {u : UnD} {fn q : Int} (h : isU u fn q = false) : allT u fn q = (zeroRg, 2) := by rw [allT, h]; rfl
theorem allD_len {u : UnD} {g : GrD} : (allD u g).tys.length = g.tys.length ∧ (allD u g).at'.length = g.pts.length := ⟨locK_len _ _, atK_len _ _ _⟩
/-! ### Place -/

noncomputable def rgPlace (u : UnD) (fn : Int) (p : PlD) : TyD × Int :=
  if (allT u fn (-1)).2 ≠ 0 ∨ (placeW u.ss (allT u fn (-1)).1.tys p) = none then (zeroD, 2)
  else if (fewT (allT u fn (-1))).2 ≠ 0 then (zeroD, (fewT (allT u fn (-1))).2) else placeR u.ss (allT u fn (-1)).1.tys p
theorem allT_tys {u : UnD} {fn q : Int} : (allT u fn q).1.tys.length ≤ 512 := by
  cases hc : isU u fn q with
  | false => rw [isU_no hc]; exact Nat.zero_le _
  | true =>
    obtain ⟨hM, _, hlt, _, hT⟩ := isU_spec hc
    rw [hT, show (allD u u.fs[fn.toNat], (0 : Int)).1 = allD u u.fs[fn.toNat] from rfl, allD_len.1]
    exact (hM.hd hlt).ty512
theorem c_region_Place {u : UnD} {fn : Int} {p : PlD} {c : List Value} {v : Value} {w : World} {r : Gh} {K : Value → World → Prop} (hr : Holds r w) (hu : UnG r v u) (hp : PlG r c p)
    (h : ∀ v' sn w', Ext w w' → New w sn w' → TyG sn v' (rgPlace u fn p).1 → ChnG sn v' (rgPlace u fn p).1 → K (.tuple #[v', .int .i64 (rgPlace u fn p).2]) w') : oCall Try.prog Try.n_region_Place #[v, .int .i64 fn, .agg c.toArray] w K := by
  refine Try.ok_region_Place ?_
  unfold Try.F_region_Place
  have hu0 := hu
  obtain ⟨p0, cap0, vf, rfl, _, _, hst, hsl, hfn⟩ := hu
  obtain ⟨qf, capf, rfl, _, _⟩ := hfn.sl.shape
  obtain ⟨vq, rfl, hl⟩ := id hp
  obtain ⟨qs, caps, rfl, _, _⟩ := hl.sl.shape
  have S := St.start hr
  refine S.box fun b3 w1 S => ?_
  have S : StX noX w r w1 [.cell b3 [.slice p0 u.ss.length cap0, .slice qf u.fs.length capf, .int .i64 u.mn] 43] := S
  refine S.box fun b5 w2 S => ?_
  have S : StX noX w r w2 [.cell b5 [.int .i64 p.l, .slice qs p.ps.length caps] 58, .cell b3 [.slice p0 u.ss.length cap0, .slice qf u.fs.length capf, .int .i64 u.mn] 43] := S
  refine S.al fun b6 w3 S => ?_
  refine S.ldB (b := b3) ?_ rfl
  refine c_region_all S.holds hu0 fun v3 s w4 e4 n4 h4 => ?_
  obtain ⟨S, d4, a4⟩ := S.tell e4 n4
  have htl : (allT u fn (-1)).1.tys.length ≤ maxLen := by have := allT_tys (u := u) (fn := fn) (q := -1); simp only [maxLen]; omega
  generalize hA : allT u fn (-1) = A at h4 htl
  obtain ⟨rd, e⟩ := A
  simp only at h4 htl
  have h40 := h4
  obtain ⟨q1, c1, q2, c2, rfl, g1, g2⟩ := h4.shape
  have hz : rgPlace u fn p = if e ≠ 0 ∨ placeW u.ss rd.tys p = none then (zeroD, 2) else if (fewT (rd, e)).2 ≠ 0 then (zeroD, (fewT (rd, e)).2) else placeR u.ss rd.tys p := by rw [rgPlace, hA]
  rw [hz] at h
  (repeat (first | refine s_p ?_ | refine s_c (by omega) ?_))
  refine S.al fun b8 w5 S => ?_
  refine S.stB (b := b8) fun w6 S => ?_
  (first | refine s_p ?_ | refine s_c (by omega) ?_)
  refine j_borE (c := !(placeW u.ss rd.tys p).isSome) (fun _ K2 hK2 => ?_) fun w7 e7 => ?_
  · (first | refine s_p ?_ | refine s_c (by omega) ?_)
    refine S.ld (b := b3) ?_ rfl
    (first | refine s_p ?_ | refine s_c (by omega) ?_)
    refine S.ld (b := b8) ?_ rfl
    refine S.ldB (b := b5) ?_ rfl
    refine c_place_May S.holds hst.up (sl_tysG g1).up htl ⟨_, rfl, hl.cells⟩ fun w7 e7 => ?_
    (first | refine s_p ?_ | refine s_c (by omega) ?_)
    exact hK2 _ e7
  have S := S.go e7
  refine c_b (fun hb => ?_) (fun hb => ?_)
  · rw [if_pos (by
      simp only [Bool.or_eq_true, decide_eq_true_eq, Bool.not_eq_true', Option.isSome_eq_false_iff, Option.isNone_iff_eq_none] at hb
      exact hb)] at h
    refine p_build (cs := #[.int .u8 0, .bool false, .int .i64 0, .int .i64 0, .slice none 0 0]) (by kernel_rfl) ?_
    refine S.stB (b := b6) fun w8 S => ?_
    (repeat (first | refine s_p ?_ | refine s_c (by omega) ?_ | refine S.ld ?_ | refine S.ldB ?_ | refine S.ce ?_ | refine S.ceB ?_ | refine s_q ?_ | refine s_qc (by omega) ?_ | refine n_some ?_ | rw [List.getD_cons_zero] | rw [List.getD_cons_succ]))
    exact h _ nothing _ S.ext New.nothing ty_leaf .nil
  rw [if_neg (by
      simp only [Bool.or_eq_false_iff, decide_eq_false_iff_not, Bool.not_eq_false', Option.isSome_iff_ne_none] at hb
      rintro (h1 | h1)
      · exact hb.1 h1
      · exact hb.2 h1)] at h
  refine S.ldB (b := b8) ?_ rfl
  refine c_region_few (r := s) (S.holds.le (h := inferInstance)) h40 fun v8 w8 e8 h8 => ?_
  have S := S.go e8
  obtain ⟨q3, c3, q4, c4, rfl, _, _⟩ := h8.shape
  (repeat (first | refine s_p ?_ | refine s_c (by omega) ?_))
  refine c_if (fun hne => ?_) (fun heq => ?_)
  · rw [if_pos hne] at h
    refine p_build (cs := #[.int .u8 0, .bool false, .int .i64 0, .int .i64 0, .slice none 0 0]) (by kernel_rfl) ?_
    refine S.stB (b := b6) fun w8 S => ?_
    (repeat (first | refine s_p ?_ | refine s_c (by omega) ?_ | refine S.ld ?_ | refine S.ldB ?_ | refine S.ce ?_ | refine S.ceB ?_ | refine s_q ?_ | refine s_qc (by omega) ?_ | refine n_some ?_ | rw [List.getD_cons_zero] | rw [List.getD_cons_succ]))
    exact h _ nothing _ S.ext New.nothing ty_leaf .nil
  · rw [if_neg heq] at h
    (first | refine s_p ?_ | refine s_c (by omega) ?_)
    refine S.ld (b := b3) ?_ rfl
    (first | refine s_p ?_ | refine s_c (by omega) ?_)
    refine S.ld (b := b8) ?_ rfl
    refine S.ldB (b := b5) ?_ rfl
    refine c_place_Type S.holds hst.up (sl_tysG g1).up htl ⟨_, rfl, hl.cells⟩ fun v9 sn w9 e9 n9 t9 c9 => ?_
    obtain ⟨S, d9, a9⟩ := S.tell e9 n9
    have t90 := t9
    obtain ⟨p9, cap9, rfl, _⟩ := t9
    (repeat (first | refine s_p ?_ | refine s_c (by omega) ?_))
    refine S.stB (b := b6) fun w10 S => ?_
    (repeat (first | refine s_p ?_ | refine s_c (by omega) ?_ | refine S.ld ?_ | refine S.ldB ?_ | refine S.ce ?_ | refine S.ceB ?_ | refine s_q ?_ | refine s_qc (by omega) ?_ | refine n_some ?_ | rw [List.getD_cons_zero] | rw [List.getD_cons_succ]))
    exact h _ sn _ S.ext (S.newOf a9) t90 c9
/-! ### A point of a kind -/

def zeroPl : PlD := ⟨0, []⟩
def zeroO : OpD := ⟨0, 0, zeroPl⟩
def zeroPt : PtD := ⟨0, zeroPl, zeroO, zeroO, [], ByteArray.empty, zeroPl, false, 0, 0, 0, 0, 0⟩
abbrev zeroPtL : List Value := [.int .u8 0, .int .i64 0, .slice none 0 0, .int .u8 0, .int .i64 0, .int .i64 0, .slice none 0 0, .int .u8 0, .int .i64 0, .int .i64 0, .slice none 0 0, .slice none 0 0, .string ByteArray.empty, .int .i64 0, .slice none 0 0, .bool false, .int .i64 0, .int .i64 0, .int .i64 0, .int .i64 0, .int .i64 0]
theorem slB_nil {α : Type} {sz : Nat} {r : Gh} {R : List Value → α → Prop} : SlB sz r R (.slice none 0 0) ([] : List α) := ⟨SlG.nil, Nat.zero_le _⟩
theorem zeroPt_G {r : Gh} : PtG r zeroPtL zeroPt := ⟨_, _, _, _, _, rfl, slB_nil, slB_nil, slB_nil, slB_nil, slB_nil⟩
abbrev ptL (p : PtD) (q1 q2 q3 q4 q5 : Option Addr) (c1 c2 c3 c4 c5 : Nat) : List Value := [.int .u8 p.op, .int .i64 p.to.l, .slice q1 p.to.ps.length c1, .int .u8 p.a.k, .int .i64 p.a.n, .int .i64 p.a.pl.l, .slice q2 p.a.pl.ps.length c2, .int .u8 p.b.k, .int .i64 p.b.n, .int .i64 p.b.pl.l, .slice q3 p.b.pl.ps.length c3, .slice q4 p.args.length c4,
  .string p.sign, .int .i64 p.fr.l, .slice q5 p.fr.ps.length c5, .bool p.mu, .int .i64 p.fn, .int .i64 p.st, .int .i64 p.nx, .int .i64 p.el, .int .i64 p.tx]
theorem pt_form {r : Gh} {c : List Value} {p : PtD} (h : PtG r c p) : ∃ q1 q2 q3 q4 q5 c1 c2 c3 c4 c5, c = ptL p q1 q2 q3 q4 q5 c1 c2 c3 c4 c5 ∧ PtG r (ptL p q1 q2 q3 q4 q5 c1 c2 c3 c4 c5) p := by
  obtain ⟨vto, va, vb, vl, vfr, rfl, k1, k2, k3, k4, k5⟩ := id h
  obtain ⟨q1, c1, rfl, _⟩ := k1.sl.shape
  obtain ⟨q2, c2, rfl, _⟩ := k2.sl.shape
  obtain ⟨q3, c3, rfl, _⟩ := k3.sl.shape
  obtain ⟨q4, c4, rfl, _⟩ := k4.sl.shape
  obtain ⟨q5, c5, rfl, _⟩ := k5.sl.shape
  exact ⟨q1, q2, q3, q4, q5, c1, c2, c3, c4, c5, rfl, h⟩
/-- the error of an asked point -/
noncomputable def atE (u : UnD) (fn q op : Int) : Int :=
  if q < 0 then 2 else if (fewT (allT u fn q)).2 ≠ 0 then (fewT (allT u fn q)).2
  else match u.fs[fn.toNat]?.bind fun g => g.pts[q.toNat]? with | some p => if p.op ≠ op then 130 else 0 | none => 2
theorem few_ok {x : RgD × Int} (h : (fewT x).2 = 0) : x.2 = 0 ∧ (fewT x).1 = x.1 ∧ x.1.ct ≤ 512 := by
  unfold fewT at h ⊢
  split at h
  · rename_i h1
    split at h
    · cases h
    · rename_i h2; rw [if_pos h1, if_neg h2]; exact ⟨h1, rfl, by omega⟩
  · rename_i h1; exact absurd h h1
theorem few_no {x : RgD × Int} (h : (fewT x).2 ≠ 0) : (fewT x).1 = zeroRg := by
  unfold fewT at h ⊢
  split
  · rename_i h1
    rw [if_pos h1] at h
    split
    · rfl
    · rename_i h2; rw [if_neg h2] at h; exact absurd h1 h
  · rfl
set_option maxHeartbeats 1000000 in
theorem c_region_at {u : UnD} {fn q op : Int} {v : Value} {w : World} {r : Gh} {K : Value → World → Prop} (hr : Holds r w) (hu : UnG r v u)
    (h : ∀ v' d cp p s w', Ext w w' → New w s w' → RgG s v' d → PtG r cp p → (atE u fn q op = 0 → isU u fn q = true ∧ 0 ≤ q ∧ d = (allT u fn q).1 ∧ (u.fs[fn.toNat]?.bind fun g => g.pts[q.toNat]?) = some p ∧ p.op = op ∧ d.ct ≤ 512) → K (.tuple #[v', .agg cp.toArray, .int .i64 (atE u fn q op)]) w') :
    oCall Try.prog Try.n_region_at #[v, .int .i64 fn, .int .i64 q, .int .u8 op] w K := by
  refine Try.ok_region_at ?_
  unfold Try.F_region_at
  have hu0 := hu
  obtain ⟨p0, cap0, vf, rfl, _, _, hst, hsl, hfn⟩ := hu
  obtain ⟨qf, capf, rfl, _, _⟩ := hfn.sl.shape
  have S := St.start hr
  refine S.box fun b4 w1 S => ?_
  have S : StX noX w r w1 [.cell b4 [.slice p0 u.ss.length cap0, .slice qf u.fs.length capf, .int .i64 u.mn] 43] := S
  refine S.al fun b8 w2 S => ?_
  refine S.al fun b9 w3 S => ?_
  have S : StX noX w r w3 [.cell b9 zeroPtL 64, .cell b8 rgZ 46, .cell b4 [.slice p0 u.ss.length cap0, .slice qf u.fs.length capf, .int .i64 u.mn] 43] := S
  (first | refine s_p ?_ | refine s_c (by omega) ?_)
  refine c_if (fun hq => ?_) (fun hq => ?_)
  · have hE : atE u fn q op = 2 := by rw [atE, if_pos hq]
    rw [hE] at h
    refine p_build (cs := rgZ.toArray) (by kernel_rfl) ?_
    refine p_build (cs := zeroPtL.toArray) (by kernel_rfl) ?_
    refine S.stB (b := b8) fun w4 S => ?_
    refine S.stB (b := b9) fun w5 S => ?_
    refine S.ceB (b := b8) ?_ rfl
    refine S.ceB (b := b9) ?_ rfl
    exact h _ zeroRg _ zeroPt nothing _ S.ext New.nothing RgG.zero zeroPt_G fun h => by cases h
  refine S.ldB (b := b4) ?_ rfl
  refine c_region_all S.holds hu0 fun v3 s w4 e4 n4 h4 => ?_
  obtain ⟨S, d4, a4⟩ := S.tell e4 n4
  (repeat (first | refine s_p ?_ | refine s_c (by omega) ?_))
  refine c_region_few (r := s) (S.holds.le (h := inferInstance)) h4 fun v5 w5 e5 h5 => ?_
  have S := S.go e5
  have h50 := h5
  have hfe : (fewT ((allT u fn q).1, (allT u fn q).2)) = fewT (allT u fn q) := rfl
  rw [hfe] at h5 h50 ⊢
  have hE : atE u fn q op = if (fewT (allT u fn q)).2 ≠ 0 then (fewT (allT u fn q)).2 else match u.fs[fn.toNat]?.bind fun g => g.pts[q.toNat]? with | some p => if p.op ≠ op then 130 else 0 | none => 2 := by rw [atE, if_neg hq]
  obtain ⟨q1, c1, q2, c2, rfl, g1, g2⟩ := h5.shape
  (repeat (first | refine s_p ?_ | refine s_c (by omega) ?_))
  refine S.al fun b11 w6 S => ?_
  refine S.stB (b := b11) fun w7 S => ?_
  (first | refine s_p ?_ | refine s_c (by omega) ?_)
  refine c_if (fun hne => ?_) (fun heq => ?_)
  · rw [if_pos hne] at hE
    rw [hE] at h
    refine S.ldB (b := b11) ?_ rfl
    refine p_build (cs := zeroPtL.toArray) (by kernel_rfl) ?_
    refine S.stB (b := b8) fun w4 S => ?_
    refine S.stB (b := b9) fun w5 S => ?_
    refine S.ceB (b := b8) ?_ rfl
    refine S.ceB (b := b9) ?_ rfl
    exact h _ _ _ zeroPt s _ S.ext (S.newOf a4) h50 zeroPt_G fun h => absurd h hne
  have heq : (fewT (allT u fn q)).2 = 0 := by omega
  obtain ⟨ha0, ha1, ha2⟩ := few_ok heq
  cases hc : isU u fn q with
  | false => rw [isU_no hc] at ha0; cases ha0
  | true =>
  obtain ⟨hM, hf0, hlt, hql, hT⟩ := isU_spec hc
  rw [if_neg (by omega), List.getElem?_eq_getElem hlt, Option.bind_some, List.getElem?_eq_getElem (show q.toNat < u.fs[fn.toNat].pts.length by omega)] at hE
  obtain ⟨bf, of, cf, rfl, hcf, hgc, hfo⟩ := hfn.sl.get (by decide) hlt
  have hpt2 : u.fs[fn.toNat]?.bind (fun g => g.pts[q.toNat]?) = some (u.fs[fn.toNat].pts[q.toNat]'(by omega)) := by
    rw [List.getElem?_eq_getElem hlt, Option.bind_some, List.getElem?_eq_getElem]
  rw [hpt2] at h
  obtain ⟨vo, vt, vn, vp, rfl, _, _, _, k4⟩ := hgc
  obtain ⟨qp, capp, rfl, _, _⟩ := k4.sl.shape
  obtain ⟨bp, op', cp, rfl, hcp, hpc, hpo⟩ := k4.sl.get (by decide) (show q.toNat < u.fs[fn.toNat].pts.length by omega)
  generalize u.fs[fn.toNat].pts[q.toNat]'(by omega) = p at h hE hpc
  dsimp only at hE
  (repeat (first | refine s_p ?_ | refine s_c (by omega) ?_ | refine S.ld ?_ | refine S.ldB ?_ | refine S.ce ?_ | refine S.ceB ?_ | refine s_q ?_ | refine s_qc (by omega) ?_ | refine n_some ?_ | rw [List.getD_cons_zero] | rw [List.getD_cons_succ]))
  refine s_ld1 (v := .slice (some ⟨bp, op', none⟩) u.fs[fn.toNat].pts.length capp) (by simpa using S.at (hfo 6 _ rfl)) ?_
  (repeat (first | refine s_p ?_ | refine s_c (by omega) ?_ | refine S.ld ?_ | refine S.ldB ?_ | refine S.ce ?_ | refine S.ceB ?_ | refine s_q ?_ | refine s_qc (by omega) ?_ | refine n_some ?_ | rw [List.getD_cons_zero] | rw [List.getD_cons_succ]))
  refine s_ldN (n := 21) hcp (fun j v hj => S.at (hpo j v hj)) ?_
  obtain ⟨x1, x2, x3, x4, x5, y1, y2, y3, y4, y5, rfl, _⟩ := pt_form hpc
  refine S.al fun b13 w8 S => ?_
  refine S.stB (b := b13) fun w9 S => ?_
  refine j_intro (fun s w' => s = [.int .i64 (atE u fn q op)] ∧ w' = w9) (fun K9 hK9 => ?_) ?_
  · rw [hE] at hK9
    (repeat (first | refine s_p ?_ | refine s_c (by omega) ?_ | refine S.ld ?_ | refine S.ldB ?_ | refine S.ce ?_ | refine S.ceB ?_ | refine s_q ?_ | refine s_qc (by omega) ?_ | refine n_some ?_ | rw [List.getD_cons_zero] | rw [List.getD_cons_succ]))
    refine c_if (fun ho => ?_) (fun ho => ?_)
    · exact hK9 _ _ ⟨by rw [if_pos ho], rfl⟩
    · exact hK9 _ _ ⟨by rw [heq, if_neg ho], rfl⟩
  rintro _ w9 ⟨rfl, rfl⟩ d9
  have S := S.go (Ext.drew _)
  have fin : ∀ {w9 : World}, StX noX w (r.or s) w9 [.cell b13 (ptL p x1 x2 x3 x4 x5 y1 y2 y3 y4 y5) 64, .cell b11 (rgL (fewT (allT u fn q)).1.lv (fewT (allT u fn q)).1.pt (fewT (allT u fn q)).1.ct (.slice q1 (fewT (allT u fn q)).1.tys.length c1) (.slice q2 (fewT (allT u fn q)).1.at'.length c2)) 46,
      .cell b9 (ptL p x1 x2 x3 x4 x5 y1 y2 y3 y4 y5) 64, .cell b8 (rgL (fewT (allT u fn q)).1.lv (fewT (allT u fn q)).1.pt (fewT (allT u fn q)).1.ct (.slice q1 (fewT (allT u fn q)).1.tys.length c1) (.slice q2 (fewT (allT u fn q)).1.at'.length c2)) 46,
      .cell b4 [.slice p0 u.ss.length cap0, .slice (some ⟨bf, of, none⟩) u.fs.length capf, .int .i64 u.mn] 43] →
      K (.tuple #[.agg (rgL (fewT (allT u fn q)).1.lv (fewT (allT u fn q)).1.pt (fewT (allT u fn q)).1.ct (.slice q1 (fewT (allT u fn q)).1.tys.length c1) (.slice q2 (fewT (allT u fn q)).1.at'.length c2)).toArray, .agg (ptL p x1 x2 x3 x4 x5 y1 y2 y3 y4 y5).toArray, .int .i64 (atE u fn q op)]) w9 := fun S =>
    h _ _ _ p s _ S.ext (S.newOf a4) h50 hpc fun hz => ⟨hc, by omega, ha1, rfl, (by
      rw [hE] at hz
      by_cases ho : p.op = op
      · exact ho
      · rw [if_pos ho] at hz; cases hz), by rw [ha1]; exact ha2⟩
  repeat' (first
    | (first | refine s_p ?_ | refine s_c (by omega) ?_ | refine S.ld ?_ | refine S.ldB ?_ | refine S.ce ?_ | refine S.ceB ?_ | refine s_q ?_ | refine s_qc (by omega) ?_ | refine n_some ?_ | rw [List.getD_cons_zero] | rw [List.getD_cons_succ])
    | (refine S.stB (b := b8) fun w10 S => ?_)
    | (refine S.stB (b := b9) fun w10 S => ?_)
    | (refine S.ldB (b := b13) ?_ rfl)
    | exact fin S
    | refine w_qE ?_
    | refine And.intro ?_ ?_)
end Go.Proofs
end

section
namespace Go.Proofs

open Go.Sh

set_option maxRecDepth 100000

set_option linter.unusedSimpArgs false

set_option linter.unusedVariables false

/-- the point that is asked -/
def ptAt (u : UnD) (fn q : Int) : Option PtD := u.fs[fn.toNat]?.bind fun g => g.pts[q.toNat]?
noncomputable def borT (u : UnD) (fn q : Int) : TyD × Int :=
  if atE u fn q 4 ≠ 0 then (zeroD, atE u fn q 4)
  else match ptAt u fn q with
    | some p => (.mk 4 p.mu (atL (allT u fn q).1.at' q) 0 [(placeR u.ss (allT u fn q).1.tys p.fr).1], (placeR u.ss (allT u fn q).1.tys p.fr).2)
    | none => (zeroD, 2)
theorem at_get {u : UnD} {fn q : Int} (hc : isU u fn q = true) (hq : 0 ≤ q) : ∃ hl : q.toNat < (allT u fn q).1.at'.length, (allT u fn q).1.at'[q.toNat] = atL (allT u fn q).1.at' q := by
  obtain ⟨hM, hf0, hlt, hql, hT⟩ := isU_spec hc
  have hl : q.toNat < (allT u fn q).1.at'.length := by rw [hT, show (allD u u.fs[fn.toNat], (0 : Int)).1 = allD u u.fs[fn.toNat] from rfl, allD_len.2]; omega
  exact ⟨hl, by rw [atL, List.getD_eq_getElem?_getD, List.getElem?_eq_getElem hl]; rfl⟩
set_option maxHeartbeats 1000000 in
theorem c_region_Borrowed {u : UnD} {fn q : Int} {v : Value} {w : World} {r : Gh} {K : Value → World → Prop} (hr : Holds r w) (hu : UnG r v u)
    (h : ∀ v' s w', Ext w w' → New w s w' → TyG s v' (borT u fn q).1 → K (.tuple #[v', .int .i64 (borT u fn q).2]) w') : oCall Try.prog Try.n_region_Borrowed #[v, .int .i64 fn, .int .i64 q] w K := by
  refine Try.ok_region_Borrowed ?_
  unfold Try.F_region_Borrowed
  have hu0 := hu
  obtain ⟨p0, cap0, vf, rfl, _, _, hst, hsl, hfn⟩ := hu
  obtain ⟨qf, capf, rfl, _, _⟩ := hfn.sl.shape
  have S := St.start hr
  refine S.box fun b3 w1 S => ?_
  have S : StX noX w r w1 [.cell b3 [.slice p0 u.ss.length cap0, .slice qf u.fs.length capf, .int .i64 u.mn] 43] := S
  refine S.al fun b6 w2 S => ?_
  refine S.ldB (b := b3) ?_ rfl
  refine c_region_at S.holds hu0 fun v3 d cp p s w3 e3 n3 hd hp hz => ?_
  obtain ⟨S, d3, a3⟩ := S.tell e3 n3
  obtain ⟨q1, c1, q2, c2, rfl, g1, g2⟩ := hd.shape
  obtain ⟨x1, x2, x3, x4, x5, y1, y2, y3, y4, y5, rfl, hp0⟩ := pt_form hp
  have hB : borT u fn q = if atE u fn q 4 ≠ 0 then (zeroD, atE u fn q 4) else match ptAt u fn q with
    | some p => (.mk 4 p.mu (atL (allT u fn q).1.at' q) 0 [(placeR u.ss (allT u fn q).1.tys p.fr).1], (placeR u.ss (allT u fn q).1.tys p.fr).2)
    | none => (zeroD, 2) := rfl
  generalize atE u fn q 4 = e at hz hB
  (repeat (first | refine s_p ?_ | refine s_c (by omega) ?_))
  refine S.al fun b8 w4 S => ?_
  refine S.al fun b9 w5 S => ?_
  refine S.stB (b := b8) fun w6 S => ?_
  refine S.stB (b := b9) fun w7 S => ?_
  (first | refine s_p ?_ | refine s_c (by omega) ?_)
  refine c_if (fun hne => ?_) (fun heq => ?_)
  · rw [if_pos hne] at hB
    rw [hB] at h
    refine p_build (cs := #[.int .u8 0, .bool false, .int .i64 0, .int .i64 0, .slice none 0 0]) (by kernel_rfl) ?_
    refine S.stB (b := b6) fun w8 S => ?_
    (repeat (first | refine s_p ?_ | refine s_c (by omega) ?_ | refine S.ld ?_ | refine S.ldB ?_ | refine S.ce ?_ | refine S.ceB ?_ | refine s_q ?_ | refine s_qc (by omega) ?_ | refine n_some ?_ | rw [List.getD_cons_zero] | rw [List.getD_cons_succ]))
    exact h _ nothing _ S.ext New.nothing ty_leaf
  have heq : e = 0 := by omega
  obtain ⟨hc, hq0, rfl, hpt, hop, _⟩ := hz heq
  have hpt : ptAt u fn q = some p := hpt
  rw [if_neg (by omega), hpt] at hB
  dsimp only at hB
  rw [hB] at h
  have htl : (allT u fn q).1.tys.length ≤ maxLen := by have := allT_tys (u := u) (fn := fn) (q := q); simp only [maxLen]; omega
  obtain ⟨hal, hat⟩ := at_get hc hq0
  obtain ⟨_, _, _, _, _, _, hpf⟩ := id hp0
  obtain ⟨_, _, _, _, h5⟩ := (show _ ∧ _ ∧ _ ∧ _ ∧ _ from by
    obtain ⟨_, _, _, _, _, hE, k1, k2, k3, k4, k5⟩ := hp0
    cases hE
    exact ⟨k1, k2, k3, k4, k5⟩)
  (first | refine s_p ?_ | refine s_c (by omega) ?_)
  refine S.ld (b := b3) ?_ rfl
  (first | refine s_p ?_ | refine s_c (by omega) ?_)
  refine S.ld (b := b8) ?_ rfl
  (first | refine s_p ?_ | refine s_c (by omega) ?_)
  refine S.ldN (b := b9) ?_
  refine c_place_Type S.holds hst.up (sl_tysG g1).up htl (p := p.fr) ⟨_, rfl, h5.cells⟩ fun v9 sn w9 e9 n9 t9 c9 => ?_
  obtain ⟨S, d9, a9⟩ := S.tell e9 n9
  have t90 := t9
  obtain ⟨p9, cap9, rfl, _⟩ := t9
  (repeat (first | refine s_p ?_ | refine s_c (by omega) ?_))
  refine S.al fun b11 w10 S => ?_
  refine S.stB (b := b11) fun w11 S => ?_
  have S := S.go (Ext.drew _)
  obtain ⟨ba, oa, ca, hqa, hca, hcc, hcell⟩ := g2.get (by decide) hal
  subst hqa
  obtain rfl : ca = _ := hcc
  (repeat (first | refine s_p ?_ | refine s_c (by omega) ?_ | refine S.ld ?_ | refine S.ldB ?_ | refine S.ce ?_ | refine S.ceB ?_ | refine s_q ?_ | refine s_qc (by omega) ?_ | refine n_some ?_ | rw [List.getD_cons_zero] | rw [List.getD_cons_succ]))
  refine s_ld1 (v := .int .i64 (atL (allT u fn q).1.at' q)) (by rw [← hat]; simpa using S.at (hcell 0 _ rfl)) ?_
  (repeat (first | refine s_p ?_ | refine s_c (by omega) ?_ | refine S.ld ?_ | refine S.ldB ?_ | refine S.ce ?_ | refine S.ceB ?_ | refine s_q ?_ | refine s_qc (by omega) ?_ | refine n_some ?_ | rw [List.getD_cons_zero] | rw [List.getD_cons_succ]))
  refine S.litU (ty_lit (c := tyL (placeR u.ss (allT u fn q).1.tys p.fr).1 p9 cap9) t90) fun b12 w12 S => ?_
  refine p_build (cs := #[.int .u8 4, .bool p.mu, .int .i64 (atL (allT u fn q).1.at' q), .int .i64 0, .slice (some ⟨b12, 0, none⟩) 1 1]) (by kernel_rfl) ?_
  refine S.stB (b := b6) fun w13 S => ?_
  refine S.ceB (b := b6) ?_ rfl
  have hm := S.mine (.cell b12 (tyL (placeR u.ss (allT u fn q).1.tys p.fr).1 p9 cap9) 25) (by simp) b12 rfl
  have S := (S.frzAt b12).reGh
  refine h _ (sn.or (one b12 (tyL (placeR u.ss (allT u fn q).1.tys p.fr).1 p9 cap9) 25)) _ S.ext (S.newOf ?_) (ty_one t90)
  rintro b o (hb | ⟨rfl, _⟩)
  · exact a9 b o hb
  · exact hm.1.resolve_right id
/-! ### Called -/

def instT (a : Int) (t : TyD) : TyD := t.lay ((regsT t).map fun k => a + k)
theorem c_Called_1 {t : TyD} {a q : Int} {b5 b9 : Nat} {c9 : List Value} {l : List Int} {p2 : Option Addr} {cp2 : Nat} {v : Value} {w : World} {r : Gh} {K : Value → World → Prop} (hB : isB t = true) (hreg : ∀ x ∈ t.regs, 0 ≤ x ∧ x < 8) (ha : t.regs ≠ [] → 0 ≤ a ∧ a ≤ 1000)
    (h9 : Ob r fun w => Blk w b9 c9 46) (hc9 : c9[4]? = some (.slice p2 l.length cp2)) (h5 : Ob r fun w => Blk w b5 [.int .i64 q] 3) (hl : SlG 1 r IntC (.slice p2 l.length cp2) l) (hq0 : 0 ≤ q) (hq : q.toNat < l.length) (hqa : l[q.toNat] = a)
    (hr : Holds r w) (hv : TyG r v t) (h : ∀ v' sn w', Ext w w' → New w sn w' → TyG sn v' (instT a t) → K v' w') :
    oCallV Try.prog (.func (.func Try.n_region_Called_1) #[] #[.pointer (some ⟨b9, 0, none⟩), .pointer (some ⟨b5, 0, none⟩)]) #[v] w K := by
  refine v_f12 (by kernel_rfl) ?_
  refine Try.ok_region_Called_1 ?_
  unfold Try.F_region_Called_1
  have hv0 := hv
  obtain ⟨p1, cap1, rfl, _⟩ := hv
  have S := St.start hr
  refine S.box fun b1 w1 S => ?_
  have S : StX noX w r w1 [.cell b1 (tyL t p1 cap1) 25] := S
  refine S.al fun b4 w2 S => ?_
  refine S.ldB (b := b1) ?_ rfl
  (first | refine s_p ?_ | refine s_c (by omega) ?_)
  have hrT : regsT t = t.regs := by rw [regsT, hB]; rfl
  refine c_region_turned (Lc := fun _ => []) (m := t.regs.map fun k => a + k) hB (List.length_map ..) (fun x hx => ?_) (fun i hi {M w K} S h => ?_) (M := [.cell b4 zeroL 25, .cell b1 (tyL t p1 cap1) 25]) S hv0 fun v' sn w3 S a3 ht hc => ?_
  · obtain ⟨k, hk, rfl⟩ := List.mem_map.1 hx
    have := hreg k hk
    have := ha (List.ne_nil_of_mem hk)
    omega
  · refine v_f12 (by kernel_rfl) ?_
    refine Try.ok_region_Called_1_1 ?_
    unfold Try.F_region_Called_1_1
    have hk := hreg _ (List.getElem_mem hi)
    have hak := ha (List.ne_nil_of_mem (List.getElem_mem hi))
    obtain ⟨ba, oa, ca, hpa, hca, hcc, hcell⟩ := hl.get (by decide) hq
    subst hpa
    obtain rfl : ca = _ := hcc
    (first | refine s_p ?_ | refine s_c (by omega) ?_)
    refine s_ld1 (v := .slice (some ⟨ba, oa, none⟩) l.length cp2) (by rw [(S.at h9).cell]; exact hc9) ?_
    refine s_ld1 (v := .int .i64 q) (by rw [(S.at h5).cell]; rfl) ?_
    (first | refine s_p ?_ | refine s_c (by omega) ?_)
    refine s_ld1 (v := .int .i64 a) (by rw [← hqa]; simpa using S.at (hcell 0 _ rfl)) ?_
    (first | refine s_p ?_ | refine s_c (by omega) ?_)
    have := h _ S
    rw [List.getElem_map] at this
    exact this
  have ht0 := ht
  obtain ⟨p3, cap3, rfl, _⟩ := ht
  have S : StX noX w (r.or sn) w3 [.cell b4 zeroL 25, .cell b1 (tyL t p1 cap1) 25] := S
  refine S.stB (b := b4) fun w4 S => ?_
  refine S.ceB (b := b4) ?_ rfl
  refine h _ sn _ S.ext (S.newOf a3) ?_
  rw [instT, hrT]; exact ht0
/-- what a Call asks and answers -/
noncomputable def calT (u : UnD) (fn q : Int) : List TyD × TyD × Int :=
  if atE u fn q 7 ≠ 0 then ([], zeroD, atE u fn q 7)
  else match ptAt u fn q with
    | some p => match u.fs[p.fn.toNat]? with
      | some f => (((f.tys.drop 1).take f.pn.toNat).map (instT (atL (allT u fn q).1.at' q)), instT (atL (allT u fn q).1.at' q) (f.tys.headD zeroD), 0)
      | none => ([], zeroD, 2)
    | none => ([], zeroD, 2)
theorem ptAt_mem {u : UnD} {fn q : Int} {p : PtD} (hlt : fn.toNat < u.fs.length) (h : ptAt u fn q = some p) : ∃ hq : q.toNat < u.fs[fn.toNat].pts.length, u.fs[fn.toNat].pts[q.toNat] = p := by
  rw [ptAt, List.getElem?_eq_getElem hlt, Option.bind_some] at h
  exact List.getElem?_eq_some_iff.1 h
/-- the first region of a point's own -/
theorem at_low {u : UnD} {fn q : Int} {p : PtD} (hc : isU u fn q = true) (hq : 0 ≤ q) (hp : ptAt u fn q = some p) (hn : ptN u p ≠ 0) : 0 ≤ atL (allT u fn q).1.at' q ∧ atL (allT u fn q).1.at' q + ptN u p ≤ (allT u fn q).1.ct := by
  obtain ⟨hM, hf0, hlt, hql, hT⟩ := isU_spec hc
  obtain ⟨hql', rfl⟩ := ptAt_mem hlt hp
  obtain ⟨hl, ha⟩ := at_get hc hq
  have hN := fun p hp => hM.ptN (List.getElem_mem hlt) (p := p) hp
  have hH := hM.hd hlt
  have e1 : (allT u fn q).1 = allD u u.fs[fn.toNat] := by rw [hT]
  rw [← ha]
  have e2 : (allT u fn q).1.at' = atK u u.fs[fn.toNat].pts (u.fs[fn.toNat].lv + locC u.fs[fn.toNat].tys) := by rw [e1]; rfl
  have e3 : (allT u fn q).1.at'[q.toNat] = u.fs[fn.toNat].lv + locC u.fs[fn.toNat].tys + atC u (u.fs[fn.toNat].pts.take q.toNat) := by
    simp only [e2]
    rw [atK_at hql', if_neg hn]
  rw [e3, e1]
  have h1 := atC_part (u := u) (l := u.fs[fn.toNat].pts) (fun p hp => (hN p hp).1) q.toNat
  have h2 := atC_part (u := u) (l := u.fs[fn.toNat].pts) (fun p hp => (hN p hp).1) (q.toNat + 1)
  rw [atC_take hql'] at h2
  have h3 := locC_pos u.fs[fn.toNat].tys
  have h4 := hH.lv0
  show _ ∧ _ ≤ u.fs[fn.toNat].lv + locC u.fs[fn.toNat].tys + atC u u.fs[fn.toNat].pts
  omega
set_option maxHeartbeats 2000000 in
theorem c_region_Called {u : UnD} {fn q : Int} {v : Value} {w : World} {r : Gh} {K : Value → World → Prop} (hr : Holds r w) (hu : UnG r v u)
    (h : ∀ vl v' s w', Ext w w' → New w s w' → SlG 5 s (TyC s) vl (calT u fn q).1 → TyG s v' (calT u fn q).2.1 → K (.tuple #[vl, v', .int .i64 (calT u fn q).2.2]) w') : oCall Try.prog Try.n_region_Called #[v, .int .i64 fn, .int .i64 q] w K := by
  refine Try.ok_region_Called ?_
  unfold Try.F_region_Called
  have hu0 := hu
  obtain ⟨p0, cap0, vf, rfl, _, _, hst, hsl, hfn⟩ := hu
  obtain ⟨qf, capf, rfl, _, _⟩ := hfn.sl.shape
  have S := St.start hr
  refine S.box fun b3 w1 S => ?_
  have S : StX noX w r w1 [.cell b3 [.slice p0 u.ss.length cap0, .slice qf u.fs.length capf, .int .i64 u.mn] 43] := S
  refine S.box fun b5 w2 S => ?_
  have S : StX noX w r w2 [.cell b5 [.int .i64 q] 3, .cell b3 [.slice p0 u.ss.length cap0, .slice qf u.fs.length capf, .int .i64 u.mn] 43] := S
  refine S.al fun b7 w2 S => ?_
  refine S.ldB (b := b3) ?_ rfl
  refine S.ld (b := b5) ?_ rfl
  refine c_region_at S.holds hu0 fun v3 d cp p s w3 e3 n3 hd hp hz => ?_
  obtain ⟨S, d3, a3⟩ := S.tell e3 n3
  obtain ⟨q1, c1, q2, c2, rfl, g1, g2⟩ := hd.shape
  obtain ⟨x1, x2, x3, x4, x5, y1, y2, y3, y4, y5, rfl, hp0⟩ := pt_form hp
  have hB : calT u fn q = if atE u fn q 7 ≠ 0 then ([], zeroD, atE u fn q 7) else match ptAt u fn q with
    | some p => match u.fs[p.fn.toNat]? with
      | some f => (((f.tys.drop 1).take f.pn.toNat).map (instT (atL (allT u fn q).1.at' q)), instT (atL (allT u fn q).1.at' q) (f.tys.headD zeroD), 0)
      | none => ([], zeroD, 2)
    | none => ([], zeroD, 2) := rfl
  generalize atE u fn q 7 = e at hz hB
  (repeat (first | refine s_p ?_ | refine s_c (by omega) ?_))
  refine S.al fun b9 w4 S => ?_
  refine S.al fun b10 w5 S => ?_
  refine S.stB (b := b9) fun w6 S => ?_
  refine S.stB (b := b10) fun w7 S => ?_
  (first | refine s_p ?_ | refine s_c (by omega) ?_)
  refine c_if (fun hne => ?_) (fun heq => ?_)
  · rw [if_pos hne] at hB
    rw [hB] at h
    have S := S.go (Ext.drew _)
    refine S.ldB (b := b7) ?_ rfl
    refine S.stB (b := b7) fun w8 S => ?_
    (repeat (first | refine s_p ?_ | refine s_c (by omega) ?_ | refine S.ld ?_ | refine S.ldB ?_ | refine S.ce ?_ | refine S.ceB ?_ | refine s_q ?_ | refine s_qc (by omega) ?_ | refine n_some ?_ | rw [List.getD_cons_zero] | rw [List.getD_cons_succ]))
    exact h _ _ nothing _ S.ext New.nothing SlG.nil ty_leaf
  have heq : e = 0 := by omega
  obtain ⟨hc, hq0, rfl, hpt, hop, hct⟩ := hz heq
  have hpt : ptAt u fn q = some p := hpt
  obtain ⟨hM, hf0, hlt, hql, hT⟩ := isU_spec hc
  obtain ⟨hql', hpm⟩ := ptAt_mem hlt hpt
  have hpc := point_call (hM.pts _ (List.getElem_mem hlt) p (by rw [← hpm]; exact List.getElem_mem _)) hop
  have hltf : p.fn.toNat < u.fs.length := by omega
  rw [if_neg (by omega), hpt] at hB
  dsimp only at hB
  rw [List.getElem?_eq_getElem hltf] at hB
  dsimp only at hB
  rw [hB] at h
  have hHf := hM.hd hltf
  have hff := hHf.fine hM.ok
  obtain ⟨hal, hat⟩ := at_get hc hq0
  have hptn : ptN u p = u.fs[p.fn.toNat].lv := by rw [ptN, if_neg (by omega), if_pos hop, lvOf, List.getElem?_eq_getElem hltf]
  have hlow := at_low hc hq0 hpt
  rw [hptn] at hlow
  generalize hA : atL (allT u fn q).1.at' q = A at h hat hlow
  obtain ⟨bf, of, cf, rfl, hcf, hgc, hfo⟩ := hfn.sl.get (by decide) hltf
  generalize u.fs[p.fn.toNat] = f at h hHf hff hlow hgc
  obtain ⟨vo, vt, vn, vp, rfl, k1, k2, k3, k4⟩ := hgc
  obtain ⟨qo, capo, rfl, _, _⟩ := k1.sl.shape
  obtain ⟨qt, capt, rfl, _, hct2⟩ := k2.sl.shape
  obtain ⟨qn, capn, rfl, _, _⟩ := k3.sl.shape
  obtain ⟨qp, capp, rfl, _, _⟩ := k4.sl.shape
  obtain ⟨hlv0, hlv8, hpn0, hpn8, hpn1, hty, _, htys, _, _, _, _, _⟩ := hHf
  (repeat (first | refine s_p ?_ | refine s_c (by omega) ?_ | refine S.ld ?_ | refine S.ldB ?_ | refine S.ce ?_ | refine S.ceB ?_ | refine s_q ?_ | refine s_qc (by omega) ?_ | refine n_some ?_ | rw [List.getD_cons_zero] | rw [List.getD_cons_succ]))
  refine s_ldN (n := 7) hcf (fun j v hj => S.at (hfo j v hj)) ?_
  refine S.al fun b11 w8 S => ?_
  refine S.stB (b := b11) fun w9 S => ?_
  have S := (S.frzAt b9).frzAt b5
  (repeat (first | refine s_p ?_ | refine s_c (by omega) ?_ | refine S.ld ?_ | refine S.ldB ?_ | refine S.ce ?_ | refine S.ceB ?_ | refine s_q ?_ | refine s_qc (by omega) ?_ | refine n_some ?_ | rw [List.getD_cons_zero] | rw [List.getD_cons_succ]))
  have hlen : (f.pn + 1).toNat - (1 : Int).toNat = ((f.tys.drop 1).take f.pn.toNat).length := by rw [List.length_take, List.length_drop]; omega
  rw [hlen]
  have hsub := (sl_tysG k2.sl).sub (a := (1 : Int).toNat) (n := f.pn.toNat) (cap := capt) hct2
  have hlst : (f.tys.drop (1 : Int).toNat).take f.pn.toNat = (f.tys.drop 1).take f.pn.toNat := rfl
  rw [hlst] at hsub
  generalize (if capt = (1 : Int).toNat then qt else qt.map (·.add ((1 : Int).toNat * 5))) = qs at hsub ⊢
  have hfacts : ∀ (j : Nat) (hj : j < f.tys.length), (j : Int) ≤ f.pn → isB f.tys[j] = true ∧ (∀ x ∈ f.tys[j].regs, 0 ≤ x ∧ x < 8) ∧ (f.tys[j].regs ≠ [] → 0 ≤ A ∧ A ≤ 1000) := fun j hj hjp => by
    have hB := (hff.all _ (List.getElem_mem hj)).is hff.few
    have hrT : regsT f.tys[j] = f.tys[j].regs := by rw [regsT, hB]; rfl
    have hr := tysG_low htys hj (by omega)
    rw [hrT] at hr
    refine ⟨hB, fun x hx => by have := hr x hx; omega, fun hne => ?_⟩
    obtain ⟨x, hx⟩ := List.exists_mem_of_ne_nil _ hne
    have := hr x hx
    have := hlow (by omega)
    omega
  have hpar : ∀ (j : Nat) (hj : j < ((f.tys.drop 1).take f.pn.toNat).length), isB ((f.tys.drop 1).take f.pn.toNat)[j] = true ∧ (∀ x ∈ ((f.tys.drop 1).take f.pn.toNat)[j].regs, 0 ≤ x ∧ x < 8) ∧ (((f.tys.drop 1).take f.pn.toNat)[j].regs ≠ [] → 0 ≤ A ∧ A ≤ 1000) := fun j hj => by
    rw [List.length_take, List.length_drop] at hj
    rw [List.getElem_take, List.getElem_drop]
    exact hfacts (1 + j) (by omega) (by omega)
  have hpl : ((f.tys.drop 1).take f.pn.toNat).length ≤ 8 := by rw [List.length_take, List.length_drop]; omega
  generalize hps : (f.tys.drop 1).take f.pn.toNat = ps at h hsub hpar hpl ⊢
  have S := S.ownNil 25 5
  have S : StX noX w ((((r.or s).or (one b9 (rgL (allT u fn q).1.lv (allT u fn q).1.pt (allT u fn q).1.ct (.slice q1 (allT u fn q).1.tys.length c1) (.slice q2 (allT u fn q).1.at'.length c2)) 46)).or (one b5 [.int .i64 q] 3)).or nothing) w9 [.row (.slice none 0 0) 25 5 0 [], .cell b11 [.string f.name, .int .i64 f.lv, .slice qo f.outs.length capo, .int .i64 f.pn, .slice qt f.tys.length capt, .slice qn f.nms.length capn, .slice qp f.pts.length capp] 53,
    .cell b10 (ptL p x1 x2 x3 x4 x5 y1 y2 y3 y4 y5) 64, .cell b7 zeroL 25, .cell b3 [.slice p0 u.ss.length cap0, .slice (some ⟨bf, of, none⟩) u.fs.length capf, .int .i64 u.mn] 43] := S.to _
  have hcl : ∀ {s' : Gh} {t : TyD} {v9 : Value} {w9 : World} {M : List Asr} {K9 : Value → World → Prop}, isB t = true → (∀ x ∈ t.regs, 0 ≤ x ∧ x < 8) → (t.regs ≠ [] → 0 ≤ A ∧ A ≤ 1000) →
      StX noX w ((((r.or s).or (one b9 (rgL (allT u fn q).1.lv (allT u fn q).1.pt (allT u fn q).1.ct (.slice q1 (allT u fn q).1.tys.length c1) (.slice q2 (allT u fn q).1.at'.length c2)) 46)).or (one b5 [.int .i64 q] 3)).or s') w9 M → TyG r v9 t →
      (∀ v' sn w', Ext w9 w' → New w9 sn w' → TyG sn v' (instT A t) → K9 v' w') → oCallV Try.prog (.func (.func Try.n_region_Called_1) #[] #[.pointer (some ⟨b9, 0, none⟩), .pointer (some ⟨b5, 0, none⟩)]) #[v9] w9 K9 := fun h1 h2 h3 S hv hk =>
    c_Called_1 (l := (allT u fn q).1.at') (cp2 := c2) (c9 := rgL (allT u fn q).1.lv (allT u fn q).1.pt (allT u fn q).1.ct (.slice q1 (allT u fn q).1.tys.length c1) (.slice q2 (allT u fn q).1.at'.length c2)) h1 h2 h3 (one_blk (b := b9)).up rfl (one_blk (b := b5)).up g2.cells hq0 hal hat S.holds hv.up hk
  refine l_intro (ι := Nat × Value × Gh × List Value) (fun i => [i.2.1, .int .i64 (i.1 : Nat)]) (fun i w' => i.1 ≤ ps.length ∧ RowOf 5 (TyC i.2.2.1) i.2.2.2 ((ps.take i.1).map (instT A)) ∧ Above w i.2.2.1 ∧
    StX noX w ((((r.or s).or (one b9 (rgL (allT u fn q).1.lv (allT u fn q).1.pt (allT u fn q).1.ct (.slice q1 (allT u fn q).1.tys.length c1) (.slice q2 (allT u fn q).1.at'.length c2)) 46)).or (one b5 [.int .i64 q] 3)).or i.2.2.1) w' [.row i.2.1 25 5 i.1 i.2.2.2, .cell b11 [.string f.name, .int .i64 f.lv, .slice qo f.outs.length capo, .int .i64 f.pn, .slice qt f.tys.length capt, .slice qn f.nms.length capn, .slice qp f.pts.length capp] 53,
      .cell b10 (ptL p x1 x2 x3 x4 x5 y1 y2 y3 y4 y5) 64, .cell b7 zeroL 25, .cell b3 [.slice p0 u.ss.length cap0, .slice (some ⟨bf, of, none⟩) u.fs.length capf, .int .i64 u.mn] 43]) (fun i => ps.length - i.1) (0, .slice none 0 0, nothing, []) rfl ⟨Nat.zero_le _, RowOf.nil, Above.no, S⟩ ?_
  clear S
  rintro ⟨i, vp, s', xs⟩ d w10 ⟨hi, hrow, hab, S⟩ K6 hK6
  simp only at hi hrow hab S ⊢
  simp only [List.getD_cons_zero, List.getD_cons_succ]
  (first | refine s_p ?_ | refine s_c (by omega) ?_)
  refine c_if (fun hlt2 => ?_) (fun hge => ?_)
  · have hlt2 : i < ps.length := by omega
    obtain ⟨bt, ot, ct, rfl, hct3, htc, hto⟩ := hsub i hlt2
    obtain ⟨q4, cap4, rfl, ht4⟩ := ty_form hto
    obtain ⟨hp1, hp2, hp3⟩ := hpar i hlt2
    (first | refine s_p ?_ | refine s_c (by omega) ?_)
    refine s_ldN (n := 5) hct3 (fun j v hj => by rw [Int.toNat_natCast]; exact S.at (htc j v hj)) ?_
    refine S.al fun b14 w11 S => ?_
    refine S.stB (b := b14) fun w12 S => ?_
    refine S.ldB (b := b14) ?_ rfl
    refine hcl hp1 hp2 hp3 S ht4 fun v5 sn w13 e13 n13 h13 => ?_
    obtain ⟨S, d13, a13⟩ := S.tell e13 n13
    obtain ⟨q6, cap6, rfl, _⟩ := id h13
    refine S.lit (ty_lit (c := tyL (instT A ps[i]) q6 cap6) h13) fun b15 w14 S => ?_
    refine S.ap (m' := 1) (Sl.blk (S.blk b15)) (fun v15 w15 S => ?_) (by omega)
    have S := ((S.drop b15).drop b14).reGh
    (first | refine s_p ?_ | refine s_c (by omega) ?_)
    rw [show ((i : Int) + 1) = ((i + 1 : Nat) : Int) by omega]
    refine hK6 (i + 1, v15, s'.or sn, xs ++ tyL (instT A ps[i]) q6 cap6) _ ⟨hlt2, ?_, hab.or' a13, S⟩ (by show ps.length - (i + 1) < ps.length - i; omega)
    show RowOf 5 (TyC (s'.or sn)) (xs ++ tyL (instT A ps[i]) q6 cap6) ((ps.take (i + 1)).map (instT A))
    rw [List.take_succ_eq_append_getElem hlt2, List.map_append]
    exact (hrow.mono fun c x hx => TyG.up hx).snoc rfl (TyG.up h13)
  have hie : i = ps.length := by omega
  subst hie
  rw [List.take_length] at hrow
  obtain ⟨s2, S, hsl2, _, hab2⟩ := S.doneRow hrow (by decide) (by rw [List.length_map])
  have hab2 : Above w s2 := fun b o ho => (hab2 b o ho).resolve_right id
  have hpos : 0 < f.tys.length := by omega
  have hhd : f.tys.headD zeroD = f.tys[0] := by rw [List.headD_eq_head?_getD, List.head?_eq_getElem?, List.getElem?_eq_getElem hpos, Option.getD_some]
  obtain ⟨bt, ot, ct, rfl, hct3, htc, hto⟩ := sl_tysG k2.sl 0 hpos
  obtain ⟨q4, cap4, rfl, ht4⟩ := ty_form hto
  obtain ⟨hp1, hp2, hp3⟩ := hfacts 0 hpos (by omega)
  have S := S.reGh
  (repeat (first | refine s_p ?_ | refine s_c (by omega) ?_ | refine S.ld ?_ | refine S.ldB ?_ | refine S.ce ?_ | refine S.ceB ?_ | refine s_q ?_ | refine s_qc (by omega) ?_ | refine n_some ?_ | rw [List.getD_cons_zero] | rw [List.getD_cons_succ]))
  refine s_ldN (n := 5) hct3 (fun j v hj => by simpa using S.at (htc j v hj)) ?_
  refine hcl hp1 hp2 hp3 S ht4 fun v5 sn w13 e13 n13 h13 => ?_
  obtain ⟨S, d13, a13⟩ := S.tell e13 n13
  obtain ⟨q6, cap6, rfl, _⟩ := id h13
  have S := S.reGh
  refine S.stB (b := b7) fun w14 S => ?_
  refine S.ceB (b := b7) ?_ rfl
  rw [hhd] at h
  rw [heq]
  exact h _ _ ((s'.or s2).or sn) _ S.ext (S.newOf ((hab.or' hab2).or' a13)) (hsl2.up' inferInstance fun c x hx => TyG.up hx) (TyG.up h13)
end Go.Proofs
end

section
namespace Go.Proofs

open Go.Sh

set_option maxRecDepth 100000

set_option linter.unusedSimpArgs false

set_option linter.unusedVariables false

end Go.Proofs
end

section
namespace Go.Sh

theorem StX.mkSU {P : Program} {X : Nat → Prop} {w0 w : World} {r : Gh} {L : List Asr} {t e : TypeId} {bytes : Nat} {kl : IntKind} {n : Int} {z : Value} (S : StX X w0 r w L) [hT : ApT P t e 1 bytes] [hz : ZrT P e [z]] {K : Value → World → Prop} (h0 : 0 ≤ n) (hb : (bytes : Int) * n ≤ 281474976710656)
    (h : ∀ b w', StX X w0 r w' (.cell b (List.replicate n.toNat z) e :: L) → K (.slice (some ⟨b, 0, none⟩) n.toNat n.toNat) w') : opW P w (Instr.makeSlice t (.int kl n) (.int kl n)) fun t' w' => Ext w w' ∧ K t' w' :=
  w_make hT.h hz.h h0 hb fun b w' hb e _ B => ⟨e, h b w' (S.add e (by omega) B)⟩
/-- a literal that stays, new -/
theorem StX.litNew {w0 w : World} {r : Gh} {L M : List Asr} {α : Type} {sz : Nat} {R : List Value → α → Prop} {l : List α} {e : TypeId} {xs : List Value} (S : StX noX w0 r w L) (b : Nat) [h : Pull b L xs e M] (hr : RowOf sz R xs l) (hz : 0 < sz) :
    StX noX w0 (r.or (one b xs e)) w M ∧ SlG sz (one b xs e) R (.slice (some ⟨b, 0, none⟩) l.length l.length) l ∧ Above w0 (one b xs e) := by
  have S1 := S.front b
  have hm := S1.mine (.cell b xs e) List.mem_cons_self b rfl
  obtain ⟨S2, h2⟩ := S1.litSl hr hz
  exact ⟨S2, h2, by rintro b' o ⟨rfl, _⟩; exact hm.1.resolve_right id⟩
end Go.Sh

namespace Go.Proofs

open Go.Sh

set_option maxRecDepth 100000

set_option linter.unusedSimpArgs false

set_option linter.unusedVariables false

theorem rowOf_one {α : Type} {sz : Nat} {R : List Value → α → Prop} {c : List Value} {x : α} (hc : c.length = sz) (hx : R c x) : RowOf sz R c [x] := RowOf.nil.snoc (xs := []) hc hx
theorem rowOf_cons {α : Type} {sz : Nat} {R : List Value → α → Prop} {c xs : List Value} {x : α} {l : List α} (hc : c.length = sz) (hx : R c x) (h : RowOf sz R xs l) : RowOf sz R (c ++ xs) (x :: l) := by
  obtain ⟨h1, h2⟩ := h
  refine ⟨by rw [List.length_append, List.length_cons, h1, hc, Nat.succ_mul, Nat.add_comm], fun i hi => ?_⟩
  cases i with
  | zero => rw [Nat.zero_mul, List.drop_zero, List.take_append_of_le_length (by omega), List.take_of_length_le (by omega)]; exact hx
  | succ i =>
    have e : ((c ++ xs).drop ((i + 1) * sz)) = xs.drop (i * sz) := by
      rw [show (i + 1) * sz = c.length + i * sz by rw [hc, Nat.succ_mul, Nat.add_comm], ← List.drop_drop, List.drop_left']; rfl
    rw [e]
    exact h2 i (by simpa using hi)
theorem slG_few {α : Type} {sz : Nat} {r : Gh} {R : List Value → α → Prop} {v : Value} {l : List α} (h : SlG sz r R v l) (hl : l.length ≤ 1000000 := by decide) : SlB sz r R v l := ⟨h, by simp only [maxLen]; omega⟩
/-! ### The example -/

def refD : TyD := .mk 4 true (-1) 0 [intD]
def plD (l : Int) : PlD := ⟨l, []⟩
def conD (n : Int) : OpD := ⟨1, n, zeroPl⟩
def hp0 : PtD := ⟨4, plD 2, zeroO, zeroO, [], ByteArray.empty, plD 1, true, 0, 0, 1, 0, 0⟩
def hp1 : PtD := ⟨1, plD 1, conD 2, zeroO, [], ByteArray.empty, zeroPl, false, 0, 0, 2, 0, 0⟩
def hp2 : PtD := ⟨1, ⟨2, [-1]⟩, conD 3, zeroO, [], ByteArray.empty, zeroPl, false, 0, 0, 3, 0, 0⟩
def hp3 : PtD := ⟨14, zeroPl, zeroO, zeroO, [], ByteArray.empty, zeroPl, false, 0, 0, 0, 0, 0⟩
def handG : GrD := ⟨ByteArray.empty, 0, [], 0, [intD, intD, refD], [ByteArray.empty, ByteArray.empty, ByteArray.empty], [hp0, hp1, hp2, hp3]⟩
def handU : UnD := ⟨[], [handG], 0⟩
abbrev intL : List Value := [.int .u8 1, .bool false, .int .i64 0, .int .i64 0, .slice none 0 0]
abbrev intV : Value := .agg #[.int .u8 1, .bool false, .int .i64 0, .int .i64 0, .slice none 0 0]
abbrev conV (n : Int) : Value := .agg #[.int .u8 1, .int .i64 n, .int .i64 0, .slice none 0 0]
abbrev hl0 : List Value := [.int .u8 4, .int .i64 2, .slice none 0 0, .int .u8 0, .int .i64 0, .int .i64 0, .slice none 0 0, .int .u8 0, .int .i64 0, .int .i64 0, .slice none 0 0, .slice none 0 0, .string ByteArray.empty, .int .i64 1, .slice none 0 0, .bool true, .int .i64 0, .int .i64 0, .int .i64 1, .int .i64 0, .int .i64 0]
abbrev hl1 : List Value := [.int .u8 1, .int .i64 1, .slice none 0 0, .int .u8 1, .int .i64 2, .int .i64 0, .slice none 0 0, .int .u8 0, .int .i64 0, .int .i64 0, .slice none 0 0, .slice none 0 0, .string ByteArray.empty, .int .i64 0, .slice none 0 0, .bool false, .int .i64 0, .int .i64 0, .int .i64 2, .int .i64 0, .int .i64 0]
abbrev hl2 (b : Nat) : List Value := [.int .u8 1, .int .i64 2, .slice (some ⟨b, 0, none⟩) 1 1, .int .u8 1, .int .i64 3, .int .i64 0, .slice none 0 0, .int .u8 0, .int .i64 0, .int .i64 0, .slice none 0 0, .slice none 0 0, .string ByteArray.empty, .int .i64 0, .slice none 0 0, .bool false, .int .i64 0, .int .i64 0, .int .i64 3, .int .i64 0, .int .i64 0]
abbrev hl3 : List Value := [.int .u8 14, .int .i64 0, .slice none 0 0, .int .u8 0, .int .i64 0, .int .i64 0, .slice none 0 0, .int .u8 0, .int .i64 0, .int .i64 0, .slice none 0 0, .slice none 0 0, .string ByteArray.empty, .int .i64 0, .slice none 0 0, .bool false, .int .i64 0, .int .i64 0, .int .i64 0, .int .i64 0, .int .i64 0]
theorem c_law13_i64 {w : World} {K : Value → World → Prop} (h : ∀ w', Ext w w' → K intV w') : oCall Try.prog Try.n_law13_i64 #[] w K := by
  refine Try.ok_law13_i64 ?_
  unfold Try.F_law13_i64
  have S : StX noX w nothing w [] := St.start (fun _ _ h => h.elim)
  refine S.al fun b0 w1 S => ?_
  refine p_build (cs := intL.toArray) (by kernel_rfl) ?_
  refine S.stB (b := b0) fun w2 S => ?_
  refine S.ceB (b := b0) ?_ rfl
  exact h _ S.ext
theorem c_law13_con {n : Int} {w : World} {K : Value → World → Prop} (h : ∀ w', Ext w w' → K (conV n) w') : oCall Try.prog Try.n_law13_con #[.int .i64 n] w K := by
  refine Try.ok_law13_con ?_
  unfold Try.F_law13_con
  have S : StX noX w nothing w [] := St.start (fun _ _ h => h.elim)
  refine S.al fun b0 w1 S => ?_
  refine p_build (cs := #[.int .u8 1, .int .i64 n, .int .i64 0, .slice none 0 0]) (by kernel_rfl) ?_
  refine S.stB (b := b0) fun w2 S => ?_
  refine S.ceB (b := b0) ?_ rfl
  exact h _ S.ext
theorem c_law13_ref {m : Bool} {w : World} {K : Value → World → Prop} (h : ∀ q cap sn w', Ext w w' → New w sn w' → TyG sn (tyV (.mk 4 m (-1) 0 [intD]) q cap) (.mk 4 m (-1) 0 [intD]) → K (tyV (.mk 4 m (-1) 0 [intD]) q cap) w') : oCall Try.prog Try.n_law13_ref #[.bool m] w K := by
  refine Try.ok_law13_ref ?_
  unfold Try.F_law13_ref
  have S : StX noX w nothing w [] := St.start (fun _ _ h => h.elim)
  refine S.al fun b2 w1 S => ?_
  refine c_law13_i64 fun w2 e2 => ?_
  have S := S.go e2
  refine S.lit (e := 25) (cs := intL) (by kernel_rfl) fun b5 w3 S => ?_
  refine p_build (cs := #[.int .u8 4, .bool m, .int .i64 (-1), .int .i64 0, .slice (some ⟨b5, 0, none⟩) 1 1]) (by kernel_rfl) ?_
  refine S.stB (b := b2) fun w4 S => ?_
  refine S.ceB (b := b2) ?_ rfl
  obtain ⟨S, _, ha⟩ := S.litNew b5 (sz := 5) (R := TyC nothing) (l := [intD]) (by exact (rowOf_one (c := intL) rfl (show TyC nothing intL intD from ty_any))) (by decide)
  exact h (some ⟨b5, 0, none⟩) 1 (nothing.or (one b5 intL 25)) _ S.ext (S.newOf (Above.no.or' ha)) (ty_one (u := intD) (v := intV) ty_any)
set_option maxHeartbeats 8000000 in
theorem c_law13_hand {w : World} {K : Value → World → Prop} (h : ∀ v s w', Ext w w' → New w s w' → UnG s v handU → K v w') : oCall Try.prog Try.n_law13_hand #[] w K := by
  refine Try.ok_law13_hand ?_
  unfold Try.F_law13_hand
  have S : StX noX w nothing w [] := St.start (fun _ _ h => h.elim)
  refine S.al fun b0 w1 S => ?_
  refine S.lit (e := 107) (cs := [.int .i64 (-1)]) (by kernel_rfl) fun b2 w2 S => ?_
  refine p_build (cs := #[.int .i64 2, .slice (some ⟨b2, 0, none⟩) 1 1]) (by kernel_rfl) ?_
  refine S.al fun b1 w3 S => ?_
  refine S.stB (b := b1) fun w4 S => ?_
  have S := S.go (Ext.drew _)
  refine p_build (cs := #[.int .i64 2, .slice none 0 0]) (by kernel_rfl) ?_
  refine p_build (cs := #[.int .i64 1, .slice none 0 0]) (by kernel_rfl) ?_
  refine p_build (cs := hl0.toArray) (by kernel_rfl) ?_
  refine p_build (cs := #[.int .i64 1, .slice none 0 0]) (by kernel_rfl) ?_
  refine S.ldB (b := b1) ?_ rfl
  refine p_build (cs := hl3.toArray) (by kernel_rfl) ?_
  have S := S.drop b1
  have fin : ∀ {w9 : World} {b7 b8 b19 b21 : Nat} {q6 : Option Addr} {c6 : Nat} {sn : Gh} {M M1 M2 M3 M4 M5 : List Asr} (S : StX noX w (nothing.or sn) w9 M)
      [Pull b7 M (intL ++ (intL ++ tyL refD q6 c6)) 25 M1] [Pull b8 M1 [.string ByteArray.empty, .string ByteArray.empty, .string ByteArray.empty] 9 M2] [Pull b2 M2 [.int .i64 (-1)] 107 M3]
      [Pull b19 M3 (hl0 ++ (hl1 ++ (hl2 b2 ++ hl3))) 64 M4] [Pull b21 M4 [.string ByteArray.empty, .int .i64 0, .slice none 0 0, .int .i64 0, .slice (some ⟨b7, 0, none⟩) 3 3, .slice (some ⟨b8, 0, none⟩) 3 3, .slice (some ⟨b19, 0, none⟩) 4 4] 53 M5],
      Above w sn → TyG sn (tyV refD q6 c6) refD → K (.agg #[.slice none 0 0, .slice (some ⟨b21, 0, none⟩) 1 1, .int .i64 0]) w9 := by
    intro w9 b7 b8 b19 b21 q6 c6 sn M M1 M2 M3 M4 M5 S _ _ _ _ _ ha ht
    obtain ⟨S, h7, a7⟩ := S.litNew b7 (sz := 5) (R := TyC sn) (l := [intD, intD, refD]) (by exact (rowOf_cons rfl ty_any (rowOf_cons rfl ty_any (rowOf_one rfl ht)))) (by decide)
    obtain ⟨S, h8, a8⟩ := S.litNew b8 (sz := 1) (R := StrC) (l := [ByteArray.empty, ByteArray.empty, ByteArray.empty]) (by exact (rowOf_cons (c := [.string ByteArray.empty]) rfl rfl (rowOf_cons (c := [.string ByteArray.empty]) rfl rfl (rowOf_one rfl rfl)))) (by decide)
    obtain ⟨S, h2, a2⟩ := S.litNew b2 (sz := 1) (R := StpC) (l := [-1]) (by exact (rowOf_one rfl ⟨rfl, by unfold in64; omega⟩)) (by decide)
    have hz : ∀ {r : Gh} {α : Type} {sz : Nat} {R : List Value → α → Prop}, SlB sz r R (.slice none 0 0) ([] : List α) := slB_nil
    obtain ⟨S, h19, a19⟩ := S.litNew b19 (sz := 21) (R := PtG (one b2 [.int .i64 (-1)] 107)) (l := [hp0, hp1, hp2, hp3])
      (by exact (rowOf_cons rfl ⟨_, _, _, _, _, rfl, hz, hz, hz, hz, hz⟩ (rowOf_cons rfl ⟨_, _, _, _, _, rfl, hz, hz, hz, hz, hz⟩ (rowOf_cons rfl ⟨_, _, _, _, _, rfl, slG_few h2, hz, hz, hz, hz⟩ (rowOf_one rfl ⟨_, _, _, _, _, rfl, hz, hz, hz, hz, hz⟩))))) (by decide)
    obtain ⟨S, h21, a21⟩ := S.litNew b21 (sz := 7) (R := GrG (((((nothing.or sn).or (one b7 (intL ++ (intL ++ tyL refD q6 c6)) 25)).or (one b8 [.string ByteArray.empty, .string ByteArray.empty, .string ByteArray.empty] 9)).or (one b2 [.int .i64 (-1)] 107)).or (one b19 (hl0 ++ (hl1 ++ (hl2 b2 ++ hl3))) 64))) (l := [handG])
      (by exact (rowOf_one rfl ⟨_, _, _, _, rfl, hz, slG_few (h7.up' inferInstance fun c x hx => TyG.up hx), slG_few h8.cells, slG_few (h19.up' inferInstance fun c x hx => PtG.up hx)⟩)) (by decide)
    exact h _ _ _ S.ext (S.newOf (((((Above.no.or' ha).or' a7).or' a8).or' a2).or' a19 |>.or' a21)) ⟨none, 0, _, rfl, fun _ => rfl, Nat.zero_le _, trivial, Nat.zero_le _, slG_few (h21.up' inferInstance fun c x hx => GrG.up hx)⟩
  repeat' (first
    | (with_reducible refine c_law13_i64 fun w9 e9 => ⟨e9, ?_⟩; have S := S.go e9)
    | (with_reducible refine c_law13_con fun w9 e9 => ⟨e9, ?_⟩; have S := S.go e9)
    | (with_reducible refine c_law13_ref fun q6 c6 sn w9 e9 n9 t9 => ⟨e9, ?_⟩; obtain ⟨S, d9, a9⟩ := S.tell e9 n9)
    | (with_reducible refine S.litU (t := 23) (e := 25) (cs := intL ++ (intL ++ tyL refD q6 c6)) (by kernel_rfl) fun b7 w9 S => ?_)
    | (with_reducible refine S.mkSU (by decide) (by decide) fun b8 w9 S => ?_)
    | (with_reducible refine p_build (t := 64) (parts := #[(0, .int .u8 1), (1, .agg #[.int .i64 1, .slice none 0 0]), (2, conV 2), (10, .int .i64 2)]) (cs := hl1.toArray) (by kernel_rfl) ?_)
    | (with_reducible refine p_build (t := 64) (cs := (hl2 b2).toArray) (by kernel_rfl) ?_)
    | (with_reducible refine S.lit (t := 51) (e := 64) (cs := hl0 ++ (hl1 ++ (hl2 b2 ++ hl3))) (by kernel_rfl) fun b19 w9 S => ?_)
    | (with_reducible refine p_build (t := 53) (cs := #[.string ByteArray.empty, .int .i64 0, .slice none 0 0, .int .i64 0, .slice (some ⟨b7, 0, none⟩) 3 3, .slice (some ⟨b8, 0, none⟩) 3 3, .slice (some ⟨b19, 0, none⟩) 4 4]) (by kernel_rfl) ?_)
    | (with_reducible refine S.lit (t := 41) (e := 53) (cs := [.string ByteArray.empty, .int .i64 0, .slice none 0 0, .int .i64 0, .slice (some ⟨b7, 0, none⟩) 3 3, .slice (some ⟨b8, 0, none⟩) 3 3, .slice (some ⟨b19, 0, none⟩) 4 4]) (by kernel_rfl) fun b21 w9 S => ?_)
    | (with_reducible refine p_build (t := 43) (cs := #[.slice none 0 0, .slice (some ⟨b21, 0, none⟩) 1 1, .int .i64 0]) (by kernel_rfl) ?_)
    | (with_reducible refine And.intro ?_ ?_)
    | (refine S.stB (b := b0) fun w9 S => ?_; refine S.ceB (b := b0) ?_ rfl; exact fin (b7 := b7) (b8 := b8) (b19 := b19) (b21 := b21) S a9 t9)
)
end Go.Proofs
end

section
namespace Go.Proofs

open Go.Sh

set_option maxRecDepth 100000

set_option linter.unusedSimpArgs false

set_option linter.unusedVariables false

theorem hst : structsT ([] : List StD) = (0, 0) := by unfold structsT; simp [fstB]
theorem hmay (t : TyD) : mayB [] t = lookB 0 48 t := by rw [mayB, hst]; simp
theorem empty_list : ByteArray.empty.toList = [] := by rw [ByteArray.toList_eq]; rfl
theorem hand_head : headG handU 0 handG = true := by
  have h1 : tysG handU handG 0 handG.tys = true := by
    show ((mayB [] intD && _) && ((mayB [] intD && _) && ((mayB [] refD && _) && true))) = true
    rw [hmay, hmay]
    kernel_rfl
  unfold headG
  rw [h1]
  show (_ : Bool) = true
  kernel_rfl
theorem hand_pts : ∀ p ∈ handG.pts, pointG handU handG p = true := by
  have hp : handG.pts = [hp0, hp1, hp2, hp3] := rfl
  rw [hp]
  intro p h
  simp only [List.mem_cons, List.not_mem_nil, or_false] at h
  rcases h with rfl | rfl | rfl | rfl
  · have e : restG hp0 { to := true, fr := true, mu := true } = true := by
      rw [restG, restL, show hp0.sign = ByteArray.empty from rfl, empty_list]; kernel_rfl
    have : pointG handU handG hp0 = (((((restG hp0 { to := true, fr := true, mu := true } && true) && true) && true) && true) && (true && true)) := by kernel_rfl
    rw [this, e]; rfl
  · have e : restG hp1 { to := true, a := true } = true := by
      rw [restG, restL, show hp1.sign = ByteArray.empty from rfl, empty_list]; kernel_rfl
    have : pointG handU handG hp1 = (((restG hp1 { to := true, a := true } && true) && true) && true) := by kernel_rfl
    rw [this, e]; rfl
  · have e : restG hp2 { to := true, a := true } = true := by
      rw [restG, restL, show hp2.sign = ByteArray.empty from rfl, empty_list]; kernel_rfl
    have : pointG handU handG hp2 = (((restG hp2 { to := true, a := true } && true) && true) && true) := by kernel_rfl
    rw [this, e]; rfl
  · have e : restG hp3 {} = true := by
      rw [restG, restL, show hp3.sign = ByteArray.empty from rfl, empty_list]; kernel_rfl
    have : pointG handU handG hp3 = restG hp3 {} := by kernel_rfl
    rw [this, e]
theorem hand_may : MayU handU := by
  refine ⟨by show (structsT []).2 = 0; rw [hst], by decide, by decide, by decide, by decide, fun i hi => ?_, fun g hg => ?_⟩
  · have : i = 0 := by have : handU.fs.length = 1 := rfl; omega
    subst this
    exact hand_head
  · rw [List.mem_singleton.1 hg]
    exact hand_pts
def refT (k : Int) : TyD := .mk 4 true k 0 [intD]
theorem hand_isU {q : Int} (h : q < 4) : isU handU 0 q = true := by
  rw [isU, mayU_iff.2 hand_may]
  show (true && (true && decide (q < 4))) = true
  rw [decide_eq_true h]; rfl
theorem hand_all {q : Int} (h : q < 4) : allT handU 0 q = (⟨0, 4, 2, [intD, intD, refT 0], [1, -1, -1, -1]⟩, 0) := by
  rw [allT, if_pos (hand_isU h)]
  kernel_rfl
theorem hand_place {p : PlD} {t : TyD} {g : List Int} (h1 : ((decide (0 ≤ p.l) && decide (p.l < 3)) && decide (p.ps.length ≤ 8)) = true) (h2 : walkH [] p.ps ([intD, intD, refT 0].getD p.l.toNat zeroD) = some (t, g)) : placeW [] [intD, intD, refT 0] p = some (t, g) := by
  have : placeO [] [intD, intD, refT 0] p = true := by
    rw [placeO, hst]
    show (((decide (0 ≤ p.l) && decide (p.l < 3)) && decide (p.ps.length ≤ 8)) && (true && (mayB [] intD && (mayB [] intD && (mayB [] (refT 0) && true))))) = true
    rw [h1, hmay, hmay]; kernel_rfl
  rw [placeW, if_pos this, h2]
theorem hand_atE : atE handU 0 0 4 = 0 ∧ atE handU 0 0 7 = 130 := by
  constructor <;> (rw [atE, hand_all (by decide)]; kernel_rfl)
theorem hand_bor : borT handU 0 0 = (refT 1, 0) := by
  rw [borT, hand_atE.1, hand_all (by decide)]
  have : placeR [] [intD, intD, refT 0] (plD 1) = (intD, 0) := by rw [placeR, hand_place (t := intD) (g := []) (by decide) rfl]
  show (TyD.mk 4 true 1 0 [(placeR [] [intD, intD, refT 0] (plD 1)).1], (placeR [] [intD, intD, refT 0] (plD 1)).2) = _
  rw [this]; rfl
theorem hand_cal : calT handU 0 0 = ([], zeroD, 130) := by
  rw [calT, hand_atE.2]; rfl
theorem hand_rg : rgPlace handU 0 (plD 2) = (refT 0, 0) := by
  have hp : placeW [] [intD, intD, refT 0] (plD 2) = some (refT 0, []) := hand_place (by decide) rfl
  have : placeR [] [intD, intD, refT 0] (plD 2) = (refT 0, 0) := by rw [placeR, hp]
  rw [rgPlace, hand_all (by decide)]
  show (if (0 : Int) ≠ 0 ∨ placeW [] [intD, intD, refT 0] (plD 2) = none then (zeroD, (2 : Int)) else if (fewT (_, 0)).2 ≠ 0 then _ else placeR [] [intD, intD, refT 0] (plD 2)) = _
  rw [if_neg (by rw [hp]; simp), if_neg (by decide), this]
theorem c_law13_awake {w : World} {K : Value → World → Prop} (h : ∀ w', Ext w w' → K (.bool true) w') : oCall Try.prog Try.n_law13_awake #[] w K := by
  refine Try.ok_law13_awake ?_
  unfold Try.F_law13_awake
  refine c_law13_hand fun vu s w1 e1 n1 hu => ?_
  have S : StX noX w s w1 [] := (St.start (r := nothing) (w := w) (fun _ _ h => h.elim)).new e1 n1 |>.to s
  have hu0 := hu
  obtain ⟨p0, cap0, vf, rfl, _, _, _, _, hfn⟩ := hu
  obtain ⟨qf, capf, rfl, _, _⟩ := hfn.sl.shape
  refine S.al fun b1 w2 S => ?_
  refine S.stB (b := b1) fun w3 S => ?_
  refine S.ldB (b := b1) ?_ rfl
  refine c_region_Of S.holds hu0 fun v4 s4 w4 e4 n4 h4 => ?_
  obtain ⟨S, d4, a4⟩ := S.tell e4 n4
  have hfew : fewT (allT handU 0 (-1)) = (⟨0, 4, 2, [intD, intD, refT 0], [1, -1, -1, -1]⟩, 0) := by rw [hand_all (by decide)]; rfl
  rw [hfew] at h4 ⊢
  have h40 := h4
  obtain ⟨q1, c1, q2, c2, rfl, g1, g2⟩ := h4.shape
  (repeat (first | refine s_p ?_ | refine s_c (by omega) ?_))
  refine S.al fun b2 w5 S => ?_
  refine S.stB (b := b2) fun w6 S => ?_
  refine S.ldB (b := b1) ?_ rfl
  refine c_region_Borrowed S.holds hu0.up fun v7 s7 w7 e7 n7 h7 => ?_
  obtain ⟨S, d7, a7⟩ := S.tell e7 n7
  rw [hand_bor] at h7 ⊢
  have h70 := h7
  obtain ⟨p7, cap7, rfl, _⟩ := h7
  (repeat (first | refine s_p ?_ | refine s_c (by omega) ?_))
  refine S.al fun b4 w8 S => ?_
  refine S.stB (b := b4) fun w9 S => ?_
  refine S.ldB (b := b1) ?_ rfl
  refine c_region_Called S.holds hu0.up fun vl v10 s10 w10 e10 n10 hl10 h10 => ?_
  obtain ⟨S, d10, a10⟩ := S.tell e10 n10
  rw [hand_cal] at h10 ⊢
  obtain ⟨p10, cap10, rfl, _⟩ := h10
  (repeat (first | refine s_p ?_ | refine s_c (by omega) ?_))
  refine S.al fun b7 w11 S => ?_
  refine S.stB (b := b7) fun w12 S => ?_
  refine S.ldB (b := b4) ?_ rfl
  refine S.lit (e := 3) (cs := ints [5, 7]) (by kernel_rfl) fun b34 w13 S => ?_
  have S := S.frzAt b34
  refine c_region_Turn (l := [5, 7]) (p := some ⟨b34, 0, none⟩) S.holds h70.up (fun w k => Sl.blk (b := b34) (c := ints [5, 7]) (T := 3) (k b34 _ (.inr ⟨rfl, rfl⟩))) (by decide) fun v14 s14 w14 e14 n14 h14 _ => ?_
  obtain ⟨S, d14, a14⟩ := S.tell e14 n14
  have ht : turnT (refT 1) [5, 7] = (refT 7, 0) := by kernel_rfl
  rw [ht] at h14 ⊢
  obtain ⟨p14, cap14, rfl, _⟩ := h14
  (repeat (first | refine s_p ?_ | refine s_c (by omega) ?_))
  refine S.al fun b9 w15 S => ?_
  refine S.stB (b := b9) fun w16 S => ?_
  refine S.ldB (b := b4) ?_ rfl
  refine c_region_Erase S.holds h70.up fun v17 s17 w17 e17 n17 h17 _ => ?_
  obtain ⟨S, d17, a17⟩ := S.tell e17 n17
  have ht : eraseT (refT 1) = (refT (-1), 0) := by kernel_rfl
  rw [ht] at h17 ⊢
  obtain ⟨p17, cap17, rfl, _⟩ := h17
  (repeat (first | refine s_p ?_ | refine s_c (by omega) ?_))
  refine S.al fun b11 w18 S => ?_
  refine S.stB (b := b11) fun w19 S => ?_
  refine S.ldB (b := b1) ?_ rfl
  refine p_build (cs := #[.int .i64 2, .slice none 0 0]) (by kernel_rfl) ?_
  refine c_region_Place (p := plD 2) (c := [.int .i64 2, .slice none 0 0]) S.holds hu0.up ⟨_, rfl, slB_nil⟩ fun v20 s20 w20 e20 n20 h20 _ => ?_
  obtain ⟨S, d20, a20⟩ := S.tell e20 n20
  rw [hand_rg] at h20 ⊢
  obtain ⟨p20, cap20, rfl, _⟩ := h20
  (repeat (first | refine s_p ?_ | refine s_c (by omega) ?_))
  refine S.al fun b13 w21 S => ?_
  refine S.stB (b := b13) fun w22 S => ?_
  (first | refine s_p ?_ | refine s_c (by omega) ?_)
  have hat := g2
  refine j_bandH (c := true) (fun _ K2 hK2 => by (repeat (first | refine s_p ?_ | refine s_c (by omega) ?_ | refine S.ld ?_ | refine S.ldB ?_ | refine S.ce ?_ | refine S.ceB ?_ | refine s_q ?_ | refine s_qc (by omega) ?_ | refine n_some ?_ | rw [List.getD_cons_zero] | rw [List.getD_cons_succ])); exact hK2) ?_
  refine j_bandE (c := true) (fun _ K2 hK2 => ?_) fun w26 e26 => ?_
  · refine S.ldB (b := b2) ?_ rfl
    refine c_region_Width S.holds h40.up (by decide) fun w27 e27 => ?_
    (first | refine s_p ?_ | refine s_c (by omega) ?_)
    exact hK2 _ e27
  have S := S.go e26
  obtain ⟨ba, oa, ca, hqa, hca, hcc, hcell⟩ := g2.get (by decide) (i := 0) (by decide)
  subst hqa
  obtain rfl : ca = _ := hcc
  obtain ⟨ba', oa', ca', hqa', hca', hcc', hcell'⟩ := g2.get (by decide) (i := 1) (by decide)
  cases hqa'
  obtain rfl : ca' = _ := hcc'
  refine j_bandH (c := true) (fun _ K2 hK2 => by (repeat (first | refine s_p ?_ | refine s_c (by omega) ?_ | refine S.ld ?_ | refine S.ldB ?_ | refine S.ce ?_ | refine S.ceB ?_ | refine s_q ?_ | refine s_qc (by omega) ?_ | refine n_some ?_ | rw [List.getD_cons_zero] | rw [List.getD_cons_succ])); exact hK2) ?_
  refine j_bandH (c := true) (fun _ K2 hK2 => ?_) ?_
  · (first | refine s_p ?_ | refine s_c (by omega) ?_)
    refine S.ld (b := b2) ?_ rfl
    refine s_c (by decide) ?_
    refine s_ld1 (v := .int .i64 1) (by simpa using S.at (hcell 0 _ rfl)) ?_
    (repeat (first | refine s_p ?_ | refine s_c (by omega) ?_ | refine S.ld ?_ | refine S.ldB ?_ | refine S.ce ?_ | refine S.ceB ?_ | refine s_q ?_ | refine s_qc (by omega) ?_ | refine n_some ?_ | rw [List.getD_cons_zero] | rw [List.getD_cons_succ]))
    exact hK2
  refine j_bandH (c := true) (fun _ K2 hK2 => ?_) ?_
  · (first | refine s_p ?_ | refine s_c (by omega) ?_)
    refine S.ld (b := b2) ?_ rfl
    refine s_c (by decide) ?_
    refine s_ld1 (v := .int .i64 (-1)) (by simpa using S.at (hcell' 0 _ rfl)) ?_
    (repeat (first | refine s_p ?_ | refine s_c (by omega) ?_ | refine S.ld ?_ | refine S.ldB ?_ | refine S.ce ?_ | refine S.ceB ?_ | refine s_q ?_ | refine s_qc (by omega) ?_ | refine n_some ?_ | rw [List.getD_cons_zero] | rw [List.getD_cons_succ]))
    exact hK2
  refine j_bandH (c := true) (fun _ K2 hK2 => by (repeat (first | refine s_p ?_ | refine s_c (by omega) ?_ | refine S.ld ?_ | refine S.ldB ?_ | refine S.ce ?_ | refine S.ceB ?_ | refine s_q ?_ | refine s_qc (by omega) ?_ | refine n_some ?_ | rw [List.getD_cons_zero] | rw [List.getD_cons_succ])); exact hK2) ?_
  refine j_bandH (c := true) (fun _ K2 hK2 => by (repeat (first | refine s_p ?_ | refine s_c (by omega) ?_ | refine S.ld ?_ | refine S.ldB ?_ | refine S.ce ?_ | refine S.ceB ?_ | refine s_q ?_ | refine s_qc (by omega) ?_ | refine n_some ?_ | rw [List.getD_cons_zero] | rw [List.getD_cons_succ])); exact hK2) ?_
  refine j_bandH (c := true) (fun _ K2 hK2 => by (repeat (first | refine s_p ?_ | refine s_c (by omega) ?_ | refine S.ld ?_ | refine S.ldB ?_ | refine S.ce ?_ | refine S.ceB ?_ | refine s_q ?_ | refine s_qc (by omega) ?_ | refine n_some ?_ | rw [List.getD_cons_zero] | rw [List.getD_cons_succ])); exact hK2) ?_
  refine j_bandH (c := true) (fun _ K2 hK2 => by (repeat (first | refine s_p ?_ | refine s_c (by omega) ?_ | refine S.ld ?_ | refine S.ldB ?_ | refine S.ce ?_ | refine S.ceB ?_ | refine s_q ?_ | refine s_qc (by omega) ?_ | refine n_some ?_ | rw [List.getD_cons_zero] | rw [List.getD_cons_succ])); exact hK2) ?_
  refine j_bandH (c := true) (fun _ K2 hK2 => by (repeat (first | refine s_p ?_ | refine s_c (by omega) ?_ | refine S.ld ?_ | refine S.ldB ?_ | refine S.ce ?_ | refine S.ceB ?_ | refine s_q ?_ | refine s_qc (by omega) ?_ | refine n_some ?_ | rw [List.getD_cons_zero] | rw [List.getD_cons_succ])); exact hK2) ?_
  refine j_bandH (c := true) (fun _ K2 hK2 => by (repeat (first | refine s_p ?_ | refine s_c (by omega) ?_ | refine S.ld ?_ | refine S.ldB ?_ | refine S.ce ?_ | refine S.ceB ?_ | refine s_q ?_ | refine s_qc (by omega) ?_ | refine n_some ?_ | rw [List.getD_cons_zero] | rw [List.getD_cons_succ])); exact hK2) ?_
  refine j_bandH (c := true) (fun _ K2 hK2 => by (repeat (first | refine s_p ?_ | refine s_c (by omega) ?_ | refine S.ld ?_ | refine S.ldB ?_ | refine S.ce ?_ | refine S.ceB ?_ | refine s_q ?_ | refine s_qc (by omega) ?_ | refine n_some ?_ | rw [List.getD_cons_zero] | rw [List.getD_cons_succ])); exact hK2) ?_
  refine j_bandH (c := true) (fun _ K2 hK2 => by (repeat (first | refine s_p ?_ | refine s_c (by omega) ?_ | refine S.ld ?_ | refine S.ldB ?_ | refine S.ce ?_ | refine S.ceB ?_ | refine s_q ?_ | refine s_qc (by omega) ?_ | refine n_some ?_ | rw [List.getD_cons_zero] | rw [List.getD_cons_succ])); exact hK2) ?_
  refine j_bandH (c := true) (fun _ K2 hK2 => by (repeat (first | refine s_p ?_ | refine s_c (by omega) ?_ | refine S.ld ?_ | refine S.ldB ?_ | refine S.ce ?_ | refine S.ceB ?_ | refine s_q ?_ | refine s_qc (by omega) ?_ | refine n_some ?_ | rw [List.getD_cons_zero] | rw [List.getD_cons_succ])); exact hK2) ?_
  refine j_bandH (c := true) (fun _ K2 hK2 => by (repeat (first | refine s_p ?_ | refine s_c (by omega) ?_ | refine S.ld ?_ | refine S.ldB ?_ | refine S.ce ?_ | refine S.ceB ?_ | refine s_q ?_ | refine s_qc (by omega) ?_ | refine n_some ?_ | rw [List.getD_cons_zero] | rw [List.getD_cons_succ])); exact hK2) ?_
  exact h _ S.ext
end Go.Proofs
end

section
namespace Go.Sh

section

variable {P : Program} {t : TypeId} {c : Bool} {K : Value → Prop}

/-- a sum, whatever it is -/
theorem p_addW {a b : Int} (k : ∀ x : Int, K (.int .i64 x)) : opP P (bsem .add t c (.int .i64 a) (.int .i64 b)) K :=
  p_of (fun w => by rw [bsem_int]; simp [binOp, Op.intArith]) (k (IntKind.i64.wrap (a + b)))
end

end Go.Sh

namespace Go.Proofs

open Go.Sh

set_option maxRecDepth 100000

set_option linter.unusedSimpArgs false

set_option linter.unusedVariables false

theorem lay_alike {s : Int} : ∀ (n : Nat) {t : TyD} {l : List Int}, lookB s n t = true → alikeB fAll n t (t.lay l) = true := by
  intro n
  induction n with
  | zero => intro t l h; cases h
  | succ n ih =>
    intro t l h
    obtain ⟨hk1, hk2, hk3⟩ := lay_k t l
    rcases look_cases h with ⟨ho, hk⟩ | ⟨u, ho, hu, hk⟩
    · rw [alikeB_nil ho, hk1, hk2, hk3]; simp [fAll]
    · rw [alikeB_one ho (lay_of_one ho), hk1, hk2, hk3, ih hu]; simp [fAll]
/-- a number of a list that stays -/
theorem ob_at {s : Gh} {p : Option Addr} {l : List Int} (h : Ob s fun w => Sl w p (ints l)) {w : World} (hw : Holds s w) {i : Nat} (hi : i < l.length) : ∃ b off, p = some ⟨b, off, none⟩ ∧ Ob s fun w => w.cell? ⟨b, off + i, none⟩ = some (.int .i64 l[i]) := by
  obtain ⟨b, off, rfl, _⟩ := ints_at (h w hw) hi
  refine ⟨b, off, rfl, fun w' hw' => ?_⟩
  obtain ⟨b', off', hp, hc⟩ := ints_at (h w' hw') hi
  cases hp
  exact hc
theorem ob_sl {s : Gh} {p : Option Addr} {n cap : Nat} {l : List Int} (h : SlG 1 s IntC (.slice p n cap) l) {i : Nat} (hi : i < l.length) : ∃ b off, p = some ⟨b, off, none⟩ ∧ Ob s fun w => w.cell? ⟨b, off + i, none⟩ = some (.int .i64 l[i]) := by
  obtain ⟨b, off, c, rfl, hc, hcc, hcell⟩ := h.get (by decide) hi
  obtain rfl : c = _ := hcc
  exact ⟨b, off, rfl, by simpa using hcell 0 _ rfl⟩
theorem c_law13_fits {u : UnD} {v : Value} {w : World} {r : Gh} {K : Value → World → Prop} (hr : Holds r w) (hu : UnG r v u) (h : ∀ (b : Bool) w', Ext w w' → K (.bool b) w') : oCall Try.prog Try.n_law13_fits #[v] w K := by
  refine Try.ok_law13_fits ?_
  unfold Try.F_law13_fits
  obtain ⟨p0, cap0, vf, rfl, _, _, hst, hsl, hfn⟩ := hu
  obtain ⟨qf, capf, rfl, _, _⟩ := hfn.sl.shape
  have hfl : u.fs.length ≤ 9223372036854775807 := hfn.few
  have hsl' : u.ss.length ≤ 9223372036854775807 := hsl
  have S := St.start hr
  refine S.box fun b1 w1 S => ?_
  have S : StX noX w r w1 [.cell b1 [.slice p0 u.ss.length cap0, .slice qf u.fs.length capf, .int .i64 u.mn] 43] := S
  (repeat (first|((with_reducible refine p_id ?_);first|refine s_p ?_|refine s_c (by omega) ?_)|((with_reducible refine q_id ?_);first|refine S.ld ?_|refine S.ldB ?_|refine S.ce ?_|refine S.ceB ?_|refine s_q ?_|refine s_qc (by omega) ?_)|with_reducible refine n_some ?_|rw [List.getD_cons_zero]|rw [List.getD_cons_succ]))
  refine j_borH (c := decide (40 < (u.fs.length : Int))) (fun _ K2 hK2 => by (repeat (first|((with_reducible refine p_id ?_);first|refine s_p ?_|refine s_c (by omega) ?_)|((with_reducible refine q_id ?_);first|refine S.ld ?_|refine S.ldB ?_|refine S.ce ?_|refine S.ceB ?_|refine s_q ?_|refine s_qc (by omega) ?_)|with_reducible refine n_some ?_|rw [List.getD_cons_zero]|rw [List.getD_cons_succ])); exact hK2) ?_
  refine c_b (fun _ => h _ _ S.ext) (fun _ => ?_)
  refine l_intro (ι := Nat) (fun i => [.int .i64 (i : Nat)]) (fun i w' => i ≤ u.ss.length ∧ StX noX w r w' _) (fun i => u.ss.length - i) 0 rfl ⟨Nat.zero_le _, S⟩ ?_
  clear S
  rintro i d w2 ⟨hi, S⟩ K6 hK6
  rw [List.getD_cons_zero]
  (repeat (first|((with_reducible refine p_id ?_);first|refine s_p ?_|refine s_c (by omega) ?_)|((with_reducible refine q_id ?_);first|refine S.ld ?_|refine S.ldB ?_|refine S.ce ?_|refine S.ceB ?_|refine s_q ?_|refine s_qc (by omega) ?_)|with_reducible refine n_some ?_|rw [List.getD_cons_zero]|rw [List.getD_cons_succ]))
  refine c_if (fun hlt => ?_) (fun hge => ?_)
  · have hlt : i < u.ss.length := by omega
    obtain ⟨b, off, q, capq, rfl, hcell, _, _, _⟩ := st_at hst hlt
    (repeat (first|((with_reducible refine p_id ?_);first|refine s_p ?_|refine s_c (by omega) ?_)|((with_reducible refine q_id ?_);first|refine S.ld ?_|refine S.ldB ?_|refine S.ce ?_|refine S.ceB ?_|refine s_q ?_|refine s_qc (by omega) ?_)|with_reducible refine n_some ?_|rw [List.getD_cons_zero]|rw [List.getD_cons_succ]))
    refine s_ld1 (by rw [Int.toNat_natCast]; exact S.at hcell) ?_
    (repeat (first|((with_reducible refine p_id ?_);first|refine s_p ?_|refine s_c (by omega) ?_)|((with_reducible refine q_id ?_);first|refine S.ld ?_|refine S.ldB ?_|refine S.ce ?_|refine S.ceB ?_|refine s_q ?_|refine s_qc (by omega) ?_)|with_reducible refine n_some ?_|rw [List.getD_cons_zero]|rw [List.getD_cons_succ]))
    refine c_b (fun _ => h _ _ S.ext) (fun _ => ?_)
    (repeat (first|((with_reducible refine p_id ?_);first|refine s_p ?_|refine s_c (by omega) ?_)|((with_reducible refine q_id ?_);first|refine S.ld ?_|refine S.ldB ?_|refine S.ce ?_|refine S.ceB ?_|refine s_q ?_|refine s_qc (by omega) ?_)|with_reducible refine n_some ?_|rw [List.getD_cons_zero]|rw [List.getD_cons_succ]))
    rw [show ((i : Int) + 1) = ((i + 1 : Nat) : Int) by omega]
    exact hK6 (i + 1) _ ⟨hlt, S⟩ (by omega)
  refine l_intro (ι := Nat × Int) (fun i => [.int .i64 i.2, .int .i64 (i.1 : Nat)]) (fun i w' => i.1 ≤ u.fs.length ∧ StX noX w r w' _) (fun i => u.fs.length - i.1) (0, 0) rfl ⟨Nat.zero_le _, S⟩ ?_
  clear S hK6 K6 hge hi
  rintro ⟨i, n⟩ d w3 ⟨hi, S⟩ K7 hK7
  simp only at hi S ⊢
  simp only [List.getD_cons_zero, List.getD_cons_succ]
  (repeat (first|((with_reducible refine p_id ?_);first|refine s_p ?_|refine s_c (by omega) ?_)|((with_reducible refine q_id ?_);first|refine S.ld ?_|refine S.ldB ?_|refine S.ce ?_|refine S.ceB ?_|refine s_q ?_|refine s_qc (by omega) ?_)|with_reducible refine n_some ?_|rw [List.getD_cons_zero]|rw [List.getD_cons_succ]))
  refine c_if (fun hlt => ?_) (fun hge => h _ _ S.ext)
  have hlt : i < u.fs.length := by omega
  obtain ⟨bf, of, cf, rfl, hcf, hgc, hfo⟩ := hfn.sl.get (by decide) hlt
  generalize u.fs[i] = g at hgc
  obtain ⟨vo, vt, vn, vp, rfl, h1, h2, h3, h4⟩ := id hgc
  obtain ⟨qt, capt, rfl, _, hct⟩ := h2.sl.shape
  obtain ⟨qp, capp, rfl, _, _⟩ := h4.sl.shape
  have S := S.go (Ext.drew _)
  have l4 : Ob r fun w => w.cell? ⟨bf, of + i * 7 + 4, none⟩ = some (.slice qt g.tys.length capt) := hfo 4 _ rfl
  have l6 : Ob r fun w => w.cell? ⟨bf, of + i * 7 + 6, none⟩ = some (.slice qp g.pts.length capp) := hfo 6 _ rfl
  (repeat (first|((with_reducible refine p_id ?_);first|refine s_p ?_|refine s_c (by omega) ?_)|((with_reducible refine q_id ?_);first|refine S.ld ?_|refine S.ldB ?_|refine S.ce ?_|refine S.ceB ?_|refine s_q ?_|refine s_qc (by omega) ?_)|with_reducible refine n_some ?_|rw [List.getD_cons_zero]|rw [List.getD_cons_succ]))
  refine s_ld1 (by rw [Int.toNat_natCast]; exact S.at l6) ?_
  (repeat (first|((with_reducible refine p_id ?_);first|refine s_p ?_|refine s_c (by omega) ?_)|((with_reducible refine q_id ?_);first|refine S.ld ?_|refine S.ldB ?_|refine S.ce ?_|refine S.ceB ?_|refine s_q ?_|refine s_qc (by omega) ?_)|with_reducible refine n_some ?_|rw [List.getD_cons_zero]|rw [List.getD_cons_succ]))
  refine s_ld1 (by rw [Int.toNat_natCast]; exact S.at l4) ?_
  ((with_reducible refine p_id ?_);first|refine s_p ?_|refine s_c (by omega) ?_)
  refine p_addW fun x => ?_
  refine p_addW fun y => ?_
  (repeat (first|((with_reducible refine p_id ?_);first|refine s_p ?_|refine s_c (by omega) ?_)|((with_reducible refine q_id ?_);first|refine S.ld ?_|refine S.ldB ?_|refine S.ce ?_|refine S.ceB ?_|refine s_q ?_|refine s_qc (by omega) ?_)|with_reducible refine n_some ?_|rw [List.getD_cons_zero]|rw [List.getD_cons_succ]))
  refine s_ld1 (by rw [Int.toNat_natCast]; exact S.at l6) ?_
  (repeat (first|((with_reducible refine p_id ?_);first|refine s_p ?_|refine s_c (by omega) ?_)|((with_reducible refine q_id ?_);first|refine S.ld ?_|refine S.ldB ?_|refine S.ce ?_|refine S.ceB ?_|refine s_q ?_|refine s_qc (by omega) ?_)|with_reducible refine n_some ?_|rw [List.getD_cons_zero]|rw [List.getD_cons_succ]))
  refine j_borH (c := decide (150 < (g.tys.length : Int))) (fun _ K2 hK2 => ?_) ?_
  · (repeat (first|((with_reducible refine p_id ?_);first|refine s_p ?_|refine s_c (by omega) ?_)|((with_reducible refine q_id ?_);first|refine S.ld ?_|refine S.ldB ?_|refine S.ce ?_|refine S.ceB ?_|refine s_q ?_|refine s_qc (by omega) ?_)|with_reducible refine n_some ?_|rw [List.getD_cons_zero]|rw [List.getD_cons_succ]))
    refine s_ld1 (by rw [Int.toNat_natCast]; exact S.at l4) ?_
    (repeat (first|((with_reducible refine p_id ?_);first|refine s_p ?_|refine s_c (by omega) ?_)|((with_reducible refine q_id ?_);first|refine S.ld ?_|refine S.ldB ?_|refine S.ce ?_|refine S.ceB ?_|refine s_q ?_|refine s_qc (by omega) ?_)|with_reducible refine n_some ?_|rw [List.getD_cons_zero]|rw [List.getD_cons_succ]))
    exact hK2
  refine j_borH (c := decide (600 < y)) (fun _ K2 hK2 => by (repeat (first|((with_reducible refine p_id ?_);first|refine s_p ?_|refine s_c (by omega) ?_)|((with_reducible refine q_id ?_);first|refine S.ld ?_|refine S.ldB ?_|refine S.ce ?_|refine S.ceB ?_|refine s_q ?_|refine s_qc (by omega) ?_)|with_reducible refine n_some ?_|rw [List.getD_cons_zero]|rw [List.getD_cons_succ])); exact hK2) ?_
  refine c_b (fun _ => h _ _ S.ext) (fun _ => ?_)
  (repeat (first|((with_reducible refine p_id ?_);first|refine s_p ?_|refine s_c (by omega) ?_)|((with_reducible refine q_id ?_);first|refine S.ld ?_|refine S.ldB ?_|refine S.ce ?_|refine S.ceB ?_|refine s_q ?_|refine s_qc (by omega) ?_)|with_reducible refine n_some ?_|rw [List.getD_cons_zero]|rw [List.getD_cons_succ]))
  rw [show ((i : Int) + 1) = ((i + 1 : Nat) : Int) by omega]
  exact hK7 (i + 1, y) _ ⟨hlt, S⟩ (by show u.fs.length - (i + 1) < u.fs.length - i; omega)
end Go.Proofs
end

section
namespace Go.Proofs

open Go.Sh

set_option maxRecDepth 100000

set_option linter.unusedSimpArgs false

set_option linter.unusedVariables false

theorem ints_set (l : List Int) (i : Nat) (x : Int) : (ints l).set i (.int .i64 x) = ints (l.set i x) := by rw [ints, ints, List.map_set]
theorem ints_get {l : List Int} {i : Nat} (hi : i < l.length) : (ints l)[i]? = some (.int .i64 l[i]) := by rw [ints, List.getElem?_map, List.getElem?_eq_getElem hi]; rfl
/-- one more has been met -/
theorem met_next {lv c : Int} {n : Nat} (h0 : 0 ≤ lv) (h1 : lv ≤ c) (h2 : c < n) : (ints (metL lv c n))[c.toNat]? = some (.int .i64 0) ∧ (ints (metL lv c n)).set c.toNat (.int .i64 1) = ints (metL lv (c + 1) n) := by
  have hl : c.toNat < (metL lv c n).length := by rw [metL_len]; omega
  refine ⟨?_, by rw [ints_set, metL_set (by omega) h1]⟩
  rw [ints_get hl, metL_at hl, if_neg (by omega)]
set_option maxHeartbeats 4000000 in
theorem c_law13_RegionOnce {u : UnD} {n : Int} {v : Value} {w : World} {r : Gh} {K : Value → World → Prop} (hr : Holds r w) (hu : UnG r v u)
    (h : ∀ w', Ext w w' → K (.bool true) w') : oCall Try.prog Try.n_law13_RegionOnce #[v, .int .i64 n] w K := by
  refine Try.ok_law13_RegionOnce ?_
  unfold Try.F_law13_RegionOnce
  have hu0 := hu
  obtain ⟨p0, cap0, vf, rfl, _, _, hst, hsl, hfn⟩ := hu
  obtain ⟨qf, capf, rfl, _, _⟩ := hfn.sl.shape
  have hfl : u.fs.length ≤ 9223372036854775807 := hfn.few
  have S := St.start hr
  refine S.box fun b2 w1 S => ?_
  have S : StX noX w r w1 [.cell b2 [.slice p0 u.ss.length cap0, .slice qf u.fs.length capf, .int .i64 u.mn] 43] := S
  refine S.ldB (b := b2) ?_ rfl
  refine c_law13_fits S.holds hu0 fun x w2 e2 => ?_
  have S := S.go e2
  ((with_reducible refine p_id ?_);first|refine s_p ?_|refine s_c (by omega) ?_)
  refine c_b (fun _ => c_law13_awake fun w3 e3 => h _ (S.go e3).ext) (fun _ => ?_)
  refine S.ldB (b := b2) ?_ rfl
  refine c_region_Of S.holds hu0 fun v4 s w4 e4 n4 h4 => ?_
  obtain ⟨S, d4, a4⟩ := S.tell e4 n4
  obtain ⟨rd, e, hA⟩ : ∃ rd e, fewT (allT u n (-1)) = (rd, e) := ⟨_, _, rfl⟩
  rw [hA] at h4 ⊢
  have h40 := h4
  obtain ⟨q1, c1, q2, c2, rfl, g1, g2⟩ := h4.shape
  have g1 : SlG 5 s (TyC s) (.slice q1 rd.tys.length c1) rd.tys := g1
  have g2 : SlG 1 s IntC (.slice q2 rd.at'.length c2) rd.at' := g2
  (repeat (first | refine s_p ?_ | refine s_c (by omega) ?_))
  refine S.al fun b5 w5 S => ?_
  refine S.stB (b := b5) fun w6 S => ?_
  ((with_reducible refine p_id ?_);first|refine s_p ?_|refine s_c (by omega) ?_)
  refine c_if (fun hne => ?_) (fun heq => ?_)
  · have hz : rd = zeroRg := by have := few_no (x := allT u n (-1)) (by rw [hA]; exact hne); rw [hA] at this; exact this
    subst hz
    have hX : decide (e = 2) = ((!mayU u || decide (n < 0)) || decide ((u.fs.length : Int) ≤ n)) := by
      cases hc : isU u n (-1) with
      | false =>
        have he : e = 2 := by rw [isU_no hc] at hA; cases hA; rfl
        rw [decide_eq_true he]
        rw [isU] at hc
        cases hm : mayU u with
        | false => rfl
        | true =>
          rw [hm] at hc
          by_cases h0 : n < 0
          · rw [decide_eq_true h0]; rfl
          by_cases h1 : (u.fs.length : Int) ≤ n
          · rw [decide_eq_true h1, Bool.or_true]
          have hlt : n.toNat < u.fs.length := by omega
          rw [decide_eq_true (show 0 ≤ n by omega), decide_eq_true (show n < u.fs.length by omega), List.getElem?_eq_getElem hlt, decide_eq_true (show (-1 : Int) < ((some u.fs[n.toNat]).map fun g => (g.pts.length : Int)).getD 0 by show (-1 : Int) < ((u.fs[n.toNat].pts.length : Nat) : Int); omega)] at hc
          cases hc
      | true =>
        obtain ⟨hM, hn0, hlt, _, hT⟩ := isU_spec hc
        have hm := mayU_iff.2 hM
        have he : e = 5 := by
          rw [hT, fewT] at hA
          simp only [if_true] at hA
          split at hA
          · cases hA; rfl
          · exact absurd (Prod.mk.inj hA).2.symm hne
        rw [he, hm, decide_eq_false (show ¬ n < 0 by omega), decide_eq_false (show ¬ (u.fs.length : Int) ≤ n by omega)]; rfl
    (repeat (first|((with_reducible refine p_id ?_);first|refine s_p ?_|refine s_c (by omega) ?_)|((with_reducible refine q_id ?_);first|refine S.ld ?_|refine S.ldB ?_|refine S.ce ?_|refine S.ceB ?_|refine s_q ?_|refine s_qc (by omega) ?_)|with_reducible refine n_some ?_|rw [List.getD_cons_zero]|rw [List.getD_cons_succ]))
    refine j_bandH (c := true) (fun _ K2 hK2 => by (repeat (first|((with_reducible refine p_id ?_);first|refine s_p ?_|refine s_c (by omega) ?_)|((with_reducible refine q_id ?_);first|refine S.ld ?_|refine S.ldB ?_|refine S.ce ?_|refine S.ceB ?_|refine s_q ?_|refine s_qc (by omega) ?_)|with_reducible refine n_some ?_|rw [List.getD_cons_zero]|rw [List.getD_cons_succ])); exact hK2) ?_
    rw [show (decide (zeroRg.ct = 0) && true) = true from rfl]
    refine j_intro (fun s w' => s = [.bool (decide (e = 2)), .bool (!mayU u)] ∧ Ext w6 w') (fun K11 hK11 => ?_) ?_
    · refine g_TT ?_
      ((with_reducible refine p_id ?_);first|refine s_p ?_|refine s_c (by omega) ?_)
      refine S.ldB (b := b2) ?_ rfl
      refine c_graph_May S.holds hu0.up fun w7 e7 => ?_
      ((with_reducible refine p_id ?_);first|refine s_p ?_|refine s_c (by omega) ?_)
      exact hK11 _ _ ⟨rfl, e7⟩
    rintro _ w7 ⟨rfl, e7⟩ d7
    have S := S.go e7
    rw [hX]
    have fin : ∀ {X : Bool}, X = true → (∀ K8 : Value → World → Prop, (K8 (.bool true) w7 → K8 (.bool X) w7)) := fun hx K8 h => by rw [hx]; exact h
    have last : ∀ {w9 : World} {K8 : Value → World → Prop}, Ext w7 w9 → (∀ w', Ext w9 w' → K8 (.bool true) w') → oCall Try.prog Try.n_law13_awake #[] w9 K8 := fun _ hk => c_law13_awake hk
    simp only [List.getD_cons_zero, List.getD_cons_succ]
    cases hm : mayU u with
    | false =>
      rw [hm] at hX
      rw [Bool.not_false]
      (intro K9 hK9; (repeat (first|(first|((with_reducible refine p_id ?_);first|refine s_p ?_|refine s_c (by omega) ?_)|((with_reducible refine q_id ?_);first|refine S.ld ?_|refine S.ldB ?_|refine S.ce ?_|refine S.ceB ?_|refine s_q ?_|refine s_qc (by omega) ?_)|with_reducible refine n_some ?_|rw [List.getD_cons_zero]|rw [List.getD_cons_succ])|with_reducible refine g_TT ?_|with_reducible refine g_FF ?_|with_reducible refine g_TF ?_|with_reducible refine g_FT ?_|with_reducible refine g_UU ?_|with_reducible refine k_pickT ?_|with_reducible refine k_pickF ?_)); refine hK9 _ _ fun _ => ?_; clear hK9 K9)
      (intro K9 hK9; (repeat (first|(first|((with_reducible refine p_id ?_);first|refine s_p ?_|refine s_c (by omega) ?_)|((with_reducible refine q_id ?_);first|refine S.ld ?_|refine S.ldB ?_|refine S.ce ?_|refine S.ceB ?_|refine s_q ?_|refine s_qc (by omega) ?_)|with_reducible refine n_some ?_|rw [List.getD_cons_zero]|rw [List.getD_cons_succ])|with_reducible refine g_TT ?_|with_reducible refine g_FF ?_|with_reducible refine g_TF ?_|with_reducible refine g_FT ?_|with_reducible refine g_UU ?_|with_reducible refine k_pickT ?_|with_reducible refine k_pickF ?_)); refine hK9 _ _ fun _ => ?_; clear hK9 K9)
      (intro K9 hK9; (repeat (first|(first|((with_reducible refine p_id ?_);first|refine s_p ?_|refine s_c (by omega) ?_)|((with_reducible refine q_id ?_);first|refine S.ld ?_|refine S.ldB ?_|refine S.ce ?_|refine S.ceB ?_|refine s_q ?_|refine s_qc (by omega) ?_)|with_reducible refine n_some ?_|rw [List.getD_cons_zero]|rw [List.getD_cons_succ])|with_reducible refine g_TT ?_|with_reducible refine g_FF ?_|with_reducible refine g_TF ?_|with_reducible refine g_FT ?_|with_reducible refine g_UU ?_|with_reducible refine k_pickT ?_|with_reducible refine k_pickF ?_)); refine hK9 _ _ fun _ => ?_; clear hK9 K9)
      (intro K9 hK9; (repeat (first|(first|((with_reducible refine p_id ?_);first|refine s_p ?_|refine s_c (by omega) ?_)|((with_reducible refine q_id ?_);first|refine S.ld ?_|refine S.ldB ?_|refine S.ce ?_|refine S.ceB ?_|refine s_q ?_|refine s_qc (by omega) ?_)|with_reducible refine n_some ?_|rw [List.getD_cons_zero]|rw [List.getD_cons_succ])|with_reducible refine g_TT ?_|with_reducible refine g_FF ?_|with_reducible refine g_TF ?_|with_reducible refine g_FT ?_|with_reducible refine g_UU ?_|with_reducible refine k_pickT ?_|with_reducible refine k_pickF ?_)); refine hK9 _ _ fun _ => ?_; clear hK9 K9)
      simp only [List.getD_cons_zero]
      refine k_pickT ?_
      refine j_bandE (c := true) (fun _ K2 hK2 => c_law13_awake fun w8 e8 => hK2 _ e8) fun w8 e8 => ?_
      have := h _ (S.go e8).ext
      simpa using this
    | true =>
      rw [hm] at hX
      rw [Bool.not_true]
      refine j_intro (fun s w' => s = [.bool (decide (n < 0))] ∧ w' = w7) (fun K16 hK16 => ?_) ?_
      · refine g_FF ?_
        (repeat (first|((with_reducible refine p_id ?_);first|refine s_p ?_|refine s_c (by omega) ?_)|((with_reducible refine q_id ?_);first|refine S.ld ?_|refine S.ldB ?_|refine S.ce ?_|refine S.ceB ?_|refine s_q ?_|refine s_qc (by omega) ?_)|with_reducible refine n_some ?_|rw [List.getD_cons_zero]|rw [List.getD_cons_succ]))
        exact hK16 _ _ ⟨rfl, rfl⟩
      rintro _ w7 ⟨rfl, rfl⟩ d8
      by_cases h0 : n < 0
      · rw [decide_eq_true h0]
        (intro K9 hK9; (repeat (first|(first|((with_reducible refine p_id ?_);first|refine s_p ?_|refine s_c (by omega) ?_)|((with_reducible refine q_id ?_);first|refine S.ld ?_|refine S.ldB ?_|refine S.ce ?_|refine S.ceB ?_|refine s_q ?_|refine s_qc (by omega) ?_)|with_reducible refine n_some ?_|rw [List.getD_cons_zero]|rw [List.getD_cons_succ])|with_reducible refine g_TT ?_|with_reducible refine g_FF ?_|with_reducible refine g_TF ?_|with_reducible refine g_FT ?_|with_reducible refine g_UU ?_|with_reducible refine k_pickT ?_|with_reducible refine k_pickF ?_)); refine hK9 _ _ fun _ => ?_; clear hK9 K9)
        (intro K9 hK9; (repeat (first|(first|((with_reducible refine p_id ?_);first|refine s_p ?_|refine s_c (by omega) ?_)|((with_reducible refine q_id ?_);first|refine S.ld ?_|refine S.ldB ?_|refine S.ce ?_|refine S.ceB ?_|refine s_q ?_|refine s_qc (by omega) ?_)|with_reducible refine n_some ?_|rw [List.getD_cons_zero]|rw [List.getD_cons_succ])|with_reducible refine g_TT ?_|with_reducible refine g_FF ?_|with_reducible refine g_TF ?_|with_reducible refine g_FT ?_|with_reducible refine g_UU ?_|with_reducible refine k_pickT ?_|with_reducible refine k_pickF ?_)); refine hK9 _ _ fun _ => ?_; clear hK9 K9)
        (intro K9 hK9; (repeat (first|(first|((with_reducible refine p_id ?_);first|refine s_p ?_|refine s_c (by omega) ?_)|((with_reducible refine q_id ?_);first|refine S.ld ?_|refine S.ldB ?_|refine S.ce ?_|refine S.ceB ?_|refine s_q ?_|refine s_qc (by omega) ?_)|with_reducible refine n_some ?_|rw [List.getD_cons_zero]|rw [List.getD_cons_succ])|with_reducible refine g_TT ?_|with_reducible refine g_FF ?_|with_reducible refine g_TF ?_|with_reducible refine g_FT ?_|with_reducible refine g_UU ?_|with_reducible refine k_pickT ?_|with_reducible refine k_pickF ?_)); refine hK9 _ _ fun _ => ?_; clear hK9 K9)
        simp only [List.getD_cons_zero]
        refine k_pickT ?_
        refine j_bandE (c := true) (fun _ K2 hK2 => c_law13_awake fun w8 e8 => hK2 _ e8) fun w8 e8 => ?_
        have := h _ (S.go e8).ext
        simpa using this
      · rw [decide_eq_false h0]
        (intro K9 hK9; (repeat (first|(first|((with_reducible refine p_id ?_);first|refine s_p ?_|refine s_c (by omega) ?_)|((with_reducible refine q_id ?_);first|refine S.ld ?_|refine S.ldB ?_|refine S.ce ?_|refine S.ceB ?_|refine s_q ?_|refine s_qc (by omega) ?_)|with_reducible refine n_some ?_|rw [List.getD_cons_zero]|rw [List.getD_cons_succ])|with_reducible refine g_TT ?_|with_reducible refine g_FF ?_|with_reducible refine g_TF ?_|with_reducible refine g_FT ?_|with_reducible refine g_UU ?_|with_reducible refine k_pickT ?_|with_reducible refine k_pickF ?_)); refine hK9 _ _ fun _ => ?_; clear hK9 K9)
        refine j_intro (fun s w' => s = [.bool (decide ((u.fs.length : Int) ≤ n))] ∧ w' = w7) (fun K16 hK16 => ?_) ?_
        · refine g_FF ?_
          (repeat (first|((with_reducible refine p_id ?_);first|refine s_p ?_|refine s_c (by omega) ?_)|((with_reducible refine q_id ?_);first|refine S.ld ?_|refine S.ldB ?_|refine S.ce ?_|refine S.ceB ?_|refine s_q ?_|refine s_qc (by omega) ?_)|with_reducible refine n_some ?_|rw [List.getD_cons_zero]|rw [List.getD_cons_succ]))
          exact hK16 _ _ ⟨rfl, rfl⟩
        rintro _ w7 ⟨rfl, rfl⟩ d9
        (intro K9 hK9; (repeat (first|(first|((with_reducible refine p_id ?_);first|refine s_p ?_|refine s_c (by omega) ?_)|((with_reducible refine q_id ?_);first|refine S.ld ?_|refine S.ldB ?_|refine S.ce ?_|refine S.ceB ?_|refine s_q ?_|refine s_qc (by omega) ?_)|with_reducible refine n_some ?_|rw [List.getD_cons_zero]|rw [List.getD_cons_succ])|with_reducible refine g_TT ?_|with_reducible refine g_FF ?_|with_reducible refine g_TF ?_|with_reducible refine g_FT ?_|with_reducible refine g_UU ?_|with_reducible refine k_pickT ?_|with_reducible refine k_pickF ?_)); refine hK9 _ _ fun _ => ?_; clear hK9 K9)
        simp only [List.getD_cons_zero]
        refine k_pickT ?_
        refine j_bandE (c := true) (fun _ K2 hK2 => c_law13_awake fun w8 e8 => hK2 _ e8) fun w8 e8 => ?_
        have := h _ (S.go e8).ext
        simpa using this
  -- it is numbered
  have heq : e = 0 := by omega
  subst heq
  obtain ⟨ha0, ha1, hct⟩ := few_ok (x := allT u n (-1)) (by rw [hA])
  rw [hA] at ha1
  have ha1 : rd = (allT u n (-1)).1 := ha1
  cases hc : isU u n (-1) with
  | false => rw [isU_no hc] at ha0; cases ha0
  | true =>
  obtain ⟨hM, hn0, hlt, _, hT⟩ := isU_spec hc
  rw [hT] at ha1 hct
  have ha1 : rd = allD u u.fs[n.toNat] := ha1
  subst ha1
  have hct : (allD u u.fs[n.toNat]).ct ≤ 512 := hct
  have hm := mayU_iff.2 hM
  have hH := hM.hd hlt
  have hfin := hH.fine hM.ok
  have hptN := fun p hp => hM.ptN (List.getElem_mem hlt) (p := p) hp
  have hpts := hM.pts _ (List.getElem_mem hlt)
  obtain ⟨bf, of, cf, rfl, hcf, hgc, hfo⟩ := hfn.sl.get (by decide) hlt
  clear hA hT h40
  refine S.ldB (b := b2) ?_ rfl
  refine c_graph_May S.holds hu0.up fun w7 e7 => ?_
  have S := S.go e7
  rw [hm]
  ((with_reducible refine p_id ?_);first|refine s_p ?_|refine s_c (by omega) ?_)
  refine j_borH (c := decide (n < 0)) (fun _ K2 hK2 => by (repeat (first|((with_reducible refine p_id ?_);first|refine s_p ?_|refine s_c (by omega) ?_)|((with_reducible refine q_id ?_);first|refine S.ld ?_|refine S.ldB ?_|refine S.ce ?_|refine S.ceB ?_|refine s_q ?_|refine s_qc (by omega) ?_)|with_reducible refine n_some ?_|rw [List.getD_cons_zero]|rw [List.getD_cons_succ])); exact hK2) ?_
  refine j_borH (c := decide ((u.fs.length : Int) ≤ n)) (fun _ K2 hK2 => by (repeat (first|((with_reducible refine p_id ?_);first|refine s_p ?_|refine s_c (by omega) ?_)|((with_reducible refine q_id ?_);first|refine S.ld ?_|refine S.ldB ?_|refine S.ce ?_|refine S.ceB ?_|refine s_q ?_|refine s_qc (by omega) ?_)|with_reducible refine n_some ?_|rw [List.getD_cons_zero]|rw [List.getD_cons_succ])); exact hK2) ?_
  refine c_f (by rw [decide_eq_false (show ¬ n < 0 by omega), decide_eq_false (show ¬ (u.fs.length : Int) ≤ n by omega)]; rfl) ?_
  generalize u.fs[n.toNat] = g at h4 g1 g2 hct hH hfin hptN hpts hgc S ⊢
  obtain ⟨vo, vt, vn, vp, rfl, h1, h2, h3, hp4⟩ := id hgc
  obtain ⟨qo, capo, rfl, _, _⟩ := h1.sl.shape
  obtain ⟨qt, capt, rfl, _, hct2⟩ := h2.sl.shape
  obtain ⟨qn, capn, rfl, _, _⟩ := h3.sl.shape
  obtain ⟨qp, capp, rfl, _, _⟩ := hp4.sl.shape
  obtain ⟨hlv0, hlv8, hpn0, _, hpn1, hty, _, htys, hp1, hp1024, _, _, _⟩ := hH
  (repeat (first|((with_reducible refine p_id ?_);first|refine s_p ?_|refine s_c (by omega) ?_)|((with_reducible refine q_id ?_);first|refine S.ld ?_|refine S.ldB ?_|refine S.ce ?_|refine S.ceB ?_|refine s_q ?_|refine s_qc (by omega) ?_)|with_reducible refine n_some ?_|rw [List.getD_cons_zero]|rw [List.getD_cons_succ]))
  refine s_ldN (n := 7) hcf (fun j v hj => S.at (hfo j v hj)) ?_
  refine S.al fun b7 w8 S => ?_
  refine S.stB (b := b7) fun w9 S => ?_
  -- names for what has been numbered
  have hloc := locC_pos g.tys
  have hdl : (allD u g).tys.length = g.tys.length := allD_len.1
  have hdp : (allD u g).at'.length = g.pts.length := allD_len.2
  have hat0 := atC_part (u := u) (l := g.pts) (fun p hp => (hptN p hp).1) g.pts.length
  rw [List.take_length] at hat0
  have hdlv : (allD u g).lv = g.lv := rfl
  have hdpt : (allD u g).pt = g.pts.length := rfl
  have hdct : (allD u g).ct = g.lv + locC g.tys + atC u g.pts := rfl
  have hdat : ∀ (i : Nat) (hi : i < g.pts.length), (allD u g).at'[i]'(by rw [hdp]; exact hi) = if ptN u g.pts[i] = 0 then -1 else g.lv + locC g.tys + atC u (g.pts.take i) := fun i hi => atK_at hi
  have hdty : ∀ (i : Nat) (hi : i < g.tys.length), (allD u g).tys[i]'(by rw [hdl]; exact hi) = g.tys[i].lay (numK (regsT g.tys[i]) (g.lv + locC (g.tys.take i))) := fun i hi => locK_at hi
  rw [hdlv, hdpt, hdl, hdp] at S
  rw [hdl] at g1
  rw [hdp] at g2
  generalize allD u g = rd at *
  have g1 : SlG 5 s (TyC s) (.slice q1 g.tys.length c1) rd.tys := g1
  have g2 : SlG 1 s IntC (.slice q2 g.pts.length c2) rd.at' := g2
  generalize hcte : rd.ct = ct at *
  obtain ⟨N, hN⟩ : ∃ N : Nat, ct.toNat = N := ⟨_, rfl⟩
  have hNc : (N : Int) = ct := by omega
  (repeat (first|((with_reducible refine p_id ?_);first|refine s_p ?_|refine s_c (by omega) ?_)|((with_reducible refine q_id ?_);first|refine S.ld ?_|refine S.ldB ?_|refine S.ce ?_|refine S.ceB ?_|refine s_q ?_|refine s_qc (by omega) ?_)|with_reducible refine n_some ?_|rw [List.getD_cons_zero]|rw [List.getD_cons_succ]))
  refine j_borH (c := false) (fun _ K2 hK2 => by (repeat (first|((with_reducible refine p_id ?_);first|refine s_p ?_|refine s_c (by omega) ?_)|((with_reducible refine q_id ?_);first|refine S.ld ?_|refine S.ldB ?_|refine S.ce ?_|refine S.ceB ?_|refine s_q ?_|refine s_qc (by omega) ?_)|with_reducible refine n_some ?_|rw [List.getD_cons_zero]|rw [List.getD_cons_succ])); simpa using hK2) ?_
  refine j_borH (c := false) (fun _ K2 hK2 => by (repeat (first|((with_reducible refine p_id ?_);first|refine s_p ?_|refine s_c (by omega) ?_)|((with_reducible refine q_id ?_);first|refine S.ld ?_|refine S.ldB ?_|refine S.ce ?_|refine S.ceB ?_|refine s_q ?_|refine s_qc (by omega) ?_)|with_reducible refine n_some ?_|rw [List.getD_cons_zero]|rw [List.getD_cons_succ])); rw [decide_eq_false (show ¬ ct < 0 by omega)]; exact hK2) ?_
  refine j_borH (c := false) (fun _ K2 hK2 => by (repeat (first|((with_reducible refine p_id ?_);first|refine s_p ?_|refine s_c (by omega) ?_)|((with_reducible refine q_id ?_);first|refine S.ld ?_|refine S.ldB ?_|refine S.ce ?_|refine S.ceB ?_|refine s_q ?_|refine s_qc (by omega) ?_)|with_reducible refine n_some ?_|rw [List.getD_cons_zero]|rw [List.getD_cons_succ])); rw [decide_eq_false (show ¬ 512 < ct by omega)]; exact hK2) ?_
  refine j_borH (c := false) (fun _ K2 hK2 => by (repeat (first|((with_reducible refine p_id ?_);first|refine s_p ?_|refine s_c (by omega) ?_)|((with_reducible refine q_id ?_);first|refine S.ld ?_|refine S.ldB ?_|refine S.ce ?_|refine S.ceB ?_|refine s_q ?_|refine s_qc (by omega) ?_)|with_reducible refine n_some ?_|rw [List.getD_cons_zero]|rw [List.getD_cons_succ])); simpa using hK2) ?_
  refine c_f (by simp) ?_
  (repeat (first|((with_reducible refine p_id ?_);first|refine s_p ?_|refine s_c (by omega) ?_)|((with_reducible refine q_id ?_);first|refine S.ld ?_|refine S.ldB ?_|refine S.ce ?_|refine S.ceB ?_|refine s_q ?_|refine s_qc (by omega) ?_)|with_reducible refine n_some ?_|rw [List.getD_cons_zero]|rw [List.getD_cons_succ]))
  refine S.mkS (by omega) (by omega) fun bm w10 S => ?_
  rw [hN] at *
  have S : StX noX w (r.or s) w10 [.cell bm (ints (metL g.lv g.lv N)) 3, .cell b7 [.string g.name, .int .i64 g.lv, .slice qo g.outs.length capo, .int .i64 g.pn, .slice qt g.tys.length capt, .slice qn g.nms.length capn, .slice qp g.pts.length capp] 53,
    .cell b5 (rgL g.lv g.pts.length ct (.slice q1 g.tys.length c1) (.slice q2 g.pts.length c2)) 46, .cell b2 [.slice p0 u.ss.length cap0, .slice (some ⟨bf, of, none⟩) u.fs.length capf, .int .i64 u.mn] 43] := by
    rw [metL_none]
    have e : ints (List.replicate N 0) = List.replicate N (.int .i64 0) := by rw [ints, List.map_replicate]
    rw [e]; exact S
  have hml : ∀ c, (ints (metL g.lv c N)).length = N := fun c => by rw [ints_len, metL_len]
  refine l_intro (ι := Nat) (fun i => [.int .i64 (i : Nat)]) (fun i w' => i ≤ g.tys.length ∧ StX noX w (r.or s) w' [.cell bm (ints (metL g.lv (g.lv + locC (g.tys.take i)) N)) 3, .cell b7 [.string g.name, .int .i64 g.lv, .slice qo g.outs.length capo, .int .i64 g.pn, .slice qt g.tys.length capt, .slice qn g.nms.length capn, .slice qp g.pts.length capp] 53,
    .cell b5 (rgL g.lv g.pts.length ct (.slice q1 g.tys.length c1) (.slice q2 g.pts.length c2)) 46, .cell b2 [.slice p0 u.ss.length cap0, .slice (some ⟨bf, of, none⟩) u.fs.length capf, .int .i64 u.mn] 43]) (fun i => g.tys.length - i) 0 rfl ⟨Nat.zero_le _, by
      rw [List.take_zero, show g.lv + locC [] = g.lv by simp [locC]]; exact S⟩ ?_
  clear S
  rintro i d w11 ⟨hi, S⟩ K6 hK6
  rw [List.getD_cons_zero]
  (repeat (first|((with_reducible refine p_id ?_);first|refine s_p ?_|refine s_c (by omega) ?_)|((with_reducible refine q_id ?_);first|refine S.ld ?_|refine S.ldB ?_|refine S.ce ?_|refine S.ceB ?_|refine s_q ?_|refine s_qc (by omega) ?_)|with_reducible refine n_some ?_|rw [List.getD_cons_zero]|rw [List.getD_cons_succ]))
  refine c_if (fun hlt2 => ?_) (fun hge => ?_)
  · have hlt2 : i < g.tys.length := by omega
    obtain ⟨bt, ot, ct', rfl, hct', htc, hcell⟩ := h2.sl.get (by decide) hlt2
    obtain ⟨q3, c3, rfl, ht3⟩ := ty_form htc
    obtain ⟨bd, od, cd, rfl, hcd, hdc, hdcell⟩ := g1.get (by decide) (show i < rd.tys.length by omega)
    rw [hdty i hlt2] at hdc
    have hfi : Fine u.ss g.tys[i] := hfin.all _ (List.getElem_mem hlt2)
    have hB := hfi.is hfin.few
    have hl0 := locC_pos (g.tys.take i)
    have hl1 := locC_part g.tys (i + 1)
    rw [locC_take hlt2] at hl1
    have hrT : regsT g.tys[i] = g.tys[i].regs := by rw [regsT, hB]; rfl
    have h48 := regs_le48 hB
    have htk := locC_take hlt2
    rw [hrT] at hdc htk hl1
    generalize hb0 : g.lv + locC (g.tys.take i) = base at S hdc
    obtain ⟨q4, c4, rfl, ht4⟩ := ty_form hdc
    have hkl : (numK g.tys[i].regs base).length = g.tys[i].regs.length := numK_len _ _
    have hlow : ∀ x ∈ numK g.tys[i].regs base, -1 ≤ x := fun x hx => by
      obtain ⟨j, hj, rfl⟩ := List.getElem_of_mem hx
      rw [numK_len] at hj
      rw [numK_at hj]
      have := (numC_le (g.tys[i].regs.take j)).1
      split <;> omega
    have hrl : (g.tys[i].lay (numK g.tys[i].regs base)).regs = numK g.tys[i].regs base := lay_regs_len 48 hB hkl
    have hBl : isB (g.tys[i].lay (numK g.tys[i].regs base)) = true := look_lay 48 hB (by omega) hlow
    have hrT2 : regsT (g.tys[i].lay (numK g.tys[i].regs base)) = numK g.tys[i].regs base := by rw [regsT, hBl, if_pos rfl, hrl]
    have hal : alikeT fAll g.tys[i] (g.tys[i].lay (numK g.tys[i].regs base)) = true := by
      rw [alikeT, hB, hBl]
      rw [lay_alike 48 hB]; rfl
    have S := S.go (Ext.drew _)
    (repeat (first|((with_reducible refine p_id ?_);first|refine s_p ?_|refine s_c (by omega) ?_)|((with_reducible refine q_id ?_);first|refine S.ld ?_|refine S.ldB ?_|refine S.ce ?_|refine S.ceB ?_|refine s_q ?_|refine s_qc (by omega) ?_)|with_reducible refine n_some ?_|rw [List.getD_cons_zero]|rw [List.getD_cons_succ]))
    refine s_ldN (n := 5) hct' (fun j v hj => by rw [Int.toNat_natCast]; exact S.at (hcell j v hj)) ?_
    (repeat (first|((with_reducible refine p_id ?_);first|refine s_p ?_|refine s_c (by omega) ?_)|((with_reducible refine q_id ?_);first|refine S.ld ?_|refine S.ldB ?_|refine S.ce ?_|refine S.ceB ?_|refine s_q ?_|refine s_qc (by omega) ?_)|with_reducible refine n_some ?_|rw [List.getD_cons_zero]|rw [List.getD_cons_succ]))
    refine s_ldN (n := 5) hcd (fun j v hj => by rw [Int.toNat_natCast]; exact S.at (hdcell j v hj)) ?_
    refine c_types_Regions S.holds ht3.up fun v12 w12 e12 o12 => ⟨e12, ?_⟩
    obtain ⟨s12, p12, cp12, n12, nb12, rfl, _, _, hs12⟩ := row_gh o12
    have S := S.new e12 n12
    refine c_types_Regions S.holds ht4.up fun v13 w13 e13 o13 => ?_
    obtain ⟨s13, p13, cp13, n13, nb13, rfl, _, _, hs13⟩ := row_gh o13
    have S := S.new e13 n13
    rw [hrT] at hs12 ⊢
    rw [hrT2] at hs13 ⊢
    have S := S.go (Ext.drew _)
    (repeat (first|((with_reducible refine p_id ?_);first|refine s_p ?_|refine s_c (by omega) ?_)|((with_reducible refine q_id ?_);first|refine S.ld ?_|refine S.ldB ?_|refine S.ce ?_|refine S.ceB ?_|refine s_q ?_|refine s_qc (by omega) ?_)|with_reducible refine n_some ?_|rw [List.getD_cons_zero]|rw [List.getD_cons_succ]))
    refine s_ldN (n := 5) hct' (fun j v hj => by rw [Int.toNat_natCast]; exact S.at (hcell j v hj)) ?_
    (repeat (first|((with_reducible refine p_id ?_);first|refine s_p ?_|refine s_c (by omega) ?_)|((with_reducible refine q_id ?_);first|refine S.ld ?_|refine S.ldB ?_|refine S.ce ?_|refine S.ceB ?_|refine s_q ?_|refine s_qc (by omega) ?_)|with_reducible refine n_some ?_|rw [List.getD_cons_zero]|rw [List.getD_cons_succ]))
    refine s_ldN (n := 5) hcd (fun j v hj => by rw [Int.toNat_natCast]; exact S.at (hdcell j v hj)) ?_
    refine c_types_Alike S.holds ht3.up ht4.up fun w14 e14 => ?_
    have S := S.go e14
    rw [hal]
    ((with_reducible refine p_id ?_);first|refine s_p ?_|refine s_c (by omega) ?_)
    refine j_borH (c := false) (fun _ K2 hK2 => by (repeat (first|((with_reducible refine p_id ?_);first|refine s_p ?_|refine s_c (by omega) ?_)|((with_reducible refine q_id ?_);first|refine S.ld ?_|refine S.ldB ?_|refine S.ce ?_|refine S.ceB ?_|refine s_q ?_|refine s_qc (by omega) ?_)|with_reducible refine n_some ?_|rw [List.getD_cons_zero]|rw [List.getD_cons_succ])); rw [hkl]; simpa using hK2) ?_
    refine c_f rfl ?_
    refine l_intro (ι := Nat) (fun k => [.int .i64 (k : Nat)]) (fun k w' => k ≤ g.tys[i].regs.length ∧ StX noX w (((r.or s).or s12).or s13) w' [.cell bm (ints (metL g.lv (base + numC (g.tys[i].regs.take k)) N)) 3, .cell b7 [.string g.name, .int .i64 g.lv, .slice qo g.outs.length capo, .int .i64 g.pn, .slice (some ⟨bt, ot, none⟩) g.tys.length capt, .slice qn g.nms.length capn, .slice qp g.pts.length capp] 53,
      .cell b5 (rgL g.lv g.pts.length ct (.slice (some ⟨bd, od, none⟩) g.tys.length c1) (.slice q2 g.pts.length c2)) 46, .cell b2 [.slice p0 u.ss.length cap0, .slice (some ⟨bf, of, none⟩) u.fs.length capf, .int .i64 u.mn] 43]) (fun k => g.tys[i].regs.length - k) 0 rfl ⟨Nat.zero_le _, by
        rw [List.take_zero, show base + numC [] = base by simp [numC]]; exact S⟩ ?_
    clear S
    rintro k d w15 ⟨hk, S⟩ K7 hK7
    rw [List.getD_cons_zero]
    (repeat (first|((with_reducible refine p_id ?_);first|refine s_p ?_|refine s_c (by omega) ?_)|((with_reducible refine q_id ?_);first|refine S.ld ?_|refine S.ldB ?_|refine S.ce ?_|refine S.ceB ?_|refine s_q ?_|refine s_qc (by omega) ?_)|with_reducible refine n_some ?_|rw [List.getD_cons_zero]|rw [List.getD_cons_succ]))
    rw [hkl]
    refine c_if (fun hlt3 => ?_) (fun hge => ?_)
    · have hlt3 : k < g.tys[i].regs.length := by omega
      obtain ⟨bx, ox, rfl, hx⟩ := ob_at hs12 (S.holds.le (h := inferInstance)) hlt3
      obtain ⟨by', oy, rfl, hy⟩ := ob_at hs13 (S.holds.le (h := inferInstance)) (i := k) (by omega)
      rw [numK_at hlt3] at hy
      have hnk := numC_take hlt3
      have hn0 := (numC_le (g.tys[i].regs.take k)).1
      have hn1 := numC_part g.tys[i].regs (k + 1)
      refine j_intro (fun _ w' => StX noX w (((r.or s).or s12).or s13) w' [.cell bm (ints (metL g.lv (base + numC (g.tys[i].regs.take (k + 1))) N)) 3, .cell b7 [.string g.name, .int .i64 g.lv, .slice qo g.outs.length capo, .int .i64 g.pn, .slice (some ⟨bt, ot, none⟩) g.tys.length capt, .slice qn g.nms.length capn, .slice qp g.pts.length capp] 53,
        .cell b5 (rgL g.lv g.pts.length ct (.slice (some ⟨bd, od, none⟩) g.tys.length c1) (.slice q2 g.pts.length c2)) 46, .cell b2 [.slice p0 u.ss.length cap0, .slice (some ⟨bf, of, none⟩) u.fs.length capf, .int .i64 u.mn] 43]) (fun K80 hK80 => ?_) ?_
      rotate_left
      · clear S
        rintro _ w16 S d16
        (repeat (first|((with_reducible refine p_id ?_);first|refine s_p ?_|refine s_c (by omega) ?_)|((with_reducible refine q_id ?_);first|refine S.ld ?_|refine S.ldB ?_|refine S.ce ?_|refine S.ceB ?_|refine s_q ?_|refine s_qc (by omega) ?_)|with_reducible refine n_some ?_|rw [List.getD_cons_zero]|rw [List.getD_cons_succ]))
        rw [show ((k : Int) + 1) = ((k + 1 : Nat) : Int) by omega]
        exact hK7 (k + 1) _ ⟨hlt3, S⟩ (by omega)
      (repeat (first|((with_reducible refine p_id ?_);first|refine s_p ?_|refine s_c (by omega) ?_)|((with_reducible refine q_id ?_);first|refine S.ld ?_|refine S.ldB ?_|refine S.ce ?_|refine S.ceB ?_|refine s_q ?_|refine s_qc (by omega) ?_)|with_reducible refine n_some ?_|rw [List.getD_cons_zero]|rw [List.getD_cons_succ]))
      refine s_ld1 (by simpa using S.at hx) ?_
      ((with_reducible refine p_id ?_);first|refine s_p ?_|refine s_c (by omega) ?_)
      have S := S.go (Ext.drew _)
      refine c_if (fun hw => ?_) (fun hw => ?_)
      · rw [if_neg (by omega)] at hy
        rw [if_neg (by omega), Int.add_zero] at hnk
        (repeat (first|((with_reducible refine p_id ?_);first|refine s_p ?_|refine s_c (by omega) ?_)|((with_reducible refine q_id ?_);first|refine S.ld ?_|refine S.ldB ?_|refine S.ce ?_|refine S.ceB ?_|refine s_q ?_|refine s_qc (by omega) ?_)|with_reducible refine n_some ?_|rw [List.getD_cons_zero]|rw [List.getD_cons_succ]))
        refine s_ld1 (by simpa using S.at hy) ?_
        (repeat (first|((with_reducible refine p_id ?_);first|refine s_p ?_|refine s_c (by omega) ?_)|((with_reducible refine q_id ?_);first|refine S.ld ?_|refine S.ldB ?_|refine S.ce ?_|refine S.ceB ?_|refine s_q ?_|refine s_qc (by omega) ?_)|with_reducible refine n_some ?_|rw [List.getD_cons_zero]|rw [List.getD_cons_succ]))
        refine s_ld1 (by simpa using S.at hx) ?_
        ((with_reducible refine p_id ?_);first|refine s_p ?_|refine s_c (by omega) ?_)
        refine c_f (by simp) ?_
        refine hK80 [] _ ?_
        rw [hnk]; exact S
      · rw [if_pos (by omega)] at hy hnk
        have hmet := met_next (lv := g.lv) (c := base + numC (g.tys[i].regs.take k)) (n := N) hlv0 (by omega) (by omega)
        (repeat (first|((with_reducible refine p_id ?_);first|refine s_p ?_|refine s_c (by omega) ?_)|((with_reducible refine q_id ?_);first|refine S.ld ?_|refine S.ldB ?_|refine S.ce ?_|refine S.ceB ?_|refine s_q ?_|refine s_qc (by omega) ?_)|with_reducible refine n_some ?_|rw [List.getD_cons_zero]|rw [List.getD_cons_succ]))
        refine s_ld1 (by simpa using S.at hy) ?_
        (repeat (first|((with_reducible refine p_id ?_);first|refine s_p ?_|refine s_c (by omega) ?_)|((with_reducible refine q_id ?_);first|refine S.ld ?_|refine S.ldB ?_|refine S.ce ?_|refine S.ceB ?_|refine s_q ?_|refine s_qc (by omega) ?_)|with_reducible refine n_some ?_|rw [List.getD_cons_zero]|rw [List.getD_cons_succ]))
        refine j_borH (c := false) (fun _ K2 hK2 => ?_) ?_
        · (repeat (first|((with_reducible refine p_id ?_);first|refine s_p ?_|refine s_c (by omega) ?_)|((with_reducible refine q_id ?_);first|refine S.ld ?_|refine S.ldB ?_|refine S.ce ?_|refine S.ceB ?_|refine s_q ?_|refine s_qc (by omega) ?_)|with_reducible refine n_some ?_|rw [List.getD_cons_zero]|rw [List.getD_cons_succ]))
          refine s_ld1 (by simpa using S.at hy) ?_
          (repeat (first|((with_reducible refine p_id ?_);first|refine s_p ?_|refine s_c (by omega) ?_)|((with_reducible refine q_id ?_);first|refine S.ld ?_|refine S.ldB ?_|refine S.ce ?_|refine S.ceB ?_|refine s_q ?_|refine s_qc (by omega) ?_)|with_reducible refine n_some ?_|rw [List.getD_cons_zero]|rw [List.getD_cons_succ]))
          rw [decide_eq_false (show ¬ ct ≤ base + numC (g.tys[i].regs.take k) by omega)]
          exact hK2
        refine c_f (by rw [decide_eq_false (show ¬ base + numC (g.tys[i].regs.take k) < g.lv by omega)]; rfl) ?_
        (repeat (first|((with_reducible refine p_id ?_);first|refine s_p ?_|refine s_c (by omega) ?_)|((with_reducible refine q_id ?_);first|refine S.ld ?_|refine S.ldB ?_|refine S.ce ?_|refine S.ceB ?_|refine s_q ?_|refine s_qc (by omega) ?_)|with_reducible refine n_some ?_|rw [List.getD_cons_zero]|rw [List.getD_cons_succ]))
        refine s_ld1 (by simpa using S.at hy) ?_
        refine s_c (by omega) ?_
        refine S.ld (b := bm) (v := .int .i64 0) ?_ (by rw [Nat.zero_add]; exact hmet.1)
        refine s_c (by omega) ?_
        refine s_c (by omega) ?_
        refine S.st (b := bm) (fun w17 S => ?_) (by rw [hml]; omega)
        refine hK80 [] _ ?_
        rw [Nat.zero_add, show (0 : Int) + 1 = 1 from rfl, hmet.2] at S
        rw [hnk, ← Int.add_assoc]
        exact S
    · have hke : k = g.tys[i].regs.length := by omega
      rw [hke, List.take_length] at S
      (repeat (first|((with_reducible refine p_id ?_);first|refine s_p ?_|refine s_c (by omega) ?_)|((with_reducible refine q_id ?_);first|refine S.ld ?_|refine S.ldB ?_|refine S.ce ?_|refine S.ceB ?_|refine s_q ?_|refine s_qc (by omega) ?_)|with_reducible refine n_some ?_|rw [List.getD_cons_zero]|rw [List.getD_cons_succ]))
      rw [show ((i : Int) + 1) = ((i + 1 : Nat) : Int) by omega]
      refine hK6 (i + 1) _ ⟨hlt2, ?_⟩ (by omega)
      rw [htk, ← Int.add_assoc, hb0]
      exact S.to (r.or s)
  have hie : i = g.tys.length := by omega
  rw [hie, List.take_length] at S
  clear hK6 K6 hge hi hie
  generalize hbase : g.lv + locC g.tys = base at S hdat hdct
  refine l_intro (ι := Nat) (fun i => [.int .i64 (i : Nat)]) (fun i w' => i ≤ g.pts.length ∧ StX noX w (r.or s) w' [.cell bm (ints (metL g.lv (base + atC u (g.pts.take i)) N)) 3, .cell b7 [.string g.name, .int .i64 g.lv, .slice qo g.outs.length capo, .int .i64 g.pn, .slice qt g.tys.length capt, .slice qn g.nms.length capn, .slice qp g.pts.length capp] 53,
    .cell b5 (rgL g.lv g.pts.length ct (.slice q1 g.tys.length c1) (.slice q2 g.pts.length c2)) 46, .cell b2 [.slice p0 u.ss.length cap0, .slice (some ⟨bf, of, none⟩) u.fs.length capf, .int .i64 u.mn] 43]) (fun i => g.pts.length - i) 0 rfl ⟨Nat.zero_le _, by
      rw [List.take_zero, show base + atC u [] = base by simp [atC]]; exact S⟩ ?_
  clear S
  rintro i d w18 ⟨hi, S⟩ K8 hK8
  rw [List.getD_cons_zero]
  (repeat (first|((with_reducible refine p_id ?_);first|refine s_p ?_|refine s_c (by omega) ?_)|((with_reducible refine q_id ?_);first|refine S.ld ?_|refine S.ldB ?_|refine S.ce ?_|refine S.ceB ?_|refine s_q ?_|refine s_qc (by omega) ?_)|with_reducible refine n_some ?_|rw [List.getD_cons_zero]|rw [List.getD_cons_succ]))
  refine c_if (fun hlt2 => ?_) (fun hge => ?_)
  · have hlt2 : i < g.pts.length := by omega
    obtain ⟨bp, op, cp, rfl, hcp, hpc, hpo⟩ := hp4.sl.get (by decide) hlt2
    obtain ⟨x1, x2, x3, x4, x5, y1, y2, y3, y4, y5, rfl, _⟩ := pt_form hpc
    have hNi := hptN g.pts[i] (List.getElem_mem hlt2)
    have hpt := hpts g.pts[i] (List.getElem_mem hlt2)
    have htk := atC_take (u := u) hlt2
    have ha0 := atC_part (u := u) (l := g.pts) (fun p hp => (hptN p hp).1) i
    have ha1 := atC_part (u := u) (l := g.pts) (fun p hp => (hptN p hp).1) (i + 1)
    rw [htk] at ha1
    have hati := hdat i hlt2
    obtain ⟨ba, oa, rfl, hoa⟩ := ob_sl g2 (i := i) (by omega)
    rw [hati] at hoa
    have lop : Ob r fun w => w.cell? ⟨bp, op + i * 21, none⟩ = some (.int .u8 g.pts[i].op) := by simpa using hpo 0 _ rfl
    have lfn : Ob r fun w => w.cell? ⟨bp, op + i * 21 + 16, none⟩ = some (.int .i64 g.pts[i].fn) := hpo 16 _ rfl
    generalize g.pts[i] = p at hNi hpt htk ha1 hoa lop lfn
    refine j_intro (fun s w' => s = [.int .i64 (if p.op = 4 then 1 else 0)] ∧ w' = w18) (fun K9 hK9 => ?_) ?_
    · (repeat (first|((with_reducible refine p_id ?_);first|refine s_p ?_|refine s_c (by omega) ?_)|((with_reducible refine q_id ?_);first|refine S.ld ?_|refine S.ldB ?_|refine S.ce ?_|refine S.ceB ?_|refine s_q ?_|refine s_qc (by omega) ?_)|with_reducible refine n_some ?_|rw [List.getD_cons_zero]|rw [List.getD_cons_succ]))
      refine s_ld1 (by simpa using S.at lop) ?_
      (repeat (first|((with_reducible refine p_id ?_);first|refine s_p ?_|refine s_c (by omega) ?_)|((with_reducible refine q_id ?_);first|refine S.ld ?_|refine S.ldB ?_|refine S.ce ?_|refine S.ceB ?_|refine s_q ?_|refine s_qc (by omega) ?_)|with_reducible refine n_some ?_|rw [List.getD_cons_zero]|rw [List.getD_cons_succ]))
      refine c_if (fun ho => hK9 _ _ ⟨by rw [if_pos ho], rfl⟩) (fun ho => hK9 _ _ ⟨by rw [if_neg ho], rfl⟩)
    rintro _ w18 ⟨rfl, rfl⟩ d18
    refine j_intro (fun s w' => s = [.int .i64 (ptN u p)] ∧ Ext w18 w') (fun K9 hK9 => ?_) ?_
    · (repeat (first|((with_reducible refine p_id ?_);first|refine s_p ?_|refine s_c (by omega) ?_)|((with_reducible refine q_id ?_);first|refine S.ld ?_|refine S.ldB ?_|refine S.ce ?_|refine S.ceB ?_|refine s_q ?_|refine s_qc (by omega) ?_)|with_reducible refine n_some ?_|rw [List.getD_cons_zero]|rw [List.getD_cons_succ]))
      refine s_ld1 (by simpa using S.at lop) ?_
      (repeat (first|((with_reducible refine p_id ?_);first|refine s_p ?_|refine s_c (by omega) ?_)|((with_reducible refine q_id ?_);first|refine S.ld ?_|refine S.ldB ?_|refine S.ce ?_|refine S.ceB ?_|refine s_q ?_|refine s_qc (by omega) ?_)|with_reducible refine n_some ?_|rw [List.getD_cons_zero]|rw [List.getD_cons_succ]))
      refine c_if (fun ho => ?_) (fun ho => ?_)
      · have hcc := point_call hpt ho
        have hlt3 : p.fn.toNat < u.fs.length := by omega
        obtain ⟨bf2, of2, cf2, hbe, hcf2, hgc2, hfo2⟩ := hfn.sl.get (by decide) hlt3
        cases hbe
        obtain ⟨vo', vt', vn', vp', rfl, _⟩ := hgc2
        have S := S.go (Ext.drew _)
        (repeat (first|((with_reducible refine p_id ?_);first|refine s_p ?_|refine s_c (by omega) ?_)|((with_reducible refine q_id ?_);first|refine S.ld ?_|refine S.ldB ?_|refine S.ce ?_|refine S.ceB ?_|refine s_q ?_|refine s_qc (by omega) ?_)|with_reducible refine n_some ?_|rw [List.getD_cons_zero]|rw [List.getD_cons_succ]))
        refine s_ld1 (by simpa using S.at lfn) ?_
        (repeat (first|((with_reducible refine p_id ?_);first|refine s_p ?_|refine s_c (by omega) ?_)|((with_reducible refine q_id ?_);first|refine S.ld ?_|refine S.ldB ?_|refine S.ce ?_|refine S.ceB ?_|refine s_q ?_|refine s_qc (by omega) ?_)|with_reducible refine n_some ?_|rw [List.getD_cons_zero]|rw [List.getD_cons_succ]))
        refine s_ld1 (v := .int .i64 u.fs[p.fn.toNat].lv) (by simpa using S.at (hfo2 1 _ rfl)) ?_
        refine hK9 _ _ ⟨by rw [ptN, if_neg (by omega), if_pos ho, lvOf, List.getElem?_eq_getElem hlt3], Ext.drew _⟩
      · refine hK9 _ _ ⟨by rw [ptN, if_neg ho], Ext.refl _⟩
    rintro _ w19 ⟨rfl, e19⟩ d19
    have S := S.go e19
    (repeat (first|((with_reducible refine p_id ?_);first|refine s_p ?_|refine s_c (by omega) ?_)|((with_reducible refine q_id ?_);first|refine S.ld ?_|refine S.ldB ?_|refine S.ce ?_|refine S.ceB ?_|refine s_q ?_|refine s_qc (by omega) ?_)|with_reducible refine n_some ?_|rw [List.getD_cons_zero]|rw [List.getD_cons_succ]))
    refine s_ld1 (by simpa using S.at hoa) ?_
    (repeat (first|((with_reducible refine p_id ?_);first|refine s_p ?_|refine s_c (by omega) ?_)|((with_reducible refine q_id ?_);first|refine S.ld ?_|refine S.ldB ?_|refine S.ce ?_|refine S.ceB ?_|refine s_q ?_|refine s_qc (by omega) ?_)|with_reducible refine n_some ?_|rw [List.getD_cons_zero]|rw [List.getD_cons_succ]))
    have hpos : decide (0 < ptN u p) = decide (0 ≤ (if ptN u p = 0 then -1 else base + atC u (g.pts.take i))) := by
      by_cases hz : ptN u p = 0
      · rw [if_pos hz, hz]; rfl
      · rw [if_neg hz, decide_eq_true (show 0 < ptN u p by omega), decide_eq_true (show 0 ≤ base + atC u (g.pts.take i) by omega)]
    refine c_f (by
      rw [hpos]; simp) ?_
    obtain ⟨m, hm'⟩ : ∃ m : Nat, (m : Int) = ptN u p := ⟨(ptN u p).toNat, by omega⟩
    refine l_intro (ι := Nat) (fun k => [.int .i64 (k : Nat)]) (fun k w' => k ≤ m ∧ StX noX w (r.or s) w' [.cell bm (ints (metL g.lv (base + atC u (g.pts.take i) + k) N)) 3, .cell b7 [.string g.name, .int .i64 g.lv, .slice qo g.outs.length capo, .int .i64 g.pn, .slice qt g.tys.length capt, .slice qn g.nms.length capn, .slice (some ⟨bp, op, none⟩) g.pts.length capp] 53,
      .cell b5 (rgL g.lv g.pts.length ct (.slice q1 g.tys.length c1) (.slice (some ⟨ba, oa, none⟩) g.pts.length c2)) 46, .cell b2 [.slice p0 u.ss.length cap0, .slice (some ⟨bf, of, none⟩) u.fs.length capf, .int .i64 u.mn] 43]) (fun k => m - k) 0 rfl ⟨Nat.zero_le _, by
        rw [show ((0 : Nat) : Int) = 0 from rfl, Int.add_zero]; exact S⟩ ?_
    clear S
    rintro k d w20 ⟨hk, S⟩ K9 hK9
    rw [List.getD_cons_zero]
    (repeat (first|((with_reducible refine p_id ?_);first|refine s_p ?_|refine s_c (by omega) ?_)|((with_reducible refine q_id ?_);first|refine S.ld ?_|refine S.ldB ?_|refine S.ce ?_|refine S.ceB ?_|refine s_q ?_|refine s_qc (by omega) ?_)|with_reducible refine n_some ?_|rw [List.getD_cons_zero]|rw [List.getD_cons_succ]))
    refine c_if (fun hlt3 => ?_) (fun hge => ?_)
    · have hlt3 : k < m := by omega
      rw [if_neg (by omega)] at hoa
      have hmet := met_next (lv := g.lv) (c := base + atC u (g.pts.take i) + k) (n := N) hlv0 (by omega) (by omega)
      have S := S.go (Ext.drew _)
      (repeat (first|((with_reducible refine p_id ?_);first|refine s_p ?_|refine s_c (by omega) ?_)|((with_reducible refine q_id ?_);first|refine S.ld ?_|refine S.ldB ?_|refine S.ce ?_|refine S.ceB ?_|refine s_q ?_|refine s_qc (by omega) ?_)|with_reducible refine n_some ?_|rw [List.getD_cons_zero]|rw [List.getD_cons_succ]))
      refine s_ld1 (by simpa using S.at hoa) ?_
      (repeat (first|((with_reducible refine p_id ?_);first|refine s_p ?_|refine s_c (by omega) ?_)|((with_reducible refine q_id ?_);first|refine S.ld ?_|refine S.ldB ?_|refine S.ce ?_|refine S.ceB ?_|refine s_q ?_|refine s_qc (by omega) ?_)|with_reducible refine n_some ?_|rw [List.getD_cons_zero]|rw [List.getD_cons_succ]))
      refine c_f (decide_eq_false (show ¬ ct ≤ base + atC u (g.pts.take i) + k by omega)) ?_
      (repeat (first|((with_reducible refine p_id ?_);first|refine s_p ?_|refine s_c (by omega) ?_)|((with_reducible refine q_id ?_);first|refine S.ld ?_|refine S.ldB ?_|refine S.ce ?_|refine S.ceB ?_|refine s_q ?_|refine s_qc (by omega) ?_)|with_reducible refine n_some ?_|rw [List.getD_cons_zero]|rw [List.getD_cons_succ]))
      refine s_ld1 (by simpa using S.at hoa) ?_
      refine s_c (by omega) ?_
      refine s_c (by omega) ?_
      refine S.ld (b := bm) (v := .int .i64 0) ?_ (by rw [Nat.zero_add]; exact hmet.1)
      refine s_c (by omega) ?_
      refine s_c (by omega) ?_
      refine S.st (b := bm) (fun w17 S => ?_) (by rw [hml]; omega)
      (repeat (first|((with_reducible refine p_id ?_);first|refine s_p ?_|refine s_c (by omega) ?_)|((with_reducible refine q_id ?_);first|refine S.ld ?_|refine S.ldB ?_|refine S.ce ?_|refine S.ceB ?_|refine s_q ?_|refine s_qc (by omega) ?_)|with_reducible refine n_some ?_|rw [List.getD_cons_zero]|rw [List.getD_cons_succ]))
      rw [show ((k : Int) + 1) = ((k + 1 : Nat) : Int) by omega]
      refine hK9 (k + 1) _ ⟨hlt3, ?_⟩ (by omega)
      rw [Nat.zero_add, show (0 : Int) + 1 = 1 from rfl, hmet.2] at S
      rw [show base + atC u (g.pts.take i) + ((k + 1 : Nat) : Int) = base + atC u (g.pts.take i) + (k : Int) + 1 by omega]
      exact S
    · have hke : k = m := by omega
      rw [hke, hm'] at S
      (repeat (first|((with_reducible refine p_id ?_);first|refine s_p ?_|refine s_c (by omega) ?_)|((with_reducible refine q_id ?_);first|refine S.ld ?_|refine S.ldB ?_|refine S.ce ?_|refine S.ceB ?_|refine s_q ?_|refine s_qc (by omega) ?_)|with_reducible refine n_some ?_|rw [List.getD_cons_zero]|rw [List.getD_cons_succ]))
      rw [show ((i : Int) + 1) = ((i + 1 : Nat) : Int) by omega]
      refine hK8 (i + 1) _ ⟨hlt2, ?_⟩ (by omega)
      rw [htk, ← Int.add_assoc]
      exact S
  have hie : i = g.pts.length := by omega
  rw [hie, List.take_length, ← hdct] at S
  clear hK8 K8 hge hi hie
  refine l_intro (ι := Nat) (fun i => [.int .i64 (i : Nat)]) (fun i w' => i ≤ N ∧ StX noX w (r.or s) w' _) (fun i => N - i) 0 rfl ⟨Nat.zero_le _, S⟩ ?_
  clear S
  rintro i d w21 ⟨hi, S⟩ K10 hK10
  rw [List.getD_cons_zero]
  (repeat (first|((with_reducible refine p_id ?_);first|refine s_p ?_|refine s_c (by omega) ?_)|((with_reducible refine q_id ?_);first|refine S.ld ?_|refine S.ldB ?_|refine S.ce ?_|refine S.ceB ?_|refine s_q ?_|refine s_qc (by omega) ?_)|with_reducible refine n_some ?_|rw [List.getD_cons_zero]|rw [List.getD_cons_succ]))
  refine c_if (fun hlt2 => ?_) (fun hge => ?_)
  · have hlt2 : i < N := by omega
    have hme : (ints (metL g.lv ct N))[i]? = some (.int .i64 (if g.lv ≤ (i : Int) then 1 else 0)) := by
      rw [ints_get (by rw [metL_len]; exact hlt2), metL_at]
      by_cases hc : g.lv ≤ (i : Int)
      · rw [if_pos hc, if_pos (by omega)]
      · rw [if_neg hc, if_neg (by omega)]
    (repeat (first|((with_reducible refine p_id ?_);first|refine s_p ?_|refine s_c (by omega) ?_)|((with_reducible refine q_id ?_);first|refine S.ld ?_|refine S.ldB ?_|refine S.ce ?_|refine S.ceB ?_|refine s_q ?_|refine s_qc (by omega) ?_)|with_reducible refine n_some ?_|rw [List.getD_cons_zero]|rw [List.getD_cons_succ]))
    refine j_bandH (c := false) (fun hb K2 hK2 => ?_) ?_
    · have hb : (i : Int) < g.lv := by simpa using hb
      rw [if_neg (by omega)] at hme
      refine s_c (by omega) ?_
      refine S.ld (b := bm) (v := .int .i64 0) ?_ (by rw [Nat.zero_add, Int.toNat_natCast]; exact hme)
      (repeat (first|((with_reducible refine p_id ?_);first|refine s_p ?_|refine s_c (by omega) ?_)|((with_reducible refine q_id ?_);first|refine S.ld ?_|refine S.ldB ?_|refine S.ce ?_|refine S.ceB ?_|refine s_q ?_|refine s_qc (by omega) ?_)|with_reducible refine n_some ?_|rw [List.getD_cons_zero]|rw [List.getD_cons_succ]))
      exact hK2
    rw [Bool.and_false]
    refine j_boraG (g := decide (g.lv ≤ (i : Int))) (c := false) (fun _ K2 hK2 => by (repeat (first|((with_reducible refine p_id ?_);first|refine s_p ?_|refine s_c (by omega) ?_)|((with_reducible refine q_id ?_);first|refine S.ld ?_|refine S.ldB ?_|refine S.ce ?_|refine S.ceB ?_|refine s_q ?_|refine s_qc (by omega) ?_)|with_reducible refine n_some ?_|rw [List.getD_cons_zero]|rw [List.getD_cons_succ])); exact hK2) (fun hb K2 hK2 => ?_) ?_
    · have hb : g.lv ≤ (i : Int) := by simpa using hb
      rw [if_pos hb] at hme
      refine s_c (by omega) ?_
      refine S.ld (b := bm) (v := .int .i64 1) ?_ (by rw [Nat.zero_add, Int.toNat_natCast]; exact hme)
      (repeat (first|((with_reducible refine p_id ?_);first|refine s_p ?_|refine s_c (by omega) ?_)|((with_reducible refine q_id ?_);first|refine S.ld ?_|refine S.ldB ?_|refine S.ce ?_|refine S.ceB ?_|refine s_q ?_|refine s_qc (by omega) ?_)|with_reducible refine n_some ?_|rw [List.getD_cons_zero]|rw [List.getD_cons_succ]))
      exact hK2
    refine c_f (by simp) ?_
    (repeat (first|((with_reducible refine p_id ?_);first|refine s_p ?_|refine s_c (by omega) ?_)|((with_reducible refine q_id ?_);first|refine S.ld ?_|refine S.ldB ?_|refine S.ce ?_|refine S.ceB ?_|refine s_q ?_|refine s_qc (by omega) ?_)|with_reducible refine n_some ?_|rw [List.getD_cons_zero]|rw [List.getD_cons_succ]))
    rw [show ((i : Int) + 1) = ((i + 1 : Nat) : Int) by omega]
    exact hK10 (i + 1) _ ⟨hlt2, S⟩ (by omega)
  (repeat (first|((with_reducible refine p_id ?_);first|refine s_p ?_|refine s_c (by omega) ?_)|((with_reducible refine q_id ?_);first|refine S.ld ?_|refine S.ldB ?_|refine S.ce ?_|refine S.ceB ?_|refine s_q ?_|refine s_qc (by omega) ?_)|with_reducible refine n_some ?_|rw [List.getD_cons_zero]|rw [List.getD_cons_succ]))
  refine j_bandH (c := true) (fun _ K2 hK2 => by (repeat (first|((with_reducible refine p_id ?_);first|refine s_p ?_|refine s_c (by omega) ?_)|((with_reducible refine q_id ?_);first|refine S.ld ?_|refine S.ldB ?_|refine S.ce ?_|refine S.ceB ?_|refine s_q ?_|refine s_qc (by omega) ?_)|with_reducible refine n_some ?_|rw [List.getD_cons_zero]|rw [List.getD_cons_succ])); simpa using hK2) ?_
  refine j_bandE (c := true) (fun _ K2 hK2 => c_law13_awake fun w22 e22 => hK2 _ e22) fun w22 e22 => ?_
  have := h _ (S.go e22).ext
  simpa using this
end Go.Proofs
end

section
namespace Go.Proofs.Ytngfnikkdhbajaa.openG

open Go.Sh Go.ChangeShapes Go.WideShapes Go.ChangeAt Go.RowKit

set_option maxRecDepth 100000

set_option linter.unusedSimpArgs false

set_option linter.unusedVariables false

theorem own : ownKnob Try.prog.godebug = none := by kernel_rfl
theorem laidOut : laidOutB Try.prog = true := by kernel_rfl
theorem rowed : mapsRowed Try.prog = true := by kernel_rfl
theorem full : ((List.range Try.prog.types.size).all fun t => match Try.prog.underlying t with | some (.slice e) => decide (0 < Try.prog.cellsOf e) | _ => true) = true := by kernel_rfl
theorem uInt : Try.prog.underlying 3 = some (.int .i64) := by kernel_rfl
theorem uI64 : Try.prog.underlying 2 = some (.int .i64) := by kernel_rfl
theorem uStp : Try.prog.underlying 107 = some (.int .i64) := by kernel_rfl
theorem uBool : Try.prog.underlying 4 = some .bool := by kernel_rfl
theorem uStr : Try.prog.underlying 9 = some .string := by kernel_rfl
theorem uTk : Try.prog.underlying 22 = some (.int .u8) := by kernel_rfl
theorem uOk : Try.prog.underlying 59 = some (.int .u8) := by kernel_rfl
theorem uPo : Try.prog.underlying 55 = some (.int .u8) := by kernel_rfl
theorem sTy : Try.prog.underlying 23 = some (.slice 25) ∧ Try.prog.cellsOf 25 = 5 := ⟨by kernel_rfl, by kernel_rfl⟩
theorem sFd : Try.prog.underlying 82 = some (.slice 122) ∧ Try.prog.cellsOf 122 = 6 := ⟨by kernel_rfl, by kernel_rfl⟩
theorem sSt : Try.prog.underlying 40 = some (.slice 84) ∧ Try.prog.cellsOf 84 = 2 := ⟨by kernel_rfl, by kernel_rfl⟩
theorem sGr : Try.prog.underlying 41 = some (.slice 53) ∧ Try.prog.cellsOf 53 = 7 := ⟨by kernel_rfl, by kernel_rfl⟩
theorem sOu : Try.prog.underlying 49 = some (.slice 157) ∧ Try.prog.cellsOf 157 = 2 := ⟨by kernel_rfl, by kernel_rfl⟩
theorem sSs : Try.prog.underlying 50 = some (.slice 9) ∧ Try.prog.cellsOf 9 = 1 := ⟨by kernel_rfl, by kernel_rfl⟩
theorem sPt : Try.prog.underlying 51 = some (.slice 64) ∧ Try.prog.cellsOf 64 = 21 := ⟨by kernel_rfl, by kernel_rfl⟩
theorem sOp : Try.prog.underlying 62 = some (.slice 61) ∧ Try.prog.cellsOf 61 = 4 := ⟨by kernel_rfl, by kernel_rfl⟩
theorem sSp : Try.prog.underlying 56 = some (.slice 107) ∧ Try.prog.cellsOf 107 = 1 := ⟨by kernel_rfl, by kernel_rfl⟩
theorem aTy : ∃ fs, Try.prog.underlying 25 = some (.struct fs) ∧ fs.toList.map (·.type) = [22, 4, 3, 3, 23] := struct_of (by kernel_rfl)
theorem aFd : ∃ fs, Try.prog.underlying 122 = some (.struct fs) ∧ fs.toList.map (·.type) = [9, 25] := struct_of (by kernel_rfl)
theorem aSt : ∃ fs, Try.prog.underlying 84 = some (.struct fs) ∧ fs.toList.map (·.type) = [9, 82] := struct_of (by kernel_rfl)
theorem aPl : ∃ fs, Try.prog.underlying 58 = some (.struct fs) ∧ fs.toList.map (·.type) = [3, 56] := struct_of (by kernel_rfl)
theorem aOp : ∃ fs, Try.prog.underlying 61 = some (.struct fs) ∧ fs.toList.map (·.type) = [59, 2, 58] := struct_of (by kernel_rfl)
theorem aPt : ∃ fs, Try.prog.underlying 64 = some (.struct fs) ∧ fs.toList.map (·.type) = [55, 58, 61, 61, 62, 9, 58, 4, 3, 3, 3, 3, 3] := struct_of (by kernel_rfl)
theorem aOu : ∃ fs, Try.prog.underlying 157 = some (.struct fs) ∧ fs.toList.map (·.type) = [3, 3] := struct_of (by kernel_rfl)
theorem aGr : ∃ fs, Try.prog.underlying 53 = some (.struct fs) ∧ fs.toList.map (·.type) = [9, 3, 49, 3, 23, 50, 51] := struct_of (by kernel_rfl)
theorem aUn : ∃ fs, Try.prog.underlying 43 = some (.struct fs) ∧ fs.toList.map (·.type) = [40, 41, 3] := struct_of (by kernel_rfl)
theorem plainUn : plainS Try.prog [43, 40, 84, 82, 122, 9, 25, 22, 4, 3, 23, 41, 53, 49, 157, 50, 51, 64, 55,
  58, 56, 107, 61, 59, 2, 62] = true := by kernel_rfl
theorem sl_of {α : Type} {f : α → Dat} {G : α → Prop} {d : Dat} {T e : TypeId} {n : Nat} (u : Try.prog.underlying T = some (.slice e) ∧ Try.prog.cellsOf e = n) (h : d.ok Try.prog T) (hf : ∀ x : Dat, SizeOf.sizeOf x < SizeOf.sizeOf d → x.ok Try.prog e → ∃ t, x = f t ∧ G t) :
    ∃ l : List α, d = .sl n (l.map f) ∧ l.length ≤ maxLen ∧ ∀ t ∈ l, G t := by
  obtain ⟨es, rfl, hl, hk⟩ := dat_sl u.1 h
  obtain ⟨l, rfl, hg⟩ := list_map (f := f) (G := G) es fun x hx => hf x (by
    have := List.sizeOf_lt_of_mem hx
    simp only [Dat.sl.sizeOf_spec]; omega) (hk x hx)
  exact ⟨l, by rw [u.2], by simpa using hl, hg⟩
theorem ty_of : ∀ (n : Nat) (d : Dat), SizeOf.sizeOf d ≤ n → d.ok Try.prog 25 → ∃ t : TyD, d = t.dat := by
  intro n
  induction n with
  | zero => intro d h _; cases d <;> simp at h
  | succ n ih =>
    intro d hs h
    obtain ⟨ds, rfl, e0⟩ := dat_agg aTy h
    obtain ⟨d0, ds, rfl, h0, e1⟩ := okF_cons e0
    obtain ⟨d1, ds, rfl, h1, e2⟩ := okF_cons e1
    obtain ⟨d2, ds, rfl, h2, e3⟩ := okF_cons e2
    obtain ⟨d3, ds, rfl, h3, e4⟩ := okF_cons e3
    obtain ⟨d4, ds, rfl, h4, e5⟩ := okF_cons e4
    obtain rfl := okF_nil e5
    obtain ⟨k, rfl, _⟩ := dat_int uTk h0
    obtain ⟨m, rfl⟩ := dat_bool uBool h1
    obtain ⟨re, rfl, _⟩ := dat_int uInt h2
    obtain ⟨st, rfl, _⟩ := dat_int uInt h3
    obtain ⟨l, rfl, _, _⟩ := sl_of (f := TyD.dat) (G := fun _ => True) sTy h4 fun x hx hk => by
      obtain ⟨t, ht⟩ := ih x (by
        simp only [Dat.agg.sizeOf_spec, List.cons.sizeOf_spec] at hs
        omega) hk
      exact ⟨t, ht, trivial⟩
    exact ⟨.mk k m re st l, by rw [TyD.dat, TyD.dats_map]⟩
theorem ty_of' {d : Dat} (h : d.ok Try.prog 25) : ∃ t : TyD, d = t.dat ∧ True := by
  obtain ⟨t, ht⟩ := ty_of _ d (Nat.le_refl _) h
  exact ⟨t, ht, trivial⟩
theorem str_of {d : Dat} (h : d.ok Try.prog 9) : ∃ s : ByteArray, d = .str s ∧ True := by
  obtain ⟨s, hs, _⟩ := dat_str uStr h
  exact ⟨s, hs, trivial⟩
theorem in64_of {n : Int} (h : (Lit.int .i64 n).wf = true) : in64 n := by have := wf_i64 h; exact ⟨this.1, by omega⟩
theorem stp_of {d : Dat} (h : d.ok Try.prog 107) : ∃ n : Int, d = Dat.int .i64 n ∧ in64 n := by
  obtain ⟨n, hn, hw⟩ := dat_int uStp h
  exact ⟨n, hn, in64_of hw⟩
theorem fd_of {d : Dat} (h : d.ok Try.prog 122) : ∃ f : ByteArray × TyD, d = fdat f ∧ True := by
  obtain ⟨ds, rfl, e0⟩ := dat_agg aFd h
  obtain ⟨d0, ds, rfl, h0, e1⟩ := okF_cons e0
  obtain ⟨d1, ds, rfl, h1, e2⟩ := okF_cons e1
  obtain rfl := okF_nil e2
  obtain ⟨s, rfl, _⟩ := str_of h0
  obtain ⟨t, rfl, _⟩ := ty_of' h1
  exact ⟨(s, t), rfl, trivial⟩
theorem st_of {d : Dat} (h : d.ok Try.prog 84) : ∃ s : StD, d = s.dat ∧ True := by
  obtain ⟨ds, rfl, e0⟩ := dat_agg aSt h
  obtain ⟨d0, ds, rfl, h0, e1⟩ := okF_cons e0
  obtain ⟨d1, ds, rfl, h1, e2⟩ := okF_cons e1
  obtain rfl := okF_nil e2
  obtain ⟨s, rfl, _⟩ := str_of h0
  obtain ⟨l, rfl, _, _⟩ := sl_of (f := fdat) (G := fun _ => True) sFd h1 fun x _ hk => fd_of hk
  exact ⟨⟨s, l⟩, rfl, trivial⟩
theorem pl_of {d : Dat} (h : d.ok Try.prog 58) : ∃ p : PlD, d = p.dat ∧ p.ok := by
  obtain ⟨ds, rfl, e0⟩ := dat_agg aPl h
  obtain ⟨d0, ds, rfl, h0, e1⟩ := okF_cons e0
  obtain ⟨d1, ds, rfl, h1, e2⟩ := okF_cons e1
  obtain rfl := okF_nil e2
  obtain ⟨n, rfl, _⟩ := dat_int uInt h0
  obtain ⟨l, rfl, hl, hg⟩ := sl_of (f := Dat.int .i64) (G := in64) sSp h1 fun x _ hk => stp_of hk
  exact ⟨⟨n, l⟩, rfl, hl, hg⟩
theorem op_of {d : Dat} (h : d.ok Try.prog 61) : ∃ o : OpD, d = o.dat ∧ o.ok := by
  obtain ⟨ds, rfl, e0⟩ := dat_agg aOp h
  obtain ⟨d0, ds, rfl, h0, e1⟩ := okF_cons e0
  obtain ⟨d1, ds, rfl, h1, e2⟩ := okF_cons e1
  obtain ⟨d2, ds, rfl, h2, e3⟩ := okF_cons e2
  obtain rfl := okF_nil e3
  obtain ⟨k, rfl, _⟩ := dat_int uOk h0
  obtain ⟨n, rfl, _⟩ := dat_int uI64 h1
  obtain ⟨p, rfl, hp⟩ := pl_of h2
  exact ⟨⟨k, n, p⟩, rfl, hp⟩
theorem pt_of {d : Dat} (h : d.ok Try.prog 64) : ∃ p : PtD, d = p.dat ∧ p.ok := by
  obtain ⟨ds, rfl, e0⟩ := dat_agg aPt h
  obtain ⟨d0, ds, rfl, h0, e1⟩ := okF_cons e0
  obtain ⟨d1, ds, rfl, h1, e2⟩ := okF_cons e1
  obtain ⟨d2, ds, rfl, h2, e3⟩ := okF_cons e2
  obtain ⟨d3, ds, rfl, h3, e4⟩ := okF_cons e3
  obtain ⟨d4, ds, rfl, h4, e5⟩ := okF_cons e4
  obtain ⟨d5, ds, rfl, h5, e6⟩ := okF_cons e5
  obtain ⟨d6, ds, rfl, h6, e7⟩ := okF_cons e6
  obtain ⟨d7, ds, rfl, h7, e8⟩ := okF_cons e7
  obtain ⟨d8, ds, rfl, h8, e9⟩ := okF_cons e8
  obtain ⟨d9, ds, rfl, h9, e10⟩ := okF_cons e9
  obtain ⟨d10, ds, rfl, h10, e11⟩ := okF_cons e10
  obtain ⟨d11, ds, rfl, h11, e12⟩ := okF_cons e11
  obtain ⟨d12, ds, rfl, h12, e13⟩ := okF_cons e12
  obtain rfl := okF_nil e13
  obtain ⟨op, rfl, _⟩ := dat_int uPo h0
  obtain ⟨to, rfl, g1⟩ := pl_of h1
  obtain ⟨a, rfl, g2⟩ := op_of h2
  obtain ⟨b, rfl, g3⟩ := op_of h3
  obtain ⟨l, rfl, hl, g4⟩ := sl_of (f := OpD.dat) (G := OpD.ok) sOp h4 fun x _ hk => op_of hk
  obtain ⟨s, rfl, _⟩ := str_of h5
  obtain ⟨fr, rfl, g6⟩ := pl_of h6
  obtain ⟨mu, rfl⟩ := dat_bool uBool h7
  obtain ⟨fn, rfl, _⟩ := dat_int uInt h8
  obtain ⟨st, rfl, _⟩ := dat_int uInt h9
  obtain ⟨nx, rfl, _⟩ := dat_int uInt h10
  obtain ⟨el, rfl, _⟩ := dat_int uInt h11
  obtain ⟨tx, rfl, _⟩ := dat_int uInt h12
  exact ⟨⟨op, to, a, b, l, s, fr, mu, fn, st, nx, el, tx⟩, rfl, g1, g2, g3, ⟨hl, g4⟩, g6⟩
theorem ou_of {d : Dat} (h : d.ok Try.prog 157) : ∃ x : Int × Int, d = twoD x ∧ True := by
  obtain ⟨ds, rfl, e0⟩ := dat_agg aOu h
  obtain ⟨d0, ds, rfl, h0, e1⟩ := okF_cons e0
  obtain ⟨d1, ds, rfl, h1, e2⟩ := okF_cons e1
  obtain rfl := okF_nil e2
  obtain ⟨a, rfl, _⟩ := dat_int uInt h0
  obtain ⟨b, rfl, _⟩ := dat_int uInt h1
  exact ⟨(a, b), rfl, trivial⟩
theorem gr_of {d : Dat} (h : d.ok Try.prog 53) : ∃ g : GrD, d = g.dat ∧ g.ok := by
  obtain ⟨ds, rfl, e0⟩ := dat_agg aGr h
  obtain ⟨d0, ds, rfl, h0, e1⟩ := okF_cons e0
  obtain ⟨d1, ds, rfl, h1, e2⟩ := okF_cons e1
  obtain ⟨d2, ds, rfl, h2, e3⟩ := okF_cons e2
  obtain ⟨d3, ds, rfl, h3, e4⟩ := okF_cons e3
  obtain ⟨d4, ds, rfl, h4, e5⟩ := okF_cons e4
  obtain ⟨d5, ds, rfl, h5, e6⟩ := okF_cons e5
  obtain ⟨d6, ds, rfl, h6, e7⟩ := okF_cons e6
  obtain rfl := okF_nil e7
  obtain ⟨s, rfl, _⟩ := str_of h0
  obtain ⟨lv, rfl, _⟩ := dat_int uInt h1
  obtain ⟨lo, rfl, g2, _⟩ := sl_of (f := twoD) (G := fun _ => True) sOu h2 fun x _ hk => ou_of hk
  obtain ⟨pn, rfl, _⟩ := dat_int uInt h3
  obtain ⟨lt, rfl, g4, _⟩ := sl_of (f := TyD.dat) (G := fun _ => True) sTy h4 fun x _ hk => ty_of' hk
  obtain ⟨ln, rfl, g5, _⟩ := sl_of (f := Dat.str) (G := fun _ => True) sSs h5 fun x _ hk => str_of hk
  obtain ⟨lp, rfl, g6, hp⟩ := sl_of (f := PtD.dat) (G := PtD.ok) sPt h6 fun x _ hk => pt_of hk
  exact ⟨⟨s, lv, lo, pn, lt, ln, lp⟩, rfl, g2, g4, g5, g6, hp⟩
theorem un_of {d : Dat} (h : d.ok Try.prog 43) : ∃ u : UnD, d = u.dat ∧ u.ok := by
  obtain ⟨ds, rfl, e0⟩ := dat_agg aUn h
  obtain ⟨d0, ds, rfl, h0, e1⟩ := okF_cons e0
  obtain ⟨d1, ds, rfl, h1, e2⟩ := okF_cons e1
  obtain ⟨d2, ds, rfl, h2, e3⟩ := okF_cons e2
  obtain rfl := okF_nil e3
  obtain ⟨ss, rfl, g0, _⟩ := sl_of (f := StD.dat) (G := fun _ => True) sSt h0 fun x _ hk => st_of hk
  obtain ⟨fs, rfl, g1, hg⟩ := sl_of (f := GrD.dat) (G := GrD.ok) sGr h1 fun x _ hk => gr_of hk
  obtain ⟨mn, rfl, _⟩ := dat_int uInt h2
  exact ⟨⟨ss, fs, mn⟩, rfl, g0, g1, hg⟩
section

variable {H : Type} {enc : TypeId × Value → H} {W : World} {base : Nat} {v : Value} {d : DataW H} {p : List MemPlace}

theorem un_open (hv : Value.okWide Try.prog W .any base 43 v) (h : DataW.Trod enc Try.prog W 0 (fun _ => true) true 43 v d p) : ∃ u : UnD, UnG (all W) v u := by
  obtain ⟨fs, hu, _⟩ := aUn
  obtain ⟨cs, rfl, hsz⟩ := okWide_struct hu hv
  obtain ⟨fuel, hf⟩ := h
  obtain ⟨d, hr, hd⟩ := rep_of_trod plainUn fuel 43 _ _ (by simp) hf
  obtain ⟨u, rfl, hk⟩ := un_of hd
  exact ⟨u, by simpa [Value.cells] using un_of_rep hr hk⟩
theorem int_open (hv : Value.okWide Try.prog W .any base 3 v) (h : DataW.Trod enc Try.prog W 0 (fun _ => true) true 3 v d p) : ∃ n : Int, v = .int .i64 n ∧ -9223372036854775808 ≤ n ∧ n ≤ 9223372036854775807 := by
  obtain ⟨n, rfl, _, _, hw⟩ := open_int uInt hv h
  exact ⟨n, rfl, wf_i64 hw⟩
end

/-- a world for the witnesses: the settled one -/
noncomputable def laidWorld (os : Os) : World := World.holding Try.prog os ⟨#[], #[], []⟩
end Go.Proofs.Ytngfnikkdhbajaa.openG
end

section
namespace Go.Proofs.Ytngfnikkdhbajaa.regionOnce

open Go.Sh Go.ChangeShapes Go.WideShapes Go.ChangeAt Go.RowKit openG

set_option maxRecDepth 100000

set_option linter.unusedVariables false

theorem contract (H : Type) (enc : TypeId × Value → H) (W : World) (base : Nat) (args : Array Value) (ds gs : List (DataW H)) (before : List MemPlace)
    (hval : ∀ (j : Nat) t v, Try.f4.params[j]? = some t → args[j]? = some v → Value.okWide Try.prog W .any base t v)
    (hW : DataW.Whole enc Try.prog Try.f4.params.toList Rows.regionOnceSpec.vars false W args.toList ds gs before) :
    Calls Try.prog 4 args W fun e W' => ∃ v, e = .returned v ∧ Rows.regionOnceSpec.post enc Try.prog Try.f4 false true false false W args v W' := by
  have hW' := hW
  obtain ⟨p, q, hA, hV, rfl, hfz, hnd⟩ := hW
  rw [show Try.f4.params.toList = [43, 3] by kernel_rfl] at hA
  obtain ⟨v0, vs0, d0, ds0, p0, q100, hargs, rfl, rfl, h0, r0⟩ := trodAll_cons hA
  obtain ⟨v1, vs1, d1, ds1, p1, q101, rfl, rfl, rfl, h1, r1⟩ := trodAll_cons r0
  obtain ⟨rfl, rfl, rfl⟩ := trodAll_nil r1
  obtain rfl : args = #[v0, v1] := by cases args; simp_all
  obtain ⟨rfl, rfl⟩ := trodVars_none hV
  obtain ⟨u0, hu0⟩ := un_open (hval 0 43 v0 (by kernel_rfl) rfl) h0
  obtain ⟨n1, rfl, hi1⟩ := int_open (hval 1 3 v1 (by kernel_rfl) rfl) h1
  refine Calls.mono (c_law13_RegionOnce (K := fun v W' => v = .bool true ∧ Ext W W') (all_holds W) hu0 fun w' e => ⟨rfl, e⟩) ?_
  rintro e W' ⟨v, he, rfl, hE⟩
  exact ⟨_, he, post_told laidOut rowed full (by rw [show Try.f4.params.toList = [43, 3] by kernel_rfl]; decide) rfl (by kernel_rfl) uBool hW' rfl hE⟩
def wit : Array Value := #[.agg #[.slice none 0 0, .slice none 0 0, .int .i64 0], .int .i64 0]
theorem reads (os : Os) {H : Type} (enc : TypeId × Value → H) : ∃ ds places, DataW.whole enc Try.prog ((laidWorld os).forCall (fun _ _ => 0) ⟨#[], wit, []⟩).memory Try.f4.params.toList Rows.regionOnceSpec.vars false wit.toList 8 = some (ds, [], places) :=
  ⟨[.agg [.nil, .nil, .lit (.int .i64 0)], .lit (.int .i64 0)], [], by kernel_rfl⟩
theorem laid_met (os : Os) : laidMet Try.prog Rows.regionOnceRow.laid ((laidWorld os).forCall (fun _ _ => 0) ⟨#[], wit, []⟩).memory :=
  laidMet_of_run' 8 (by kernel_rfl) (by kernel_rfl)
theorem lifted (os : Os) (started : os.Started) (H : Type) (enc : TypeId × Value → H) (F : Stop.Interp) :
    ReturnsInHanded {} Try.checked os 4 .any ((OpenSpec.ofChange Rows.regionOnceSpec).preRow enc Try.prog Try.f4 Rows.regionOnceRow.domain false Rows.regionOnceRow.laid) (((OpenSpec.ofChange Rows.regionOnceSpec).at F).post enc Try.prog Try.f4 false true false false) := by
  obtain ⟨ds, places, hx⟩ := reads os enc
  refine returnsInHanded_of_row (C := Try.checked) (s := OpenSpec.ofChange Rows.regionOnceSpec) own started (by kernel_rfl) Try.func4
    (witness_row_at (enc := enc) (C := Try.checked) false (laidWorld os) wit rfl (by kernel_rfl) (by kernel_rfl) (by kernel_rfl)
      (OpenSpec.preRow_of_cond 8 hx (by kernel_rfl) (fun k hk => by cases hk) (by kernel_rfl) (laid_met os))) ?_
  intro W base args ds gs before hval hW _ _ _ hL _ _
  exact contract H enc W base args ds gs before hval hW
theorem said : Rows.RegionOnceSaid :=
  OpenClaim.holds_of_cond 4 Try.f4 rfl rfl rfl rfl rfl rfl rfl ⟨rfl, rfl, rfl, rfl, rfl⟩ rfl rfl rfl rfl rfl (by kernel_rfl) Try.func4 (by kernel_rfl)
    (of_decide_eq_true (by kernel_rfl)) (by unfold Func.isWrapper; first | (rw [if_pos (by decide +kernel)]; kernel_rfl) | (rw [if_neg (by decide +kernel)]; exact ⟨rfl, rfl⟩))
    (fun os started H enc _ F => by rw [OpenClaim.pre_eq_preRow]; exact lifted os started H enc F)
end Go.Proofs.Ytngfnikkdhbajaa.regionOnce
end
