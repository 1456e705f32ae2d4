/-
  Contracts: the document's reader of types' texts: reference, kind.
  Contracts: the document's reader of types' texts: Read.
  Contracts: equal (of what is alike), spoil.
  Contracts: Itoa of every number that is not negative (the kit's contract, laid at this program).
  Types' texts there and back: the plain law.
  Contracts: types made by hand; awake.
  Contracts: awake.
  A law's end: the answer is true, the input reads as it did.
  Whatever an argument reads as, it is a datum: one theorem for all types of numbers, texts, structs and slices.
  What every law of layer 6 opens: types, lists, numbers, texts; the program's facts.
  The law TypesTexts.
  Types' texts there and back: the plain law's other half; the law TypesBack.
  The table of tens, told by the row.
  loanwordlaw06.TypesBack: the card: whatever the input, the law returns true and the input reads as it did.
-/
import Derived.Test.YtajllnahceaipaaDoorNe
import Derived.Shelf.Strconv.Itoa3
import Derived.Test.YtajllnahceaipaaDoorNa
import Derived.ChangeSame
import Derived.ChangeStays
import Derived.ReadAgain
import Derived.ProofKit
import Derived.OpenShut
import Derived.Deep.DeepHandedRow
import Derived.Lib.LaidTab
import Derived.Lib.SmallJoins
import Derived.Test.YtajllnahceaipaaDoorNb
import Derived.ChangeArms
import Derived.DataReads
import Derived.Test.YtajllnahceaipaaDoorCards
import Derived.Test.YtajllnahceaipaaDoorTie
import Derived.WalkKit
import Derived.Stop.LaidErr

section
namespace Go.Proofs
open Go.Sh
set_option maxRecDepth 100000
set_option linter.unusedSimpArgs false
/-- the walk's own cells, in another order -/
theorem _root_.Go.Sh.StX.perm {X : Nat → Prop} {w0 w : World} {r : Gh} {L M : List Asr} (S : StX X w0 r w L) (hp : L.Perm M) : StX X w0 r w M :=
  ⟨S.x, S.holds, fun z hz => S.has z (hp.mem_iff.2 hz), fun z hz => S.mine z (hp.mem_iff.2 hz), (List.Perm.pairwise_iff (fun h k h1 h2 => h k h2 h1) hp).1 S.apart⟩
theorem Out.ret {α : Type} {st : Bool} {a : Nat} {v : α} : Out st a (a, some v) a st v := by
  cases st
  · exact ⟨rfl, rfl, rfl⟩
  · exact ⟨rfl, rfl⟩
theorem Out.cut {α : Type} {st : Bool} {a : Nat} {x : Rd' α} {v : α} (h : st = false → x = (a, none)) : Out st a x a true v := by
  cases st
  · exact .no (h rfl)
  · exact .stuck
theorem Out.as {α : Type} {st st' : Bool} {a a' : Nat} {x y : Rd' α} {v : α} (h : Out st a x a' st' v) (e : st = false → y = x) : Out st a y a' st' v := by
  cases st
  · rw [e rfl]; exact h
  · exact h
/-- the byte comes: which, and the reader may take it -/
theorem cm_take {s : List UInt8} {a : Nat} {c : UInt8} (h : cmB s a [c] = true) : a < s.length ∧ tkR s [c] a = (a + 1, some ()) ∧ ∀ d, cmB s a [d] = decide (c = d) := by
  have hlt : a < s.length := by
    by_cases hl : a < s.length
    · exact hl
    · rw [cmB, prefB, List.drop_eq_nil_of_le (by omega)] at h; simp at h
  have hcm : ∀ d, cmB s a [d] = decide (s[a] = d) := by
    intro d
    rw [cmB, prefB, List.drop_eq_getElem_cons hlt]
    have h1 : decide ((([d] : List UInt8).length : Int) ≤ ((s[a] :: s.drop (a + 1)).length : Int)) = true := by simp; omega
    rw [h1, Bool.true_and, show (s[a] :: s.drop (a + 1)).take ([d] : List UInt8).length = [s[a]] from rfl]
    by_cases h2 : s[a] = d
    · simp [h2]
    · simp [h2]
  have hc : s[a] = c := by rw [hcm] at h; simpa using h
  refine ⟨hlt, ?_, fun d => by rw [hcm, hc]⟩
  have hb : byteAt s a = (c.toNat : Int) := by rw [byteAt, List.getD_eq_getElem?_getD, List.getElem?_eq_getElem hlt, ← hc]; rfl
  rw [tkR, takeR, if_neg (by simp [hb]; omega)]
  rfl
theorem nx_is {s : List UInt8} {a : Nat} {st : Bool} (c : UInt8) {n : Int} (hn : n = (c.toNat : Int)) (hc : c ≠ 0) : decide (nxB s a st = n) = (!st && cmB s a [c]) := by
  rw [hn]; exact nx_eq hc
/-- the contract of kind, so deep -/
def KindQ (s : List UInt8) (rd : Nat → Rd' TyD) (left : Nat) : Prop :=
  ∀ {X : Nat → Prop} {w0 w : World} {r : Gh} {L : List Asr} {rb a : Nat} {st : Bool} {K : Value → World → Prop}, StX X w0 r w (rqC rb s a st :: L) → a ≤ s.length → s.length ≤ 1000000000 →
  (∀ t v sn a' st' w', Out st a (rd a) a' st' t → a' ≤ s.length → StX X w0 (r.or sn) w' (rqC rb s a' st' :: L) → (∀ b o, sn b o → w.heap.size ≤ b) → TyG sn v t → K v w') →
  oCall Tryd.prog Tryd.n_ref06_reader_kind #[rdP rb, .int .i64 (left : Int)] w K
section
variable {X : Nat → Prop} {w0 w : World} {r : Gh} {L : List Asr} {rb : Nat} {s p : List UInt8} {a : Nat} {K : Value → World → Prop}
abbrev t5C (b5 : Nat) (m : Bool) (re : Int) : Asr := .cell b5 [.int .u8 4, .bool m, .int .i64 re, .int .i64 0, .slice none 0 0] 25
abbrev t4C (b4 : Nat) : Asr := .cell b4 [.int .u8 0, .bool false, .int .i64 0, .int .i64 0, .slice none 0 0] 25
theorem c_q_reference {n : Nat} {rec : Nat → Rd' TyD} (hkind : KindQ s rec n) (hn : n ≤ 1000) (S : StX X w0 r w (rqC rb s a false :: L)) (_ : a ≤ s.length) (hs : s.length ≤ 1000000000) (hc0 : cmB s a [38] = true)
    (h : ∀ t v sn a' st' w', Out false a (refS s rec (n + 1) a) a' st' t → a' ≤ s.length → StX X w0 (r.or sn) w' (rqC rb s a' st' :: L) → (∀ b o, sn b o → w.heap.size ≤ b) → TyG sn v t → K v w') :
    oCall Tryd.prog Tryd.n_ref06_reader_reference #[rdP rb, .int .i64 ((n + 1 : Nat) : Int)] w K := by
  obtain ⟨ha, e0, _⟩ := cm_take hc0
  refine Tryd.ok_ref06_reader_reference ?_
  unfold Tryd.F_ref06_reader_reference
  refine S.alM fun b4 w1 hb4 _ S => ?_
  refine p_build (cs := #[.int .u8 4, .bool false, .int .i64 (-1), .int .i64 0, .slice none 0 0]) (by kernel_rfl) ?_
  refine S.al fun b5 w2 S => ?_
  refine S.stB fun w3 S => ?_
  (repeat (first | refine s_p ?_ | refine s_c (by omega) ?_ | refine S.ld ?_ | refine S.ldB ?_ | refine S.ce ?_ | refine S.ceB ?_ | refine s_q ?_ | refine s_qc (by omega) ?_ | refine n_some ?_ | rw [List.getD_cons_zero] | rw [List.getD_cons_succ]))
  refine S.st fun w4 S => ?_
  have S : StX X w0 r w4 (t5C b5 false (-1) :: t4C b4 :: rqC rb s (a + 1) false :: L) := S
  refine j_intro (fun _ w' => ∃ a2 st2 re, Out false (a + 1) (rgR s (a + 1)) a2 st2 re ∧ a2 ≤ s.length ∧ -1 ≤ re ∧ StX X w0 r w' (rqC rb s a2 st2 :: t5C b5 false re :: t4C b4 :: L)) (fun K2 hK2 => ?_) ?_
  · have S : StX X w0 r w4 (rqC rb s (a + 1) false :: t5C b5 false (-1) :: t4C b4 :: L) := S.perm (by
      refine (List.Perm.cons _ (.swap _ _ _)).trans ?_
      exact .swap _ _ _)
    refine c_q_next S fun w5 S => ?_
    (repeat (first | refine s_p ?_ | refine s_c (by omega) ?_ | refine S.ld ?_ | refine S.ldB ?_ | refine S.ce ?_ | refine S.ceB ?_ | refine s_q ?_ | refine s_qc (by omega) ?_ | refine n_some ?_ | rw [List.getD_cons_zero] | rw [List.getD_cons_succ]))
    rw [nx_is 39 (n := 39) (by decide) (by decide)]
    refine c_b (fun hc => ?_) (fun hc => ?_)
    · have hc : cmB s (a + 1) [39] = true := by simpa using hc
      obtain ⟨ha1, e1, _⟩ := cm_take hc
      (repeat (first | refine s_p ?_ | refine s_c (by omega) ?_ | refine S.ld ?_ | refine S.ldB ?_ | refine S.ce ?_ | refine S.ceB ?_ | refine s_q ?_ | refine s_qc (by omega) ?_ | refine n_some ?_ | rw [List.getD_cons_zero] | rw [List.getD_cons_succ]))
      refine S.st fun w6 S => ?_
      have S : StX X w0 r w6 (rqC rb s (a + 1 + 1) false :: t5C b5 false (-1) :: t4C b4 :: L) := S
      refine c_q_number S ha1 hs (by decide) (by decide) fun a3 st3 re w7 ha3 h0 _ S o3 => ?_
      (first | refine s_p ?_ | refine s_c (by omega) ?_)
      refine S.st fun w8 S => ?_
      refine c_q_word S ha3 hs (by decide) fun a4 st4 w9 ha4 S o4 => ?_
      refine hK2 [] _ ⟨a4, st4, re, ?_, ha4, by omega, S⟩
      rw [rgR, if_pos hc]
      exact (Out.ok e1).bd (o3.bd (o4.bd .ret))
    · have hc : cmB s (a + 1) [39] = false := by simpa using hc
      refine hK2 [] _ ⟨a + 1, false, -1, ?_, ha, Int.le_refl _, S⟩
      rw [rgR, if_neg (by rw [hc]; simp)]
      exact .ret
  rintro _ w5 ⟨a2, st2, re, o2, ha2, hre, S⟩ d5
  refine j_intro (fun _ w' => ∃ a3 st3 m, Out st2 a2 (mtR s a2) a3 st3 m ∧ a3 ≤ s.length ∧ StX X w0 r w' (rqC rb s a3 st3 :: t5C b5 m re :: t4C b4 :: L)) (fun K2 hK2 => ?_) ?_
  · refine c_q_next S fun w6 S => ?_
    (repeat (first | refine s_p ?_ | refine s_c (by omega) ?_ | refine S.ld ?_ | refine S.ldB ?_ | refine S.ce ?_ | refine S.ceB ?_ | refine s_q ?_ | refine s_qc (by omega) ?_ | refine n_some ?_ | rw [List.getD_cons_zero] | rw [List.getD_cons_succ]))
    rw [nx_is 109 (n := 109) (by decide) (by decide)]
    refine c_b (fun hc => ?_) (fun hc => ?_)
    · have hcc : st2 = false ∧ cmB s a2 [109] = true := by simpa using hc
      clear hc
      obtain ⟨rfl, hc⟩ := hcc
      refine c_q_word S ha2 hs (by decide) fun a3 st3 w7 ha3 S o3 => ?_
      (first | refine s_p ?_ | refine s_c (by omega) ?_)
      refine S.st fun w8 S => ?_
      refine hK2 [] _ ⟨a3, st3, true, ?_, ha3, S⟩
      rw [mtR, if_pos hc]
      exact o3.bd .ret
    · refine hK2 [] _ ⟨a2, st2, false, ?_, ha2, S⟩
      refine Out.ret.as fun hst => ?_
      rw [mtR, if_neg (by rw [hst] at hc; simpa using hc)]
  rintro _ w6 ⟨a3, st3, m, o3, ha3, S⟩ d6
  have hfin : ∀ {a' st'} {u : TyD}, Out st3 a3 (bd (brR s (n + 1) re m a3) fun _ a => bd (rec a) fun u a => (a, some (.mk 4 m re 0 [u]))) a' st' u → Out false a (refS s rec (n + 1) a) a' st' u := by
    intro a' st' u o
    rw [refS]
    exact (Out.ok e0).bd (o2.bd (o3.bd o))
  refine j_intro (fun _ w' => ∃ a4 st4, Out st3 a3 (brR s (n + 1) re m a3) a4 st4 () ∧ a4 ≤ s.length ∧ StX X w0 r w' (rqC rb s a4 st4 :: t5C b5 m re :: t4C b4 :: L)) (fun K2 hK2 => ?_) ?_
  · (repeat (first | refine s_p ?_ | refine s_c (by omega) ?_ | refine S.ld ?_ | refine S.ldB ?_ | refine S.ce ?_ | refine S.ceB ?_ | refine s_q ?_ | refine s_qc (by omega) ?_ | refine n_some ?_ | rw [List.getD_cons_zero] | rw [List.getD_cons_succ]))
    refine j_bandH (c := !m) (fun _ K3 hK3 => ?_) ?_
    · (repeat (first | refine s_p ?_ | refine s_c (by omega) ?_ | refine S.ld ?_ | refine S.ldB ?_ | refine S.ce ?_ | refine S.ceB ?_ | refine s_q ?_ | refine s_qc (by omega) ?_ | refine n_some ?_ | rw [List.getD_cons_zero] | rw [List.getD_cons_succ]))
      exact hK3
    generalize hbare : (decide (re < 0) && !m) = bare at *
    refine c_b (fun hb => ?_) (fun hb => ?_)
    · subst hb
      refine c_q_next S fun w7 S => ?_
      (repeat (first | refine s_p ?_ | refine s_c (by omega) ?_ | refine S.ld ?_ | refine S.ldB ?_ | refine S.ce ?_ | refine S.ceB ?_ | refine s_q ?_ | refine s_qc (by omega) ?_ | refine n_some ?_ | rw [List.getD_cons_zero] | rw [List.getD_cons_succ]))
      rw [nx_is 38 (n := 38) (by decide) (by decide)]
      refine c_b (fun hc1 => ?_) (fun hc1 => ?_)
      · have hcc : st3 = false ∧ cmB s a3 [38] = true := by simpa using hc1
        clear hc1
        obtain ⟨rfl, hc1⟩ := hcc
        (repeat (first | refine s_p ?_ | refine s_c (by omega) ?_ | refine S.ld ?_ | refine S.ldB ?_ | refine S.ce ?_ | refine S.ceB ?_ | refine s_q ?_ | refine s_qc (by omega) ?_ | refine n_some ?_ | rw [List.getD_cons_zero] | rw [List.getD_cons_succ]))
        refine S.st fun w8 S => ?_
        (repeat (first | refine s_p ?_ | refine s_c (by omega) ?_ | refine S.ld ?_ | refine S.ldB ?_ | refine S.ce ?_ | refine S.ceB ?_ | refine s_q ?_ | refine s_qc (by omega) ?_ | refine n_some ?_ | rw [List.getD_cons_zero] | rw [List.getD_cons_succ]))
        refine S.stB fun w9 S => ?_
        (repeat (first | refine s_p ?_ | refine s_c (by omega) ?_ | refine S.ld ?_ | refine S.ldB ?_ | refine S.ce ?_ | refine S.ceB ?_ | refine s_q ?_ | refine s_qc (by omega) ?_ | refine n_some ?_ | rw [List.getD_cons_zero] | rw [List.getD_cons_succ]))
        refine h (.mk 4 m re 0 []) _ nothing a3 true _ (hfin (Out.bd (u := ()) (.no ?_) .stuck)) ha3 (S.d1.d1.to (r.or nothing)) (fun _ _ h => h.elim) ty_leaf
        rw [brR, hbare, hc1]; rfl
      refine c_q_next S fun w8 S => ?_
      (repeat (first | refine s_p ?_ | refine s_c (by omega) ?_ | refine S.ld ?_ | refine S.ldB ?_ | refine S.ce ?_ | refine S.ceB ?_ | refine s_q ?_ | refine s_qc (by omega) ?_ | refine n_some ?_ | rw [List.getD_cons_zero] | rw [List.getD_cons_succ]))
      rw [nx_is 32 (n := 32) (by decide) (by decide)]
      refine j_bandH (c := decide (2 < n + 1)) (fun _ K3 hK3 => ?_) ?_
      · (first | refine s_p ?_ | refine s_c (by omega) ?_)
        rw [show decide ((2 : Int) < ((n + 1 : Nat) : Int)) = decide (2 < n + 1) from decide_eq_decide.2 (by omega)]
        exact hK3
      have hbr : st3 = false → brR s (n + 1) re m a3 = if cmB s a3 [32] && decide (2 < n + 1) then bd (tkR s [32] a3) fun _ a => if !cmB s a [38] then (a, none) else (a, some ()) else (a3, some ()) := by
        intro hst
        rw [hst] at hc1
        rw [brR, hbare, Bool.true_and, Bool.true_and, if_neg (by simpa using hc1)]
      refine c_b (fun hc2 => ?_) (fun hc2 => ?_)
      · simp only [Bool.and_eq_true, Bool.not_eq_true'] at hc2
        obtain ⟨⟨rfl, hc2⟩, hn2⟩ := hc2
        have hbr := hbr rfl
        rw [hc2, hn2, Bool.true_and, if_pos rfl] at hbr
        obtain ⟨ha4, e4, _⟩ := cm_take hc2
        rw [e4] at hbr
        (repeat (first | refine s_p ?_ | refine s_c (by omega) ?_ | refine S.ld ?_ | refine S.ldB ?_ | refine S.ce ?_ | refine S.ceB ?_ | refine s_q ?_ | refine s_qc (by omega) ?_ | refine n_some ?_ | rw [List.getD_cons_zero] | rw [List.getD_cons_succ]))
        refine S.st fun w9 S => ?_
        have S : StX X w0 r w9 (rqC rb s (a3 + 1) false :: t5C b5 m re :: t4C b4 :: L) := S
        refine c_q_next S fun w10 S => ?_
        (repeat (first | refine s_p ?_ | refine s_c (by omega) ?_ | refine S.ld ?_ | refine S.ldB ?_ | refine S.ce ?_ | refine S.ceB ?_ | refine s_q ?_ | refine s_qc (by omega) ?_ | refine n_some ?_ | rw [List.getD_cons_zero] | rw [List.getD_cons_succ]))
        have hne : decide (nxB s (a3 + 1) false ≠ 38) = !cmB s (a3 + 1) [38] := by
          have := nx_is (s := s) (a := a3 + 1) (st := false) 38 (n := 38) (by decide) (by decide)
          rw [decide_not, this]; simp
        rw [hne]
        refine c_b (fun hc3 => ?_) (fun hc3 => ?_)
        · (repeat (first | refine s_p ?_ | refine s_c (by omega) ?_ | refine S.ld ?_ | refine S.ldB ?_ | refine S.ce ?_ | refine S.ceB ?_ | refine s_q ?_ | refine s_qc (by omega) ?_ | refine n_some ?_ | rw [List.getD_cons_zero] | rw [List.getD_cons_succ]))
          refine S.st fun w11 S => ?_
          (repeat (first | refine s_p ?_ | refine s_c (by omega) ?_ | refine S.ld ?_ | refine S.ldB ?_ | refine S.ce ?_ | refine S.ceB ?_ | refine s_q ?_ | refine s_qc (by omega) ?_ | refine n_some ?_ | rw [List.getD_cons_zero] | rw [List.getD_cons_succ]))
          refine S.stB fun w12 S => ?_
          (repeat (first | refine s_p ?_ | refine s_c (by omega) ?_ | refine S.ld ?_ | refine S.ldB ?_ | refine S.ce ?_ | refine S.ceB ?_ | refine s_q ?_ | refine s_qc (by omega) ?_ | refine n_some ?_ | rw [List.getD_cons_zero] | rw [List.getD_cons_succ]))
          refine h (.mk 4 m re 0 []) _ nothing (a3 + 1) true _ (hfin (Out.bd (u := ()) (.no ?_) .stuck)) ha4 (S.d1.d1.to (r.or nothing)) (fun _ _ h => h.elim) ty_leaf
          rw [hbr]; simp only [bd]; rw [if_pos hc3]
        · refine hK2 [] _ ⟨a3 + 1, false, .ok ?_, ha4, S⟩
          rw [hbr]; simp only [bd]; rw [if_neg (by rw [hc3]; simp)]
      · refine hK2 [] _ ⟨a3, st3, Out.ret.as fun hst => ?_, ha3, S⟩
        rw [hbr hst, if_neg (by rw [hst] at hc2; simpa using hc2)]
    · subst hb
      refine hK2 [] _ ⟨a3, st3, Out.ret.as fun hst => ?_, ha3, S⟩
      rw [brR, hbare]; simp
  rintro _ w7 ⟨a4, st4, o4, ha4, S⟩ d7
  (first | refine s_p ?_ | refine s_c (by omega) ?_)
  rw [show ((n + 1 : Nat) : Int) - 1 = (n : Int) by omega]
  have hb47 : b4 < w7.heap.size := Asr.lt (x := t4C b4) (S.has _ (by simp)) rfl
  refine hkind S ha4 hs (fun u v sn a5 st5 w8 o5 ha5 S hf hty => ?_)
  have hty0 := hty
  obtain ⟨p9, cap9, rfl, _⟩ := hty
  refine w_lit (e := 25) (cs := [.int .u8 u.k, .bool u.m, .int .i64 u.re, .int .i64 u.st, .slice p9 u.of.length cap9]) (by kernel_rfl) fun b9 w9 hb9 e9 _ B9 => ?_
  have hb4' : b4 < w8.heap.size := Asr.lt (x := t4C b4) (S.has _ (by simp)) rfl
  have S := S.add e9 (by omega) B9
  have S := S.frz
  (first | refine s_p ?_ | refine s_c (by omega) ?_)
  refine S.st fun w10 S => ?_
  (repeat (first | refine s_p ?_ | refine s_c (by omega) ?_ | refine S.ld ?_ | refine S.ldB ?_ | refine S.ce ?_ | refine S.ceB ?_ | refine s_q ?_ | refine s_qc (by omega) ?_ | refine n_some ?_ | rw [List.getD_cons_zero] | rw [List.getD_cons_succ]))
  refine S.stB fun w11 S => ?_
  (repeat (first | refine s_p ?_ | refine s_c (by omega) ?_ | refine S.ld ?_ | refine S.ldB ?_ | refine S.ce ?_ | refine S.ceB ?_ | refine s_q ?_ | refine s_qc (by omega) ?_ | refine n_some ?_ | rw [List.getD_cons_zero] | rw [List.getD_cons_succ]))
  have S := S.d1.d1.to (r.or (sn.or (one b9 [.int .u8 u.k, .bool u.m, .int .i64 u.re, .int .i64 u.st, .slice p9 u.of.length cap9] 25)))
  refine h (.mk 4 m re 0 [u]) _ (sn.or (one b9 [.int .u8 u.k, .bool u.m, .int .i64 u.re, .int .i64 u.st, .slice p9 u.of.length cap9] 25)) a5 st5 _ (hfin (o4.bd (o5.bd .ret))) ha5 S (fun b o hbo => ?_) (ty_one hty0)
  rcases hbo with hbo | ⟨rfl, _⟩
  · have := hf b o hbo; omega
  · omega
theorem kindq_step {rec : Nat → Rd' TyD} {left : Nat} (hl : left ≤ 1000) (hrec : 1 < left → ∃ m, left = m + 1 ∧ KindQ s rec m) : KindQ s (kindS s rec left) left := by
  intro X w0 w r L rb a st K S ha hs h
  refine Tryd.ok_ref06_reader_kind ?_
  unfold Tryd.F_ref06_reader_kind
  refine S.alM fun b4 w1 hb4 _ S => ?_
  have S := S.swap
  refine c_q_next S fun w2 S => ?_
  (repeat (first | refine s_p ?_ | refine s_c (by omega) ?_ | refine S.ld ?_ | refine S.ldB ?_ | refine S.ce ?_ | refine S.ceB ?_ | refine s_q ?_ | refine s_qc (by omega) ?_ | refine n_some ?_ | rw [List.getD_cons_zero] | rw [List.getD_cons_succ]))
  rw [nx_is 105 (n := 105) (by decide) (by decide)]
  refine c_b (fun hc => ?_) (fun hc1 => ?_)
  · have hcc : st = false ∧ cmB s a [105] = true := by simpa using hc
    clear hc
    obtain ⟨rfl, hc⟩ := hcc
    refine c_q_word S ha hs (by decide) fun a1 st1 w3 ha1 S o1 => ?_
    refine p_build (cs := #[.int .u8 1, .bool false, .int .i64 0, .int .i64 0, .slice none 0 0]) (by kernel_rfl) ?_
    refine S.stB fun w4 S => ?_
    (repeat (first | refine s_p ?_ | refine s_c (by omega) ?_ | refine S.ld ?_ | refine S.ldB ?_ | refine S.ce ?_ | refine S.ceB ?_ | refine s_q ?_ | refine s_qc (by omega) ?_ | refine n_some ?_ | rw [List.getD_cons_zero] | rw [List.getD_cons_succ]))
    refine h (.mk 1 false 0 0 []) _ nothing a1 st1 _ ?_ ha1 (S.d1.to (r.or nothing)) (fun _ _ h => h.elim) ty_leaf
    rw [kindS, if_pos hc]
    exact o1.bd .ret
  (repeat (first | refine s_p ?_ | refine s_c (by omega) ?_ | refine S.ld ?_ | refine S.ldB ?_ | refine S.ce ?_ | refine S.ceB ?_ | refine s_q ?_ | refine s_qc (by omega) ?_ | refine n_some ?_ | rw [List.getD_cons_zero] | rw [List.getD_cons_succ]))
  rw [nx_is 35 (n := 35) (by decide) (by decide)]
  refine c_b (fun hc => ?_) (fun hc2 => ?_)
  · have hcc : st = false ∧ cmB s a [35] = true := by simpa using hc
    clear hc
    obtain ⟨rfl, hc⟩ := hcc
    obtain ⟨ha1, e1, hd⟩ := cm_take hc
    (repeat (first | refine s_p ?_ | refine s_c (by omega) ?_ | refine S.ld ?_ | refine S.ldB ?_ | refine S.ce ?_ | refine S.ceB ?_ | refine s_q ?_ | refine s_qc (by omega) ?_ | refine n_some ?_ | rw [List.getD_cons_zero] | rw [List.getD_cons_succ]))
    refine S.st fun w3 S => ?_
    have S : StX X w0 r w3 (rqC rb s (a + 1) false :: t4C b4 :: L) := S
    refine c_q_number S ha1 hs (by decide) (by decide) fun a2 st2 n w4 ha2 h0 _ S o2 => ?_
    refine p_build (cs := #[.int .u8 5, .bool false, .int .i64 0, .int .i64 n, .slice none 0 0]) (by kernel_rfl) ?_
    refine S.stB fun w5 S => ?_
    (repeat (first | refine s_p ?_ | refine s_c (by omega) ?_ | refine S.ld ?_ | refine S.ldB ?_ | refine S.ce ?_ | refine S.ceB ?_ | refine s_q ?_ | refine s_qc (by omega) ?_ | refine n_some ?_ | rw [List.getD_cons_zero] | rw [List.getD_cons_succ]))
    refine h (.mk 5 false 0 n []) _ nothing a2 st2 _ ?_ ha2 (S.d1.to (r.or nothing)) (fun _ _ h => h.elim) ty_leaf
    rw [kindS, if_neg (by rw [hd]; decide), if_neg (by rw [hd]; decide), if_pos hc]
    exact (Out.ok e1).bd (o2.bd .ret)
  (repeat (first | refine s_p ?_ | refine s_c (by omega) ?_ | refine S.ld ?_ | refine S.ldB ?_ | refine S.ce ?_ | refine S.ceB ?_ | refine s_q ?_ | refine s_qc (by omega) ?_ | refine n_some ?_ | rw [List.getD_cons_zero] | rw [List.getD_cons_succ]))
  rw [nx_is 98 (n := 98) (by decide) (by decide)]
  refine c_b (fun hc => ?_) (fun hc3 => ?_)
  · have hcc : st = false ∧ cmB s a [98] = true := by simpa using hc
    clear hc
    obtain ⟨rfl, hc⟩ := hcc
    obtain ⟨_, _, hd⟩ := cm_take hc
    refine c_q_word S ha hs (by decide) fun a1 st1 w3 ha1 S o1 => ?_
    refine p_build (cs := #[.int .u8 2, .bool false, .int .i64 0, .int .i64 0, .slice none 0 0]) (by kernel_rfl) ?_
    refine S.stB fun w4 S => ?_
    (repeat (first | refine s_p ?_ | refine s_c (by omega) ?_ | refine S.ld ?_ | refine S.ldB ?_ | refine S.ce ?_ | refine S.ceB ?_ | refine s_q ?_ | refine s_qc (by omega) ?_ | refine n_some ?_ | rw [List.getD_cons_zero] | rw [List.getD_cons_succ]))
    refine h (.mk 2 false 0 0 []) _ nothing a1 st1 _ ?_ ha1 (S.d1.to (r.or nothing)) (fun _ _ h => h.elim) ty_leaf
    rw [kindS, if_neg (by rw [hd]; decide), if_pos hc]
    exact o1.bd .ret
  (repeat (first | refine s_p ?_ | refine s_c (by omega) ?_ | refine S.ld ?_ | refine S.ldB ?_ | refine S.ce ?_ | refine S.ceB ?_ | refine s_q ?_ | refine s_qc (by omega) ?_ | refine n_some ?_ | rw [List.getD_cons_zero] | rw [List.getD_cons_succ]))
  rw [nx_is 66 (n := 66) (by decide) (by decide)]
  refine c_b (fun hc => ?_) (fun hc4 => ?_)
  · have hcc : st = false ∧ cmB s a [66] = true := by simpa using hc
    clear hc
    obtain ⟨rfl, hc⟩ := hcc
    obtain ⟨_, _, hd⟩ := cm_take hc
    (first | refine s_p ?_ | refine s_c (by omega) ?_)
    refine c_if (fun hlt => ?_) (fun hge => ?_)
    · (repeat (first | refine s_p ?_ | refine s_c (by omega) ?_ | refine S.ld ?_ | refine S.ldB ?_ | refine S.ce ?_ | refine S.ceB ?_ | refine s_q ?_ | refine s_qc (by omega) ?_ | refine n_some ?_ | rw [List.getD_cons_zero] | rw [List.getD_cons_succ]))
      refine S.st fun w3 S => ?_
      refine p_build (cs := #[.int .u8 0, .bool false, .int .i64 0, .int .i64 0, .slice none 0 0]) (by kernel_rfl) ?_
      refine S.stB fun w4 S => ?_
      (repeat (first | refine s_p ?_ | refine s_c (by omega) ?_ | refine S.ld ?_ | refine S.ldB ?_ | refine S.ce ?_ | refine S.ceB ?_ | refine s_q ?_ | refine s_qc (by omega) ?_ | refine n_some ?_ | rw [List.getD_cons_zero] | rw [List.getD_cons_succ]))
      refine h (.mk 0 false 0 0 []) _ nothing a true _ (.no ?_) ha (S.d1.to (r.or nothing)) (fun _ _ h => h.elim) ty_leaf
      rw [kindS, if_neg (by rw [hd]; decide), if_neg (by rw [hd]; decide), if_neg (by rw [hd]; decide), if_neg (by simp; omega), if_neg (by simp; omega)]
    obtain ⟨m, rfl, hkind⟩ := hrec (by omega)
    have hR : kindS s rec (m + 1) a = bd (tkR s [66, 111, 120, 60] a) fun _ a => bd (rec a) fun u a => bd (tkR s [62] a) fun _ a => (a, some (.mk 3 false 0 0 [u])) := by
      rw [kindS, if_neg (by rw [hd]; decide), if_neg (by rw [hd]; decide), if_neg (by rw [hd]; decide), if_pos (by rw [hc]; simp; omega)]
    rw [hR] at h
    refine c_q_word S ha hs (by decide) fun a1 st1 w6 ha1 S o1 => ?_
    (first | refine s_p ?_ | refine s_c (by omega) ?_)
    rw [show ((m + 1 : Nat) : Int) - 1 = (m : Int) by omega]
    have hb46 : b4 < w6.heap.size := Asr.lt (x := t4C b4) (S.has _ (by simp)) rfl
    refine hkind S ha1 hs (fun u v sn a2 st2 w7 o2 ha2 S hf hty => ?_)
    have hty0 := hty
    obtain ⟨p9, cap9, rfl, _⟩ := hty
    refine w_lit (e := 25) (cs := [.int .u8 u.k, .bool u.m, .int .i64 u.re, .int .i64 u.st, .slice p9 u.of.length cap9]) (by kernel_rfl) fun b9 w9 hb9 e9 _ B9 => ?_
    have hb47 : b4 < w7.heap.size := Asr.lt (x := t4C b4) (S.has _ (by simp)) rfl
    have S := S.add e9 (by omega) B9
    have S := S.frz
    refine p_build (cs := #[.int .u8 3, .bool false, .int .i64 0, .int .i64 0, .slice (some ⟨b9, 0, none⟩) 1 1]) (by kernel_rfl) ?_
    refine S.al fun b6 w10 S => ?_
    have S := S.swap
    refine S.stB fun w11 S => ?_
    refine c_q_word S ha2 hs (by decide) fun a3 st3 w12 ha3 S o3 => ?_
    (repeat (first | refine s_p ?_ | refine s_c (by omega) ?_ | refine S.ld ?_ | refine S.ldB ?_ | refine S.ce ?_ | refine S.ceB ?_ | refine s_q ?_ | refine s_qc (by omega) ?_ | refine n_some ?_ | rw [List.getD_cons_zero] | rw [List.getD_cons_succ]))
    refine S.stB fun w13 S => ?_
    (repeat (first | refine s_p ?_ | refine s_c (by omega) ?_ | refine S.ld ?_ | refine S.ldB ?_ | refine S.ce ?_ | refine S.ceB ?_ | refine s_q ?_ | refine s_qc (by omega) ?_ | refine n_some ?_ | rw [List.getD_cons_zero] | rw [List.getD_cons_succ]))
    have S := S.d1.d1.to (r.or (sn.or (one b9 [.int .u8 u.k, .bool u.m, .int .i64 u.re, .int .i64 u.st, .slice p9 u.of.length cap9] 25)))
    refine h (.mk 3 false 0 0 [u]) _ (sn.or (one b9 [.int .u8 u.k, .bool u.m, .int .i64 u.re, .int .i64 u.st, .slice p9 u.of.length cap9] 25)) a3 st3 _ (o1.bd (o2.bd (o3.bd .ret))) ha3 S (fun b o hbo => ?_) (ty_one hty0)
    rcases hbo with hbo | ⟨rfl, _⟩
    · have := hf b o hbo; omega
    · omega
  (repeat (first | refine s_p ?_ | refine s_c (by omega) ?_ | refine S.ld ?_ | refine S.ldB ?_ | refine S.ce ?_ | refine S.ceB ?_ | refine s_q ?_ | refine s_qc (by omega) ?_ | refine n_some ?_ | rw [List.getD_cons_zero] | rw [List.getD_cons_succ]))
  rw [nx_is 38 (n := 38) (by decide) (by decide)]
  refine c_b (fun hc => ?_) (fun hc5 => ?_)
  · have hcc : st = false ∧ cmB s a [38] = true := by simpa using hc
    clear hc
    obtain ⟨rfl, hc⟩ := hcc
    obtain ⟨_, _, hd⟩ := cm_take hc
    have hR : kindS s rec left a = if 1 < left then refS s rec left a else (a, none) := by
      rw [kindS, if_neg (by rw [hd]; decide), if_neg (by rw [hd]; decide), if_neg (by rw [hd]; decide), if_neg (by rw [hd]; simp), hc, Bool.true_and]
      by_cases h1 : 1 < left <;> simp [h1]
    rw [hR] at h
    (first | refine s_p ?_ | refine s_c (by omega) ?_)
    refine c_if (fun hlt => ?_) (fun hge => ?_)
    · (repeat (first | refine s_p ?_ | refine s_c (by omega) ?_ | refine S.ld ?_ | refine S.ldB ?_ | refine S.ce ?_ | refine S.ceB ?_ | refine s_q ?_ | refine s_qc (by omega) ?_ | refine n_some ?_ | rw [List.getD_cons_zero] | rw [List.getD_cons_succ]))
      refine S.st fun w3 S => ?_
      refine p_build (cs := #[.int .u8 0, .bool false, .int .i64 0, .int .i64 0, .slice none 0 0]) (by kernel_rfl) ?_
      refine S.stB fun w4 S => ?_
      (repeat (first | refine s_p ?_ | refine s_c (by omega) ?_ | refine S.ld ?_ | refine S.ldB ?_ | refine S.ce ?_ | refine S.ceB ?_ | refine s_q ?_ | refine s_qc (by omega) ?_ | refine n_some ?_ | rw [List.getD_cons_zero] | rw [List.getD_cons_succ]))
      refine h (.mk 0 false 0 0 []) _ nothing a true _ (.no ?_) ha (S.d1.to (r.or nothing)) (fun _ _ h => h.elim) ty_leaf
      rw [if_neg (by omega)]
    obtain ⟨m, rfl, hkind⟩ := hrec (by omega)
    rw [if_pos (by omega)] at h
    have hb46 : b4 < w2.heap.size := Asr.lt (x := t4C b4) (S.has _ (by simp)) rfl
    refine c_q_reference hkind (by omega) S ha hs hc (fun u v sn a2 st2 w7 o2 ha2 S hf hty => ?_)
    have hty0 := hty
    obtain ⟨p9, cap9, rfl, _⟩ := hty
    refine S.stB fun w8 S => ?_
    (repeat (first | refine s_p ?_ | refine s_c (by omega) ?_ | refine S.ld ?_ | refine S.ldB ?_ | refine S.ce ?_ | refine S.ceB ?_ | refine s_q ?_ | refine s_qc (by omega) ?_ | refine n_some ?_ | rw [List.getD_cons_zero] | rw [List.getD_cons_succ]))
    exact h u _ sn a2 st2 _ o2 ha2 S.d1 (fun b o hbo => by have := hf b o hbo; omega) hty0
  · (repeat (first | refine s_p ?_ | refine s_c (by omega) ?_ | refine S.ld ?_ | refine S.ldB ?_ | refine S.ce ?_ | refine S.ceB ?_ | refine s_q ?_ | refine s_qc (by omega) ?_ | refine n_some ?_ | rw [List.getD_cons_zero] | rw [List.getD_cons_succ]))
    refine S.st fun w3 S => ?_
    refine p_build (cs := #[.int .u8 0, .bool false, .int .i64 0, .int .i64 0, .slice none 0 0]) (by kernel_rfl) ?_
    refine S.stB fun w4 S => ?_
    (repeat (first | refine s_p ?_ | refine s_c (by omega) ?_ | refine S.ld ?_ | refine S.ldB ?_ | refine S.ce ?_ | refine S.ceB ?_ | refine s_q ?_ | refine s_qc (by omega) ?_ | refine n_some ?_ | rw [List.getD_cons_zero] | rw [List.getD_cons_succ]))
    refine h (.mk 0 false 0 0 []) _ nothing a true _ (.cut fun hst => ?_) ha (S.d1.to (r.or nothing)) (fun _ _ h => h.elim) ty_leaf
    rw [hst] at hc1 hc2 hc3 hc4 hc5
    simp only [Bool.not_false, Bool.true_and] at hc1 hc2 hc3 hc4 hc5
    rw [kindS, hc1, hc2, hc3, hc4, hc5]; rfl
theorem c_q_kind (s : List UInt8) : ∀ n, n ≤ 1000 → KindQ s (kindR s n) n := by
  intro n
  induction n with
  | zero => intro _; exact kindq_step (by decide) fun h => absurd h (by decide)
  | succ n ih => intro hn; exact kindq_step hn fun _ => ⟨n, rfl, ih (by omega)⟩
end
end Go.Proofs
end

section
namespace Go.Proofs
open Go.Sh
set_option maxRecDepth 100000
set_option linter.unusedSimpArgs false
set_option linter.unusedVariables false
theorem out_read {s : List UInt8} {a : Nat} {st : Bool} {t : TyD} (o : Out false 0 (kindR s 48 0) a st t) :
    readT s = if st || decide ((a : Int) < s.length) then (zeroD, (a : Int), 60) else (t, 0, 0) := by
  rw [readT]
  revert o
  generalize kindR s 48 0 = x
  obtain ⟨a1, o1⟩ := x
  cases o1 with
  | none =>
    rintro ⟨rfl, rfl⟩
    simp
  | some u =>
    rintro ⟨rfl, rfl, rfl⟩
    simp only [Bool.false_or, decide_eq_true_eq]
theorem c_ref06_Read {s : List UInt8} {w : World} {r : Gh} {K : Value → World → Prop} (hr : Holds r w) (hs : s.length ≤ 1000000000)
    (h : ∀ v sn w', Ext w w' → New w sn w' → TyG sn v (readT s).1 → K (.tuple #[v, .int .i64 (readT s).2.1, .int .i64 (readT s).2.2]) w') :
    oCall Tryd.prog Tryd.n_ref06_Read #[.string (bs s)] w K := by
  refine Tryd.ok_ref06_Read ?_
  unfold Tryd.F_ref06_Read
  have S := St.start hr
  refine S.al fun b2 w1 S => ?_
  refine p_build (cs := #[.string (bs s), .int .i64 0, .bool false]) (by kernel_rfl) ?_
  refine S.box fun rb w2 S => ?_
  have esz := S.ext.size
  have S : StX noX w r w2 (rqC rb s 0 false :: .cell b2 [.int .u8 0, .bool false, .int .i64 0, .int .i64 0, .slice none 0 0] 25 :: []) := S
  refine c_q_kind s 48 (by decide) S (Nat.zero_le _) hs fun t v sn a st w3 o ha S hf hty => ?_
  have hT := out_read o
  have hty0 := hty
  obtain ⟨p9, cap9, rfl, _⟩ := hty
  refine S.al fun b6 w4 S => ?_
  refine S.stB fun w5 S => ?_
  (repeat (first | refine s_p ?_ | refine s_c (by omega) ?_ | refine S.ld ?_ | refine S.ldB ?_ | refine S.ce ?_ | refine S.ceB ?_ | refine s_q ?_ | refine s_qc (by omega) ?_ | refine n_some ?_ | rw [List.getD_cons_zero] | rw [List.getD_cons_succ]))
  refine j_borH (c := decide ((a : Int) < s.length)) (fun _ K2 hK2 => ?_) ?_
  · (repeat (first | refine s_p ?_ | refine s_c (by omega) ?_ | refine S.ld ?_ | refine S.ldB ?_ | refine S.ce ?_ | refine S.ceB ?_ | refine s_q ?_ | refine s_qc (by omega) ?_ | refine n_some ?_ | rw [List.getD_cons_zero] | rw [List.getD_cons_succ]))
    exact hK2
  refine c_b (fun hc => ?_) (fun hc => ?_)
  · rw [if_pos hc] at hT
    rw [hT] at h
    refine p_build (cs := #[.int .u8 0, .bool false, .int .i64 0, .int .i64 0, .slice none 0 0]) (by kernel_rfl) ?_
    have S := S.go (Ext.drew _)
    (repeat (first | refine s_p ?_ | refine s_c (by omega) ?_ | refine S.ld ?_ | refine S.ldB ?_ | refine S.ce ?_ | refine S.ceB ?_ | refine s_q ?_ | refine s_qc (by omega) ?_ | refine n_some ?_ | rw [List.getD_cons_zero] | rw [List.getD_cons_succ]))
    refine ⟨?_, ?_⟩
    · refine w_q ?_
      (repeat (first | refine s_p ?_ | refine s_c (by omega) ?_ | refine S.ld ?_ | refine S.ldB ?_ | refine S.ce ?_ | refine S.ceB ?_ | refine s_q ?_ | refine s_qc (by omega) ?_ | refine n_some ?_ | rw [List.getD_cons_zero] | rw [List.getD_cons_succ]))
      refine S.stB fun w6 S => ?_
      (repeat (first | refine s_p ?_ | refine s_c (by omega) ?_ | refine S.ld ?_ | refine S.ldB ?_ | refine S.ce ?_ | refine S.ceB ?_ | refine s_q ?_ | refine s_qc (by omega) ?_ | refine n_some ?_ | rw [List.getD_cons_zero] | rw [List.getD_cons_succ]))
      exact h _ nothing _ S.ext New.nothing ty_leaf
    · refine S.stB fun w6 S => ?_
      refine w_q ?_
      (repeat (first | refine s_p ?_ | refine s_c (by omega) ?_ | refine S.ld ?_ | refine S.ldB ?_ | refine S.ce ?_ | refine S.ceB ?_ | refine s_q ?_ | refine s_qc (by omega) ?_ | refine n_some ?_ | rw [List.getD_cons_zero] | rw [List.getD_cons_succ]))
      exact h _ nothing _ S.ext New.nothing ty_leaf
  · rw [hc, if_neg (by simp)] at hT
    rw [hT] at h
    (repeat (first | refine s_p ?_ | refine s_c (by omega) ?_ | refine S.ld ?_ | refine S.ldB ?_ | refine S.ce ?_ | refine S.ceB ?_ | refine s_q ?_ | refine s_qc (by omega) ?_ | refine n_some ?_ | rw [List.getD_cons_zero] | rw [List.getD_cons_succ]))
    refine S.stB fun w6 S => ?_
    (repeat (first | refine s_p ?_ | refine s_c (by omega) ?_ | refine S.ld ?_ | refine S.ldB ?_ | refine S.ce ?_ | refine S.ceB ?_ | refine s_q ?_ | refine s_qc (by omega) ?_ | refine n_some ?_ | rw [List.getD_cons_zero] | rw [List.getD_cons_succ]))
    exact h _ sn _ S.ext ⟨S.holds.le (h := inferInstance), fun b o hb => Nat.le_trans esz (hf b o hb)⟩ hty0
end Go.Proofs
end

section
namespace Go.Proofs
open Go.Sh
set_option maxRecDepth 100000
set_option linter.unusedSimpArgs false
set_option linter.unusedVariables false
mutual
/-- no list of a type is longer than three -/
def TyD.few : TyD → Prop
  | .mk _ _ _ _ of => of.length ≤ 3 ∧ TyD.fews of
def TyD.fews : List TyD → Prop
  | [] => True
  | t :: l => TyD.few t ∧ TyD.fews l
end
theorem TyD.fews_mem : ∀ {l : List TyD}, TyD.fews l → ∀ t ∈ l, t.few
  | [], _, t, h => by cases h
  | x :: l, h, t, ht => by
    rcases List.mem_cons.1 ht with rfl | ht
    · exact h.1
    · exact TyD.fews_mem h.2 t ht
theorem TyD.few_of {t : TyD} (h : t.few) : t.of.length ≤ 3 ∧ ∀ u ∈ t.of, u.few := by
  cases t with | mk k m re st of => exact ⟨h.1, TyD.fews_mem h.2⟩
theorem ChnG.few {sn : Gh} {v : Value} {t : TyD} (h : ChnG sn v t) : t.few := by
  induction h with
  | nil => exact ⟨Nat.zero_le _, trivial⟩
  | one _ _ _ _ ih => exact ⟨by simp, ih, trivial⟩
theorem c_law06_equal : ∀ (n : Nat) (t : TyD), t.ht ≤ n → t.few → ∀ {w : World} {r : Gh} {va vb : Value} {K : Value → World → Prop}, Holds r w → TyG r va t → TyG r vb t →
    (∀ w', Ext w w' → K (.bool true) w') → oCall Tryd.prog Tryd.n_law06_equal #[va, vb] w K := by
  intro n
  induction n with
  | zero => intro t h; cases t; simp [TyD.ht] at h
  | succ n ih =>
    intro t hn hf w r va vb K hr ha hb h
    obtain ⟨hlen, hfs⟩ := TyD.few_of hf
    obtain ⟨p, cap, rfl, _, _, hra⟩ := ha
    obtain ⟨q, cap', rfl, _, _, hrb⟩ := hb
    refine Tryd.ok_law06_equal ?_
    unfold Tryd.F_law06_equal
    have S := St.start hr
    refine S.box fun b2 w1 S => ?_
    refine S.box fun b3 w2 S => ?_
    (repeat (first | refine s_p ?_ | refine s_c (by omega) ?_ | refine S.ld ?_ | refine S.ldB ?_ | refine S.ce ?_ | refine S.ceB ?_ | refine s_q ?_ | refine s_qc (by omega) ?_ | refine n_some ?_ | rw [List.getD_cons_zero] | rw [List.getD_cons_succ]))
    refine j_borH (c := false) (fun _ K2 hK2 => ?_) ?_
    · (repeat (first | refine s_p ?_ | refine s_c (by omega) ?_ | refine S.ld ?_ | refine S.ldB ?_ | refine S.ce ?_ | refine S.ceB ?_ | refine s_q ?_ | refine s_qc (by omega) ?_ | refine n_some ?_ | rw [List.getD_cons_zero] | rw [List.getD_cons_succ]))
      simpa using hK2
    refine j_borH (c := false) (fun _ K2 hK2 => ?_) ?_
    · (repeat (first | refine s_p ?_ | refine s_c (by omega) ?_ | refine S.ld ?_ | refine S.ldB ?_ | refine S.ce ?_ | refine S.ceB ?_ | refine s_q ?_ | refine s_qc (by omega) ?_ | refine n_some ?_ | rw [List.getD_cons_zero] | rw [List.getD_cons_succ]))
      simpa using hK2
    refine j_borH (c := false) (fun _ K2 hK2 => ?_) ?_
    · (repeat (first | refine s_p ?_ | refine s_c (by omega) ?_ | refine S.ld ?_ | refine S.ldB ?_ | refine S.ce ?_ | refine S.ceB ?_ | refine s_q ?_ | refine s_qc (by omega) ?_ | refine n_some ?_ | rw [List.getD_cons_zero] | rw [List.getD_cons_succ]))
      simpa using hK2
    refine j_borH (c := false) (fun _ K2 hK2 => ?_) ?_
    · (repeat (first | refine s_p ?_ | refine s_c (by omega) ?_ | refine S.ld ?_ | refine S.ldB ?_ | refine S.ce ?_ | refine S.ceB ?_ | refine s_q ?_ | refine s_qc (by omega) ?_ | refine n_some ?_ | rw [List.getD_cons_zero] | rw [List.getD_cons_succ]))
      simpa using hK2
    refine c_f (by simp) ?_
    refine l_intro (ι := Nat) (fun i => [.int .i64 i]) (fun i w' => i ≤ t.of.length ∧ StX noX w r w' [.cell b3 (Value.agg #[.int .u8 t.k, .bool t.m, .int .i64 t.re, .int .i64 t.st, .slice q t.of.length cap']).cells.toList 25, .cell b2 (Value.agg #[.int .u8 t.k, .bool t.m, .int .i64 t.re, .int .i64 t.st, .slice p t.of.length cap]).cells.toList 25])
      (fun i => t.of.length - i) 0 rfl ⟨Nat.zero_le _, S⟩ ?_
    clear S
    rintro i d w3 ⟨hi, S⟩ K6 hK6
    rw [List.getD_cons_zero]
    (repeat (first | refine s_p ?_ | refine s_c (by omega) ?_ | refine S.ld ?_ | refine S.ldB ?_ | refine S.ce ?_ | refine S.ceB ?_ | refine s_q ?_ | refine s_qc (by omega) ?_ | refine n_some ?_ | rw [List.getD_cons_zero] | rw [List.getD_cons_succ]))
    refine c_b (fun hlt => ?_) (fun hge => h _ S.ext)
    have hlt : i < t.of.length := by simpa using hlt
    have S := S.go (Ext.drew _)
    obtain ⟨ba, oa, ca, rfl, hca1, hca2, hca3⟩ := ty_elem S hra hlt
    obtain ⟨bb, ob, cb, rfl, hcb1, hcb2, hcb3⟩ := ty_elem S hrb hlt
    (repeat (first | refine s_p ?_ | refine s_c (by omega) ?_ | refine S.ld ?_ | refine S.ldB ?_ | refine S.ce ?_ | refine S.ceB ?_ | refine s_q ?_ | refine s_qc (by omega) ?_ | refine n_some ?_ | rw [List.getD_cons_zero] | rw [List.getD_cons_succ]))
    refine s_ldN (n := 5) hca1 (fun j v hj => by rw [Int.toNat_natCast]; exact hca2 j v hj) ?_
    (repeat (first | refine s_p ?_ | refine s_c (by omega) ?_ | refine S.ld ?_ | refine S.ldB ?_ | refine S.ce ?_ | refine S.ceB ?_ | refine s_q ?_ | refine s_qc (by omega) ?_ | refine n_some ?_ | rw [List.getD_cons_zero] | rw [List.getD_cons_succ]))
    refine s_ldN (n := 5) hcb1 (fun j v hj => by rw [Int.toNat_natCast]; exact hcb2 j v hj) ?_
    refine ih (t.of[i]) (by have := TyD.ht_of (List.getElem_mem hlt); omega) (hfs _ (List.getElem_mem hlt)) S.holds hca3 hcb3 fun w4 e4 => ?_
    have S := S.go e4
    (repeat (first | refine s_p ?_ | refine s_c (by omega) ?_ | refine S.ld ?_ | refine S.ldB ?_ | refine S.ce ?_ | refine S.ceB ?_ | refine s_q ?_ | refine s_qc (by omega) ?_ | refine n_some ?_ | rw [List.getD_cons_zero] | rw [List.getD_cons_succ]))
    rw [show ((i : Int) + 1) = ((i + 1 : Nat) : Int) by omega]
    exact hK6 (i + 1) _ ⟨hlt, S⟩ (by omega)
/-- blocks that may turn turn, none of them one's own -/
theorem _root_.Go.Sh.StX.butX {X Y : Nat → Prop} {w0 w w' : World} {r q : Gh} {L : List Asr} (S : StX X w0 r w L) (e : ExtBut Y w w') (hq : ∀ b o, q b o → r b o ∧ ¬ Y b) (hX : ∀ b, Y b → w0.heap.size ≤ b ∨ X b)
    (hL : ∀ x ∈ L, ∀ k, x.dom k → ¬ Y k) : StX X w0 q w' L :=
  ⟨S.x.but e hX, fun b o hb => (e.block b (S.holds.lt (hq b o hb).1) (hq b o hb).2).trans (S.holds b o (hq b o hb).1),
    fun x hx => Asr.keep (S.has x hx) fun k hk => e.block k (Asr.lt (S.has x hx) hk) (hL x hx k hk), fun x hx k hk => ⟨(S.mine x hx k hk).1, fun o ho => (S.mine x hx k hk).2 o (hq k o ho).1⟩, S.apart⟩
def Gh.dom (r : Gh) (b : Nat) : Prop := ∃ o, r b o
theorem c_law06_spoil {sn : Gh} {v : Value} {t : TyD} (hch : ChnG sn v t) : ∀ {w : World} {K : Value → World → Prop}, TyG sn v t → Holds sn w →
    (∀ w', ExtBut (Gh.dom sn) w w' → K (.tuple #[]) w') → oCall Tryd.prog Tryd.n_law06_spoil #[v] w K := by
  induction hch with
  | nil =>
    intro w K ht hr h
    obtain ⟨p, cap, rfl, _, _, _⟩ := ht
    refine Tryd.ok_law06_spoil ?_
    unfold Tryd.F_law06_spoil
    have S := St.start hr
    refine S.box fun b2 w1 S => ?_
    refine l_intro (ι := Unit) (fun _ => [.int .i64 0]) (fun _ w' => w' = w1) (fun _ => 0) () rfl rfl ?_
    rintro ⟨⟩ d w5 rfl K6 hK6
    rw [List.getD_cons_zero]
    (repeat (first | refine s_p ?_ | refine s_c (by omega) ?_ | refine S.ld ?_ | refine S.ldB ?_ | refine S.ce ?_ | refine S.ceB ?_ | refine s_q ?_ | refine s_qc (by omega) ?_ | refine n_some ?_ | rw [List.getD_cons_zero] | rw [List.getD_cons_succ]))
    refine c_f rfl ?_
    exact h _ (.of_ext S.ext)
  | @one sn b c k re st m u no hc hty _ ih =>
    intro w K ht hr h
    refine Tryd.ok_law06_spoil ?_
    unfold Tryd.F_law06_spoil
    have B : Blk w b c 25 := hr b _ (.inr ⟨rfl, rfl⟩)
    have S : StX (Gh.dom (sn.or (one b c 25))) w sn w [.cell b c 25] :=
      ⟨.refl _ _, fun b o hb => hr b o (.inl hb), fun x hx => by rw [List.mem_singleton.1 hx]; exact B, fun x hx k hk => by
        rw [List.mem_singleton.1 hx] at hk
        obtain rfl : k = b := hk
        exact ⟨.inr ⟨_, .inr ⟨rfl, rfl⟩⟩, no⟩, List.pairwise_singleton _ _⟩
    refine S.box fun b1 w1 S => ?_
    refine l_intro (ι := Bool × Gh × List Value) (fun i => [.int .i64 (if i.1 then 1 else 0)]) (fun i w' => (i.1 = false → i.2.1 = sn ∧ i.2.2 = c) ∧ StX (Gh.dom (sn.or (one b c 25))) w i.2.1 w' [.cell b1 (Value.agg #[.int .u8 k, .bool m, .int .i64 re, .int .i64 st, .slice (some ⟨b, 0, none⟩) 1 1]).cells.toList 25, .cell b i.2.2 25])
      (fun i => if i.1 then 0 else 1) (false, sn, c) rfl ⟨fun _ => ⟨rfl, rfl⟩, S⟩ ?_
    clear S
    rintro ⟨i, q, c'⟩ d w5 ⟨hi, S⟩ K6 hK6
    simp only at hi S ⊢
    rw [List.getD_cons_zero]
    cases i with
    | true =>
      (repeat (first | refine s_p ?_ | refine s_c (by omega) ?_ | refine S.ld ?_ | refine S.ldB ?_ | refine S.ce ?_ | refine S.ceB ?_ | refine s_q ?_ | refine s_qc (by omega) ?_ | refine n_some ?_ | rw [List.getD_cons_zero] | rw [List.getD_cons_succ]))
      refine c_f (by simp) ?_
      exact h _ S.x
    | false =>
      obtain ⟨rfl, rfl⟩ := hi rfl
      rw [show (if false = true then (1 : Int) else 0) = 0 from rfl]
      (repeat (first | refine s_p ?_ | refine s_c (by omega) ?_ | refine S.ld ?_ | refine S.ldB ?_ | refine S.ce ?_ | refine S.ceB ?_ | refine s_q ?_ | refine s_qc (by omega) ?_ | refine n_some ?_ | rw [List.getD_cons_zero] | rw [List.getD_cons_succ]))
      refine S.ldB (b := b) ?_ hc
      refine ih hty S.holds fun w6 e6 => ?_
      have S := S.butX (q := nothing) e6 (fun _ _ h => h.elim) (fun k hk => .inr (by obtain ⟨o, ho⟩ := hk; exact ⟨o, .inl ho⟩)) (fun x hx k hk hy => by obtain ⟨o, ho⟩ := hy; exact (S.mine x hx k hk).2 o ho)
      (repeat (first | refine s_p ?_ | refine s_c (by omega) ?_ | refine S.ld ?_ | refine S.ldB ?_ | refine S.ce ?_ | refine S.ceB ?_ | refine s_q ?_ | refine s_qc (by omega) ?_ | refine n_some ?_ | rw [List.getD_cons_zero] | rw [List.getD_cons_succ]))
      refine S.stB (b := b) (hl := hc) fun w7 S => ?_
      (repeat (first | refine s_p ?_ | refine s_c (by omega) ?_ | refine S.ld ?_ | refine S.ldB ?_ | refine S.ce ?_ | refine S.ceB ?_ | refine s_q ?_ | refine s_qc (by omega) ?_ | refine n_some ?_ | rw [List.getD_cons_zero] | rw [List.getD_cons_succ]))
      exact hK6 (true, nothing, [.int .u8 9, .bool false, .int .i64 0, .int .i64 0, .slice none 0 0]) _ ⟨(fun h => by cases h), S⟩ (by simp)
end Go.Proofs
end

section
namespace Go.Proofs
open Go.Shelf
def Tryd.lays171_ren : Go.Shelf.Ren := ⟨fun | 171 => 88 | 243 => 99 | 246 => 101 | 283 => 103 | 284 => 104 | 285 => 105 | 286 => 106 | 129 => 108 | 317 => 107 | 318 => 109 | 319 => 110 | 320 => 111 | 337 => 112 | 338 => 113 | n => n, fun | 3 => 3 | 9 => 9 | 2 => 2 | 4 => 4 | 171 => 129 | 0 => 0 | 53 => 123 | 37 => 131 | 5 => 5 | 173 => 132 | 212 => 135 | 51 => 136 | 20 => 20 | 213 => 137 | 46 => 138 | 232 => 141 | 233 => 142 | n => n, fun | 17 => 0 | 18 => 1 | 19 => 2 | n => n⟩
theorem Tryd.lays171 : Go.Proofs.LaysM.n171 Tryd.prog Tryd.lays171_ren := {
  mixed := by kernel_rfl
  f129 := Tryd.func108.trans (congrArg some (by kernel_rfl))
  f171 := Tryd.func88.trans (congrArg some (by kernel_rfl))
  f243 := Tryd.func99.trans (congrArg some (by kernel_rfl))
  f246 := Tryd.func101.trans (congrArg some (by kernel_rfl))
  f283 := Tryd.func103.trans (congrArg some (by kernel_rfl))
  f284 := Tryd.func104.trans (congrArg some (by kernel_rfl))
  f285 := Tryd.func105.trans (congrArg some (by kernel_rfl))
  f286 := Tryd.func106.trans (congrArg some (by kernel_rfl))
  f317 := Tryd.func107.trans (congrArg some (by kernel_rfl))
  f318 := Tryd.func109.trans (congrArg some (by kernel_rfl))
  f319 := Tryd.func110.trans (congrArg some (by kernel_rfl))
  f320 := Tryd.func111.trans (congrArg some (by kernel_rfl))
  f337 := Tryd.func112.trans (congrArg some (by kernel_rfl))
  f338 := Tryd.func113.trans (congrArg some (by kernel_rfl))
  t0 := Tryd.underlying0
  a0 := Tryd.isAgg0
  z0 := Tryd.sizeOf0
  v0 := Tryd.zeroValue0
  t2 := Tryd.underlying2
  a2 := Tryd.isAgg2
  z2 := Tryd.sizeOf2
  v2 := Tryd.zeroValue2
  t3 := Tryd.underlying3
  a3 := Tryd.isAgg3
  z3 := Tryd.sizeOf3
  v3 := Tryd.zeroValue3
  t4 := Tryd.underlying4
  a4 := Tryd.isAgg4
  z4 := Tryd.sizeOf4
  v4 := Tryd.zeroValue4
  t5 := Tryd.underlying5
  a5 := Tryd.isAgg5
  z5 := Tryd.sizeOf5
  v5 := Tryd.zeroValue5
  t9 := Tryd.underlying9
  a9 := Tryd.isAgg9
  z9 := Tryd.sizeOf9
  v9 := Tryd.zeroValue9
  t20 := Tryd.underlying20
  a20 := Tryd.isAgg20
  z20 := Tryd.sizeOf20
  v20 := Tryd.zeroValue20
  t37 := Tryd.underlying131
  a37 := Tryd.isAgg131
  z37 := Tryd.sizeOf131
  v37 := Tryd.zeroValue131
  t46 := Tryd.underlying138
  a46 := Tryd.isAgg138
  z46 := Tryd.sizeOf138
  v46 := Tryd.zeroValue138
  t51 := Tryd.underlying136
  a51 := Tryd.isAgg136
  z51 := Tryd.sizeOf136
  v51 := Tryd.zeroValue136
  t53 := Tryd.underlying123
  a53 := Tryd.isAgg123
  z53 := Tryd.sizeOf123
  v53 := Tryd.zeroValue123
  t171 := Tryd.underlying129
  a171 := Tryd.isAgg129
  z171 := Tryd.sizeOf129
  v171 := Tryd.zeroValue129
  t173 := Tryd.underlying132
  a173 := Tryd.isAgg132
  z173 := Tryd.sizeOf132
  v173 := Tryd.zeroValue132
  t212 := Tryd.underlying135
  a212 := Tryd.isAgg135
  z212 := Tryd.sizeOf135
  v212 := Tryd.zeroValue135
  t213 := Tryd.underlying137
  a213 := Tryd.isAgg137
  z213 := Tryd.sizeOf137
  t232 := Tryd.underlying141
  a232 := Tryd.isAgg141
  z232 := Tryd.sizeOf141
  v232 := Tryd.zeroValue141
  t233 := Tryd.underlying142
  a233 := Tryd.isAgg142
  z233 := Tryd.sizeOf142
  v233 := Tryd.zeroValue142
  g17 := by kernel_rfl
  g18 := by kernel_rfl
  g19 := by kernel_rfl
  i0 := by kernel_rfl
  i2 := by kernel_rfl
  i3 := by kernel_rfl
  i4 := by kernel_rfl
  i5 := by kernel_rfl
  i9 := by kernel_rfl
  i20 := by kernel_rfl
  i37 := by kernel_rfl
  i46 := by kernel_rfl
  i51 := by kernel_rfl
  i53 := by kernel_rfl
  i171 := by kernel_rfl
  i173 := by kernel_rfl
  i212 := by kernel_rfl
  i232 := by kernel_rfl
  i233 := by kernel_rfl
  m17 := by kernel_rfl
  m18 := by kernel_rfl
  m19 := by kernel_rfl }
end Go.Proofs
namespace Go.Proofs
open Go.Sh
set_option linter.unusedSimpArgs false
/-- the table of tens lies as it was laid -/
def TabG (r : Gh) : Prop := Ob r fun w => Lib.TabIs Tryd.prog w "internal/strconv.uint64pow10" .u64 Lib.pow10Tab
theorem TabG.up {r s : Gh} (h : TabG r) [l : Le r s] : TabG s := Ob.up h
theorem digs_eq : ∀ (f n : Nat), n < 10 ^ f → 0 < f → digsF f n = Lib.decDigits n
  | 0, _, _, h => absurd h (Nat.lt_irrefl _)
  | f + 1, n, h, _ => by
    rw [digsF, Lib.decDigits]
    by_cases h1 : n < 10
    · rw [if_pos h1, dif_pos h1]
    · rw [if_neg h1, dif_neg h1]
      have h2 : n / 10 < 10 ^ f := by
        rw [Nat.pow_succ] at h
        omega
      have h3 : 0 < f := by
        rcases Nat.eq_zero_or_pos f with rfl | h3
        · simp at h; omega
        · exact h3
      rw [digs_eq f (n / 10) h2 h3]
theorem ext_grow {w : World} {k : Nat} {os : Array Obj} : Ext w (Sort.grow (w.drewN k) os) :=
  ⟨rfl, rfl, rfl, by simp [Sort.grow, World.drewN], fun j hj => by
    show (w.heap ++ os)[j]? = _
    exact Array.getElem?_append_left hj⟩
theorem c_Itoa {r : Gh} {x : Int} (hT : TabG r) (h0 : 0 ≤ x) (h1 : x ≤ 9223372036854775807) : ItoaOK r x := by
  intro w K hr h
  refine Calls.mono (Any.strconv_Itoa Tryd.lays171 x (by omega) h1 w (hT w hr)) ?_
  rintro e w' ⟨rfl, k, os, rfl⟩
  refine ⟨_, rfl, ?_⟩
  have := h _ (ext_grow (w := w) (k := k) (os := os))
  rw [itoa, digs_eq 20 x.toNat (by omega) (by decide)] at this
  rw [Lib.itoa, if_neg (by omega)]
  exact this
theorem nums_ok {r : Gh} (hT : TabG r) {t : TyD} (h : ∀ u ∈ t.chain, u.re ≤ 9223372036854775807 ∧ u.st ≤ 9223372036854775807) : NumsOK r t := fun u hu =>
  ⟨fun h0 => c_Itoa hT h0 (h u hu).1, fun h0 => c_Itoa hT h0 (h u hu).2⟩
end Go.Proofs
end

section
namespace Go.Proofs
open Go.Sh
set_option maxRecDepth 100000
set_option linter.unusedSimpArgs false
set_option linter.unusedVariables false
theorem byte_drop {s rest : List UInt8} {a : Nat} {c : UInt8} (h : s.drop a = c :: rest) : a < s.length ∧ byteAt s a = (c.toNat : Int) ∧ s.drop (a + 1) = rest := by
  have hlt : a < s.length := by
    by_cases hl : a < s.length
    · exact hl
    · rw [List.drop_eq_nil_of_le (by omega)] at h; cases h
  rw [List.drop_eq_getElem_cons hlt] at h
  obtain ⟨h1, h2⟩ := List.cons.inj h
  refine ⟨hlt, ?_, h2⟩
  rw [byteAt, List.getD_eq_getElem?_getD, List.getElem?_eq_getElem hlt, ← h1]; rfl
theorem cm_cons {s rest : List UInt8} {a : Nat} {c : UInt8} (h : s.drop a = c :: rest) (d : UInt8) : cmB s a [d] = decide (c = d) := by
  rw [cmB, prefB, h]
  have h1 : decide ((([d] : List UInt8).length : Int) ≤ ((c :: rest).length : Int)) = true := by simp; omega
  rw [h1, Bool.true_and, show (c :: rest).take ([d] : List UInt8).length = [c] from rfl]
  by_cases h2 : c = d
  · simp [h2]
  · simp [h2]
theorem cm_true {s : List UInt8} {a : Nat} {d : UInt8} (h : cmB s a [d] = true) : ∃ rest, s.drop a = d :: rest := by
  cases hd : s.drop a with
  | nil => rw [cmB, prefB, hd] at h; simp at h
  | cons c rest => rw [cm_cons hd] at h; exact ⟨rest, by rw [of_decide_eq_true h]⟩
theorem take_ok {s : List UInt8} : ∀ (p rest : List UInt8) (a : Nat), a ≤ s.length → s.drop a = p ++ rest → takeR s p a = (a + p.length, true) ∧ s.drop (a + p.length) = rest ∧ a + p.length ≤ s.length
  | [], rest, a, ha, h => ⟨rfl, h, ha⟩
  | c :: p, rest, a, ha, h => by
    obtain ⟨h1, h2, h3⟩ := byte_drop h
    obtain ⟨h4, h5, h6⟩ := take_ok p rest (a + 1) h1 h3
    rw [takeR, if_neg (by simp [h2]; omega), h4]
    have e : a + (c :: p).length = a + 1 + p.length := by simp only [List.length_cons]; omega
    rw [e]
    exact ⟨rfl, h5, h6⟩
theorem tk_ok {s p rest : List UInt8} {a : Nat} (ha : a ≤ s.length) (h : s.drop a = p ++ rest) : ∃ a', tkR s p a = (a', some ()) ∧ s.drop a' = rest ∧ a' ≤ s.length := by
  obtain ⟨h1, h2, h3⟩ := take_ok p rest a ha h
  exact ⟨_, by rw [tkR, h1]; rfl, h2, h3⟩
theorem take_inv {s : List UInt8} : ∀ (p : List UInt8) (a a' : Nat), a ≤ s.length → takeR s p a = (a', true) → a' ≤ s.length ∧ s.drop a = p ++ s.drop a'
  | [], a, a', ha, h => by cases h; exact ⟨ha, rfl⟩
  | c :: p, a, a', ha, h => by
    rw [takeR] at h
    split at h
    · cases h
    · rename_i hn
      simp only [Bool.or_eq_true, decide_eq_true_eq, not_or, Classical.not_not, ne_eq] at hn
      obtain ⟨hn1, hn2⟩ := hn
      have hlt : a < s.length := by omega
      obtain ⟨h1, h2⟩ := take_inv p (a + 1) a' hlt h
      refine ⟨h1, ?_⟩
      have hd := List.drop_eq_getElem_cons hlt
      obtain ⟨_, hb, _⟩ := byte_drop hd
      have hc : s[a] = c := UInt8.toNat_inj.1 (by omega)
      rw [hd, h2, hc]; rfl
theorem tk_inv {s p : List UInt8} {a a' : Nat} (ha : a ≤ s.length) (h : tkR s p a = (a', some ())) : a' ≤ s.length ∧ s.drop a = p ++ s.drop a' := by
  rw [tkR] at h
  obtain ⟨h1, h2⟩ := Prod.mk.inj h
  split at h2
  · rename_i h3
    exact take_inv p a a' ha (Prod.ext h1 h3)
  · cases h2
theorem bd_inv {α β : Type} {x : Rd' α} {k : α → Nat → Rd' β} {a' : Nat} {v : β} (h : bd x k = (a', some v)) : ∃ a1 u, x = (a1, some u) ∧ k u a1 = (a', some v) := by
  obtain ⟨a1, o⟩ := x
  cases o with
  | none => cases h
  | some u => exact ⟨a1, u, rfl, h⟩
/-- no digit comes -/
def noDg (l : List UInt8) : Prop := ∀ c r, l = c :: r → c.toNat < 48 ∨ 57 < c.toNat
theorem dg_byte {d : Nat} (h : d < 10) : (UInt8.ofNat (48 + d)).toNat = 48 + d := by
  rw [UInt8.toNat_ofNat']; omega
theorem dec_pos (x : Nat) : 0 < (Lib.decDigits x).length := by rw [Lib.decDigits_length]; exact Lib.nDigits_pos x
theorem dec_head : ∀ (x : Nat), 0 < x → ∃ c r, Lib.decDigits x = c :: r ∧ 48 < c.toNat ∧ c.toNat ≤ 57 := by
  intro x
  induction x using Nat.strongRecOn with
  | _ x ih =>
    intro hx
    rw [Lib.decDigits]
    split
    · rename_i h
      exact ⟨_, [], rfl, by rw [dg_byte h]; omega, by rw [dg_byte h]; omega⟩
    · rename_i h
      obtain ⟨c, r, e, h1⟩ := ih (x / 10) (by omega) (by omega)
      exact ⟨c, r ++ [UInt8.ofNat (48 + x % 10)], by rw [e]; rfl, h1⟩
theorem dig_run {s : List UInt8} {most : Int} {a : Nat} : ∀ (x fuel : Nat) (rest : List UInt8), s.drop a = Lib.decDigits x ++ rest → (x : Int) ≤ most → (Lib.decDigits x).length ≤ fuel →
    digR s most a fuel a 0 = digR s most a (fuel - (Lib.decDigits x).length) (a + (Lib.decDigits x).length) x := by
  intro x
  induction x using Nat.strongRecOn with
  | _ x ih =>
    intro fuel rest hd hm hf
    rw [Lib.decDigits] at hd hf ⊢
    by_cases hx : x < 10
    · rw [dif_pos hx] at hd hf ⊢
      simp only [List.length_singleton, List.singleton_append] at hd hf ⊢
      obtain ⟨fuel, rfl⟩ : ∃ g, fuel = g + 1 := ⟨fuel - 1, by omega⟩
      obtain ⟨h1, h2, _⟩ := byte_drop hd
      rw [dg_byte hx] at h2
      rw [digR, h2, if_pos (by simp; omega), if_neg (by simp; omega)]
      congr 1
      omega
    · rw [dif_neg hx] at hd hf ⊢
      rw [List.append_assoc] at hd
      rw [List.length_append, List.length_singleton] at hf ⊢
      rw [ih (x / 10) (by omega) fuel _ hd (by omega) (by omega)]
      have hd0 := hd
      obtain ⟨c, r, hc, hc1, _⟩ := dec_head (x / 10) (by omega)
      rw [hc] at hd0
      obtain ⟨_, hba, _⟩ := byte_drop hd0
      have hdb : s.drop (a + (Lib.decDigits (x / 10)).length) = UInt8.ofNat (48 + x % 10) :: rest := by
        rw [← List.drop_drop, hd, List.drop_left]; rfl
      obtain ⟨h1, h2, _⟩ := byte_drop hdb
      rw [dg_byte (by omega)] at h2
      have hp := dec_pos (x / 10)
      obtain ⟨g, hg⟩ : ∃ g, fuel - (Lib.decDigits (x / 10)).length = g + 1 := ⟨fuel - (Lib.decDigits (x / 10)).length - 1, by omega⟩
      rw [hg, digR, h2, if_pos (by simp; omega), if_neg (by simp only [hba, Bool.or_eq_true, Bool.and_eq_true, decide_eq_true_eq]; omega)]
      congr 1
      · omega
      · omega
theorem dig_ok {s rest : List UInt8} {most : Int} {a x : Nat} (ha : a ≤ s.length) (hd : s.drop a = Lib.decDigits x ++ rest) (hm : (x : Int) ≤ most) (hr : noDg rest) :
    ∃ a', digT s most a = (a', some (x : Int)) ∧ s.drop a' = rest ∧ a' ≤ s.length := by
  have hl : s.length - a = (Lib.decDigits x).length + rest.length := by
    have := congrArg List.length hd
    simpa [List.length_drop] using this
  have hp := dec_pos x
  have h1 := dig_run (most := most) x (s.length + 1 - a) rest hd hm (by omega)
  have hdr : s.drop (a + (Lib.decDigits x).length) = rest := by rw [← List.drop_drop, hd, List.drop_left]
  obtain ⟨g, hg⟩ : ∃ g, s.length + 1 - a - (Lib.decDigits x).length = g + 1 := ⟨s.length + 1 - a - (Lib.decDigits x).length - 1, by omega⟩
  rw [hg, digR, if_neg (by
    cases hrest : rest with
    | nil =>
      rw [hrest] at hl
      simp only [List.length_nil] at hl
      simp only [Bool.and_eq_true, decide_eq_true_eq]
      omega
    | cons c r =>
      rw [hrest] at hdr
      obtain ⟨_, h2, _⟩ := byte_drop hdr
      have := hr c r hrest
      simp only [h2, Bool.and_eq_true, decide_eq_true_eq]
      omega)] at h1
  refine ⟨a + (Lib.decDigits x).length, ?_, hdr, by omega⟩
  rw [digT, h1]
  simp only
  rw [if_neg (by omega)]
theorem dec_big {u : Nat} (h : ¬ u < 10) : Lib.decDigits u = Lib.decDigits (u / 10) ++ [UInt8.ofNat (48 + u % 10)] := by
  rw [Lib.decDigits, dif_neg h]
theorem dig_inv_run {s : List UInt8} {most : Int} {a a' : Nat} {x : Int} : ∀ (f b n : Nat), a ≤ b → b ≤ s.length → (b = a → n = 0) → (a < b → s.drop a = Lib.decDigits n ++ s.drop b ∧ (n = 0 → byteAt s a = 48)) →
    digR s most a f b n = (a', x) → a' ≤ s.length ∧ (a' ≠ a → ∃ m : Nat, x = m ∧ s.drop a = Lib.decDigits m ++ s.drop a')
  | 0, b, n, hab, hb, h0, h1, h => by
    cases h
    exact ⟨hb, fun hne => ⟨n, rfl, (h1 (by omega)).1⟩⟩
  | f + 1, b, n, hab, hb, h0, h1, h => by
    rw [digR] at h
    split at h
    · rename_i hc
      simp only [Bool.and_eq_true, decide_eq_true_eq] at hc
      obtain ⟨⟨hc1, hc2⟩, hc3⟩ := hc
      split at h
      · cases h
        exact ⟨hb, fun hne => ⟨n, rfl, (h1 (by omega)).1⟩⟩
      · rename_i hn
        simp only [Bool.or_eq_true, Bool.and_eq_true, decide_eq_true_eq, not_or] at hn
        have hlt : b < s.length := by omega
        obtain ⟨d, hdd⟩ : ∃ d : Nat, byteAt s b - 48 = (d : Int) := ⟨(byteAt s b - 48).toNat, by omega⟩
        have hd10 : d < 10 := by omega
        have hdr := List.drop_eq_getElem_cons hlt
        obtain ⟨_, hby, _⟩ := byte_drop hdr
        have hbyte : s[b] = UInt8.ofNat (48 + d) := UInt8.toNat_inj.1 (by rw [dg_byte hd10]; omega)
        rw [hbyte] at hdr
        rw [hdd, show (10 * (n : Int) + d) = ((10 * n + d : Nat) : Int) by omega] at h
        refine dig_inv_run f (b + 1) (10 * n + d) (by omega) hlt (fun h => by omega) (fun _ => ?_) h
        by_cases hba : b = a
        · have hn0 := h0 hba
          subst hba hn0
          refine ⟨?_, fun h => by omega⟩
          rw [hdr, Lib.decDigits, dif_pos (by omega)]
          simp
        · obtain ⟨h2, h3⟩ := h1 (by omega)
          have hn0 : n ≠ 0 := fun h => hn.1 ⟨by omega, h3 h⟩
          refine ⟨?_, fun h => by omega⟩
          rw [h2, hdr, dec_big (u := 10 * n + d) (by omega), show (10 * n + d) / 10 = n by omega, show (10 * n + d) % 10 = d by omega, List.append_assoc]
          rfl
    · cases h
      exact ⟨hb, fun hne => ⟨n, rfl, (h1 (by omega)).1⟩⟩
theorem dig_inv {s : List UInt8} {most : Int} {a a' : Nat} {x : Int} (ha : a ≤ s.length) (h : digT s most a = (a', some x)) : a' ≤ s.length ∧ ∃ m : Nat, x = m ∧ s.drop a = Lib.decDigits m ++ s.drop a' := by
  rw [digT] at h
  split at h
  · cases h
  · rename_i hne
    have hx : digR s most a (s.length + 1 - a) a ((0 : Nat) : Int) = (a', x) := by
      obtain ⟨h1, h2⟩ := Prod.mk.inj h
      exact Prod.ext h1 (Option.some.inj h2)
    obtain ⟨h1, h2⟩ := dig_inv_run (s.length + 1 - a) a 0 (Nat.le_refl _) ha (fun _ => rfl) (fun h => absurd h (Nat.lt_irrefl _)) hx
    have : (digR s most a (s.length + 1 - a) a 0).1 = a' := congrArg Prod.fst hx
    exact ⟨h1, h2 (by rw [← this]; exact hne)⟩
theorem itoa_dec {x : Int} (h0 : 0 ≤ x) (h1 : x ≤ 9223372036854775807) : itoa x = Lib.decDigits x.toNat := digs_eq 20 x.toNat (by omega) (by decide)
theorem itoa_nat {m : Nat} (h1 : m ≤ 9223372036854775807) : itoa (m : Int) = Lib.decDigits m := by rw [itoa_dec (by omega) (by omega)]; rfl
theorem look_full {n : Nat} {t : TyD} (h : lookB 32 (n + 1) t = true) : t = .mk 1 false 0 0 [] ∨ t = .mk 2 false 0 0 [] ∨ (∃ st, 0 ≤ st ∧ st < 32 ∧ t = .mk 5 false 0 st []) ∨
    (∃ u, t = .mk 3 false 0 0 [u] ∧ lookB 32 n u = true) ∨ (∃ m re u, t = .mk 4 m re 0 [u] ∧ -1 ≤ re ∧ lookB 32 n u = true) := by
  have hc := look_cases h
  rw [lookB_succ] at h
  have he : t = .mk t.k t.m t.re t.st t.of := by cases t; rfl
  rcases hc with ⟨ho, hk⟩ | ⟨u, ho, hu, hk⟩
  · by_cases h1 : t.k = 1 ∨ t.k = 2
    · rw [if_pos h1] at h
      simp only [Bool.and_eq_true, Bool.not_eq_true', decide_eq_true_eq] at h
      obtain ⟨⟨⟨hm, hr⟩, hs⟩, _⟩ := h
      rw [hm, hr, hs, ho] at he
      rcases h1 with h1 | h1
      · rw [h1] at he; exact .inl he
      · rw [h1] at he; exact .inr (.inl he)
    · have h5 : t.k = 5 := by omega
      rw [if_neg h1, if_pos h5] at h
      simp only [Bool.and_eq_true, Bool.not_eq_true', decide_eq_true_eq] at h
      obtain ⟨⟨⟨⟨hm, hr⟩, _⟩, hs1⟩, hs2⟩ := h
      rw [hm, hr, ho, h5] at he
      exact .inr (.inr (.inl ⟨t.st, hs1, hs2, he⟩))
  · rw [if_neg (by omega), if_neg (by omega)] at h
    rcases hk with h3 | h4
    · rw [if_pos h3] at h
      simp only [Bool.and_eq_true, Bool.not_eq_true', decide_eq_true_eq] at h
      obtain ⟨⟨⟨hm, hr⟩, hs⟩, _⟩ := h
      rw [hm, hr, hs, ho, h3] at he
      exact .inr (.inr (.inr (.inl ⟨u, he, hu⟩)))
    · rw [if_neg (by omega), if_pos h4] at h
      simp only [Bool.and_eq_true, Bool.not_eq_true', decide_eq_true_eq] at h
      obtain ⟨⟨hr, hs⟩, _⟩ := h
      rw [hs, ho, h4] at he
      exact .inr (.inr (.inr (.inr ⟨t.m, t.re, u, he, hr, hu⟩)))
/-- all numbers of a type are an int's -/
def inNums (t : TyD) : Prop := ∀ u ∈ t.chain, u.re ≤ 9223372036854775807 ∧ u.st ≤ 9223372036854775807
theorem inNums_one {k re st : Int} {m : Bool} {u : TyD} : inNums (.mk k m re st [u]) ↔ (re ≤ 9223372036854775807 ∧ st ≤ 9223372036854775807) ∧ inNums u := by
  have : (TyD.mk k m re st [u]).chain = .mk k m re st [u] :: u.chain := rfl
  rw [inNums, this]
  simp only [List.mem_cons, forall_eq_or_imp]
  exact Iff.rfl
theorem inNums_nil {k re st : Int} {m : Bool} : inNums (.mk k m re st []) ↔ (re ≤ 9223372036854775807 ∧ st ≤ 9223372036854775807) := by
  have : (TyD.mk k m re st []).chain = [.mk k m re st []] := rfl
  rw [inNums, this]
  simp only [List.mem_singleton, forall_eq]
  exact Iff.rfl
theorem kindR_succ (s : List UInt8) (n a : Nat) : kindR s (n + 1) a = kindS s (kindR s n) (n + 1) a := rfl
/-- how a type's text begins -/
theorem text_head {n : Nat} {t : TyD} (h : lookB 32 n t = true) : ∃ c r, textB n t = c :: r ∧ c ≠ 39 ∧ c ≠ 109 ∧ c ≠ 32 ∧ (c = 38 → 2 ≤ n) := by
  cases n with
  | zero => cases h
  | succ n =>
    rcases look_full h with rfl | rfl | ⟨st, _, _, rfl⟩ | ⟨u, rfl, hu⟩ | ⟨m, re, u, rfl, _, hu⟩
    · exact ⟨105, [54, 52], rfl, by decide, by decide, by decide, fun h => absurd h (by decide)⟩
    · exact ⟨98, [111, 111, 108], rfl, by decide, by decide, by decide, fun h => absurd h (by decide)⟩
    · exact ⟨35, itoa st, rfl, by decide, by decide, by decide, fun h => absurd h (by decide)⟩
    · exact ⟨66, _, rfl, by decide, by decide, by decide, fun h => absurd h (by decide)⟩
    · have hn : 1 ≤ n := by
        cases n with
        | zero => cases hu
        | succ n => omega
      have e : textB (n + 1) (.mk 4 m re 0 [u]) = (if headB re m == [38] && decide (byteAt (textB n u) 0 = 38) then [38, 32] else headB re m) ++ textB n u := rfl
      rw [e]
      split
      · exact ⟨38, _, rfl, by decide, by decide, by decide, fun _ => by omega⟩
      · exact ⟨38, _, rfl, by decide, by decide, by decide, fun _ => by omega⟩
theorem head_bare {re : Int} {m : Bool} : (headB re m == [38]) = (decide (re < 0) && !m) := by
  unfold headB
  by_cases h : 0 ≤ re
  · rw [if_pos h]
    have : ¬ re < 0 := by omega
    cases m <;> simp [this]
  · rw [if_neg h]
    have : re < 0 := by omega
    cases m <;> simp [this]
theorem byte_cons {c : UInt8} {r : List UInt8} : byteAt (c :: r) 0 = (c.toNat : Int) := rfl
/-- OUT: a type's text is read as the type -/
theorem kind_text : ∀ (n : Nat) (t : TyD), lookB 32 n t = true → inNums t → ∀ (s rest : List UInt8) (a : Nat), a ≤ s.length → s.drop a = textB n t ++ rest → noDg rest →
    ∃ a', kindR s n a = (a', some t) ∧ s.drop a' = rest ∧ a' ≤ s.length := by
  intro n
  induction n with
  | zero => intro t h; cases h
  | succ n ih =>
    intro t hl hI s rest a ha hd hr
    rw [kindR_succ]
    rcases look_full hl with rfl | rfl | ⟨st, h0, h1, rfl⟩ | ⟨u, rfl, hu⟩ | ⟨m, re, u, rfl, hre, hu⟩
    · have e : textB (n + 1) (.mk 1 false 0 0 []) = [105, 54, 52] := rfl
      rw [e] at hd
      obtain ⟨a1, e1, d1, l1⟩ := tk_ok ha hd
      have hc := cm_cons (rest := [54, 52] ++ rest) hd
      refine ⟨a1, ?_, d1, l1⟩
      rw [kindS, hc, if_pos (by decide), e1]; rfl
    · have e : textB (n + 1) (.mk 2 false 0 0 []) = [98, 111, 111, 108] := rfl
      rw [e] at hd
      obtain ⟨a1, e1, d1, l1⟩ := tk_ok ha hd
      have hc := cm_cons (rest := [111, 111, 108] ++ rest) hd
      refine ⟨a1, ?_, d1, l1⟩
      rw [kindS, hc, if_neg (by decide), hc, if_pos (by decide), e1]; rfl
    · have e : textB (n + 1) (.mk 5 false 0 st []) = [35] ++ itoa st := rfl
      rw [e, List.append_assoc, itoa_dec h0 (by omega)] at hd
      obtain ⟨a1, e1, d1, l1⟩ := tk_ok ha hd
      have hc := cm_cons (rest := Lib.decDigits st.toNat ++ rest) hd
      obtain ⟨a2, e2, d2, l2⟩ := dig_ok (most := 31) l1 d1 (by omega) hr
      refine ⟨a2, ?_, d2, l2⟩
      rw [kindS, hc, if_neg (by decide), hc, if_neg (by decide), hc, if_pos (by decide), e1]
      simp only [bd]
      rw [e2, Int.toNat_of_nonneg h0]
    · have hn : 1 < n + 1 := by
        cases n with
        | zero => cases hu
        | succ n => omega
      have e : textB (n + 1) (.mk 3 false 0 0 [u]) = [66, 111, 120, 60] ++ textB n u ++ [62] := rfl
      rw [e, List.append_assoc, List.append_assoc] at hd
      obtain ⟨a1, e1, d1, l1⟩ := tk_ok ha hd
      have hc := cm_cons (rest := [111, 120, 60] ++ (textB n u ++ ([62] ++ rest))) hd
      obtain ⟨a2, e2, d2, l2⟩ := ih u hu (inNums_one.1 hI).2 s _ a1 l1 d1 (by
        intro c r h
        obtain ⟨rfl, _⟩ := List.cons.inj h
        exact .inr (by decide))
      obtain ⟨a3, e3, d3, l3⟩ := tk_ok l2 d2
      refine ⟨a3, ?_, d3, l3⟩
      rw [kindS, hc, if_neg (by decide), hc, if_neg (by decide), hc, if_neg (by decide), hc, if_pos (by simp; omega), e1]
      simp only [bd]
      rw [e2]
      simp only [bd]
      rw [e3]
    · have hn : 1 < n + 1 := by
        cases n with
        | zero => cases hu
        | succ n => omega
      obtain ⟨c, tr, ht, hc39, hc109, hc32, hc38⟩ := text_head hu
      have e : textB (n + 1) (.mk 4 m re 0 [u]) = (if headB re m == [38] && decide (byteAt (textB n u) 0 = 38) then [38, 32] else headB re m) ++ textB n u := rfl
      have hb38 : decide (byteAt (textB n u) 0 = 38) = decide (c = 38) := by
        rw [ht, byte_cons]
        refine decide_eq_decide.2 ⟨fun h => UInt8.toNat_inj.1 (by have : c.toNat = 38 := by omega
                                                                  rw [this]; rfl), fun h => by rw [h]; rfl⟩
      rw [e, hb38, head_bare] at hd
      -- what stands behind the sign
      have hd1 : ∃ b, s.drop a = [38] ++ ((if 0 ≤ re then [39] ++ itoa re ++ [32] else []) ++ ((if m then [109, 117, 116, 32] else []) ++ (b ++ (textB n u ++ rest)))) ∧ b = if (decide (re < 0) && !m) && decide (c = 38) then [32] else [] := by
        refine ⟨_, ?_, rfl⟩
        rw [hd]
        by_cases hb : ((decide (re < 0) && !m) && decide (c = 38)) = true
        · rw [if_pos hb, if_pos hb]
          simp only [Bool.and_eq_true, decide_eq_true_eq, Bool.not_eq_true'] at hb
          rw [if_neg (by omega), hb.1.2]
          simp
        · rw [if_neg hb, if_neg hb, headB]
          simp
      obtain ⟨b, hd1, hb⟩ := hd1
      have hcm := cm_cons hd1
      obtain ⟨a1, e1, d1, l1⟩ := tk_ok ha hd1
      have hrg : ∃ a2, rgR s a1 = (a2, some re) ∧ s.drop a2 = (if m then [109, 117, 116, 32] else []) ++ (b ++ (textB n u ++ rest)) ∧ a2 ≤ s.length := by
        by_cases h0 : 0 ≤ re
        · rw [if_pos h0, List.append_assoc, List.append_assoc, itoa_dec h0 (inNums_one.1 hI).1.1] at d1
          obtain ⟨a2, e2, d2, l2⟩ := tk_ok l1 d1
          obtain ⟨a3, e3, d3, l3⟩ := dig_ok (most := 9223372036854775807) l2 d2 (by have := (inNums_one.1 hI).1.1; omega) (by
            intro c r h
            obtain ⟨rfl, _⟩ := List.cons.inj h
            exact .inl (by decide))
          obtain ⟨a4, e4, d4, l4⟩ := tk_ok l3 d3
          refine ⟨a4, ?_, d4, l4⟩
          have hc := cm_cons d1
          rw [rgR, hc, if_pos (by decide), e2]
          simp only [bd]
          rw [e3]
          simp only [bd]
          rw [e4, Int.toNat_of_nonneg h0]
        · rw [if_neg h0, List.nil_append] at d1
          refine ⟨a1, ?_, d1, l1⟩
          have hre1 : re = -1 := by omega
          have hno : cmB s a1 [39] = false := by
            cases m with
            | true => rw [cm_cons d1]; decide
            | false =>
              rw [if_neg (by simp), List.nil_append, hb] at d1
              split at d1
              · rw [cm_cons d1]; decide
              · rw [List.nil_append, ht] at d1
                rw [cm_cons d1]; exact decide_eq_false hc39
          rw [rgR, hno, if_neg (by simp), hre1]
      obtain ⟨a2, e2, d2, l2⟩ := hrg
      have hmt : ∃ a3, mtR s a2 = (a3, some m) ∧ s.drop a3 = b ++ (textB n u ++ rest) ∧ a3 ≤ s.length := by
        cases m with
        | true =>
          rw [if_pos rfl] at d2
          obtain ⟨a3, e3, d3, l3⟩ := tk_ok l2 d2
          refine ⟨a3, ?_, d3, l3⟩
          rw [mtR, cm_cons d2, if_pos (by decide), e3]; rfl
        | false =>
          rw [if_neg (by simp), List.nil_append] at d2
          refine ⟨a2, ?_, d2, l2⟩
          have hno : cmB s a2 [109] = false := by
            rw [hb] at d2
            split at d2
            · rw [cm_cons d2]; decide
            · rw [List.nil_append, ht] at d2
              rw [cm_cons d2]; exact decide_eq_false hc109
          rw [mtR, hno, if_neg (by simp)]
      obtain ⟨a3, e3, d3, l3⟩ := hmt
      have hbr : ∃ a4, brR s (n + 1) re m a3 = (a4, some ()) ∧ s.drop a4 = textB n u ++ rest ∧ a4 ≤ s.length := by
        cases hbare : (decide (re < 0) && !m) with
        | false =>
          rw [hb, hbare, Bool.false_and, if_neg (by simp), List.nil_append] at d3
          exact ⟨a3, by rw [brR, hbare]; rfl, d3, l3⟩
        | true =>
          by_cases h38 : c = 38
          · rw [hb, hbare, decide_eq_true h38, if_pos (by simp)] at d3
            obtain ⟨a4, e4, d4, l4⟩ := tk_ok l3 d3
            refine ⟨a4, ?_, d4, l4⟩
            have hc := cm_cons d3
            have d4' := d4
            rw [ht] at d4'
            rw [brR, hbare, hc, hc, if_neg (by decide), if_pos (by have := hc38 h38; simp; omega), e4]
            simp only [bd]
            rw [cm_cons d4', h38]; rfl
          · rw [hb, hbare, decide_eq_false h38, if_neg (by simp), List.nil_append] at d3
            refine ⟨a3, ?_, d3, l3⟩
            rw [ht] at d3
            have hc := cm_cons d3
            rw [brR, hbare, hc, hc, decide_eq_false h38, decide_eq_false hc32]; rfl
      obtain ⟨a4, e4, d4, l4⟩ := hbr
      obtain ⟨a5, e5, d5, l5⟩ := ih u hu (inNums_one.1 hI).2 s rest a4 l4 d4 hr
      refine ⟨a5, ?_, d5, l5⟩
      rw [kindS, hcm, if_neg (by decide), hcm, if_neg (by decide), hcm, if_neg (by decide), hcm, if_neg (by simp), hcm, if_pos (by simp; omega), refS, e1]
      simp only [bd]
      rw [e2]; simp only [bd]
      rw [e3]; simp only [bd]
      rw [e4]; simp only [bd]
      rw [e5]
end Go.Proofs
end

section
namespace Go.Proofs
open Go.Sh
set_option maxRecDepth 100000
set_option linter.unusedSimpArgs false

def i64D : TyD := .mk 1 false 0 0 []
def refD (m : Bool) (re : Int) (u : TyD) : TyD := .mk 4 m re 0 [u]
theorem c_law06_i64 {w : World} {K : Value → World → Prop} (h : ∀ v w', Ext w w' → TyG nothing v i64D → K v w') : oCall Tryd.prog Tryd.n_law06_i64 #[] w K := by
  refine Tryd.ok_law06_i64 ?_
  unfold Tryd.F_law06_i64
  have S := St.start (r := nothing) (w := w) (fun _ _ h => h.elim)
  refine S.al fun b2 w1 S => ?_
  (first | refine s_p ?_ | refine s_c (by omega) ?_)
  refine S.stB fun w2 S => ?_
  (repeat (first | refine s_p ?_ | refine s_c (by omega) ?_ | refine S.ld ?_ | refine S.ldB ?_ | refine S.ce ?_ | refine S.ceB ?_ | refine s_q ?_ | refine s_qc (by omega) ?_ | refine n_some ?_ | rw [List.getD_cons_zero] | rw [List.getD_cons_succ]))
  exact h _ _ S.ext ty_leaf
theorem c_law06_ref {m : Bool} {re : Int} {u : TyD} {v : Value} {w : World} {r : Gh} {K : Value → World → Prop} (hr : Holds r w) (hv : TyG r v u)
    (h : ∀ v' sn w', Ext w w' → New w sn w' → TyG (r.or sn) v' (refD m re u) → K v' w') : oCall Tryd.prog Tryd.n_law06_ref #[.bool m, .int .i64 re, v] w K := by
  refine Tryd.ok_law06_ref ?_
  unfold Tryd.F_law06_ref
  have hv0 := hv
  obtain ⟨p, cap, rfl, _⟩ := hv
  have S := St.start hr
  refine S.box fun b2 w1 S => ?_
  refine S.al fun b3 w2 S => ?_
  (repeat (first | refine s_p ?_ | refine s_c (by omega) ?_ | refine S.ld ?_ | refine S.ldB ?_ | refine S.ce ?_ | refine S.ceB ?_ | refine s_q ?_ | refine s_qc (by omega) ?_ | refine n_some ?_ | rw [List.getD_cons_zero] | rw [List.getD_cons_succ]))
  have esz := S.ext.size
  refine w_lit (e := 25) (cs := [.int .u8 u.k, .bool u.m, .int .i64 u.re, .int .i64 u.st, .slice p u.of.length cap]) (by kernel_rfl) fun b9 w9 hb9 e9 _ B9 => ?_
  have S := S.add e9 (by omega) B9
  have S := S.frz
  (first | refine s_p ?_ | refine s_c (by omega) ?_)
  refine S.stB fun w10 S => ?_
  (repeat (first | refine s_p ?_ | refine s_c (by omega) ?_ | refine S.ld ?_ | refine S.ldB ?_ | refine S.ce ?_ | refine S.ceB ?_ | refine s_q ?_ | refine s_qc (by omega) ?_ | refine n_some ?_ | rw [List.getD_cons_zero] | rw [List.getD_cons_succ]))
  refine h _ (one b9 [.int .u8 u.k, .bool u.m, .int .i64 u.re, .int .i64 u.st, .slice p u.of.length cap] 25) _ S.ext ⟨S.holds.le (h := inferInstance), ?_⟩ (ty_one hv0)
  rintro b o ⟨rfl, _⟩
  omega
end Go.Proofs
end

section
namespace Go.Proofs
open Go.Sh
set_option maxRecDepth 100000
set_option linter.unusedSimpArgs false

def awA : TyD := refD true 0 (refD false 1 i64D)
def awB : TyD := refD true 2 (refD false 3 i64D)
def awS : List UInt8 := [38, 39, 48, 32, 109, 117, 116, 32, 38, 39, 49, 32, 105, 54, 52]
theorem aw_asks : asksT awA awB = ([(0, 2), (1, 3), (3, 1)], 0) := by decide +kernel
theorem aw_text : textT awA = (awS, 0) := by decide +kernel
theorem aw_read : readT awS = (awA, 0, 0) := by rfl
theorem aw_look : lookB 0 48 awA = true := by decide +kernel
theorem aw_same : alikeT fEq awA awA = true := by decide +kernel
theorem aw_copies : copiesB awA = false := by decide +kernel
theorem c_law06_awake {w : World} {K : Value → World → Prop} (h : ∀ w', Ext w w' → K (.bool true) w') : oCall Tryd.prog Tryd.n_law06_awake #[] w K := by
  refine Tryd.ok_law06_awake ?_
  unfold Tryd.F_law06_awake
  have S := St.start (r := nothing) (w := w) (fun _ _ h => h.elim)
  refine c_law06_i64 fun v1 w1 e1 h1 => ?_
  have S := S.go e1
  refine c_law06_ref S.holds h1 fun v2 s2 w2 e2 n2 h2 => ?_
  have S := S.new e2 n2
  refine c_law06_ref S.holds h2 fun v3 s3 w3 e3 n3 h3 => ?_
  have S := S.new e3 n3
  have h3' := h3
  obtain ⟨p3, cap3, rfl, _⟩ := h3
  refine S.al fun b1 w4 S => ?_
  refine S.stB fun w5 S => ?_
  have S := S.go (Ext.drew _)
  (repeat (first | refine s_p ?_ | refine s_c (by omega) ?_ | refine S.ld ?_ | refine S.ldB ?_ | refine S.ce ?_ | refine S.ceB ?_ | refine s_q ?_ | refine s_qc (by omega) ?_ | refine n_some ?_ | rw [List.getD_cons_zero] | rw [List.getD_cons_succ]))
  refine c_law06_i64 fun v6 w6 e6 h6 => ⟨e6, ?_⟩
  have S := S.go e6
  refine c_law06_ref S.holds (h6.up (l := inferInstance)) fun v7 s7 w7 e7 n7 h7 => ⟨e7, ?_⟩
  have S := S.new e7 n7
  refine c_law06_ref S.holds h7 fun v8 s8 w8 e8 n8 h8 => ⟨e8, ?_⟩
  have S := S.new e8 n8
  have hA := h3'.up (s := ((((nothing.or s2).or s3).or s7).or s8))
  refine c_types_Asks S.holds hA h8 fun v9 w9 e9 o9 => ?_
  rw [show asksT (refD true 0 (refD false 1 i64D)) (refD true 2 (refD false 3 i64D)) = ([(0, 2), (1, 3), (3, 1)], 0) from aw_asks] at o9 ⊢
  have S := S.take e9 o9
  obtain ⟨p9, cap9, rfl, hp9, _, _, _⟩ := S.rowS v9
  (repeat (first | refine s_p ?_ | refine s_c (by omega) ?_ | refine S.ld ?_ | refine S.ldB ?_ | refine S.ce ?_ | refine S.ceB ?_ | refine s_q ?_ | refine s_qc (by omega) ?_ | refine n_some ?_ | rw [List.getD_cons_zero] | rw [List.getD_cons_succ]))
  have hI : NumsOK ((((nothing.or s2).or s3).or s7).or s8) awA := by
    intro u hu
    have hu : u = awA ∨ u = refD false 1 i64D ∨ u = i64D := by
      have e : awA.chain = [awA, refD false 1 i64D, i64D] := rfl
      rw [e] at hu; simpa using hu
    rcases hu with rfl | rfl | rfl
    · exact ⟨fun _ => itoa_ok_small (by decide) (by decide), fun _ => itoa_ok_small (by decide) (by decide)⟩
    · exact ⟨fun _ => itoa_ok_small (by decide) (by decide), fun _ => itoa_ok_small (by decide) (by decide)⟩
    · exact ⟨fun _ => itoa_ok_small (by decide) (by decide), fun _ => itoa_ok_small (by decide) (by decide)⟩
  refine c_types_Text S.holds hA hI fun w10 e10 => ?_
  rw [show textT (refD true 0 (refD false 1 i64D)) = (awS, 0) from aw_text]
  have S := S.go e10
  (repeat (first | refine s_p ?_ | refine s_c (by omega) ?_ | refine S.ld ?_ | refine S.ldB ?_ | refine S.ce ?_ | refine S.ceB ?_ | refine s_q ?_ | refine s_qc (by omega) ?_ | refine n_some ?_ | rw [List.getD_cons_zero] | rw [List.getD_cons_succ]))
  refine c_types_Read (s := awS) S.holds (by decide) fun v11 s11 w11 e11 n11 h11 _ => ?_
  rw [aw_read] at h11 ⊢
  have S := S.new e11 n11
  have h11' := h11
  obtain ⟨p11, cap11, rfl, _⟩ := h11
  (repeat (first | refine s_p ?_ | refine s_c (by omega) ?_ | refine S.ld ?_ | refine S.ldB ?_ | refine S.ce ?_ | refine S.ceB ?_ | refine s_q ?_ | refine s_qc (by omega) ?_ | refine n_some ?_ | rw [List.getD_cons_zero] | rw [List.getD_cons_succ]))
  refine S.al fun b12 w12 S => ?_
  refine S.stB fun w13 S => ?_
  (repeat (first | refine s_p ?_ | refine s_c (by omega) ?_ | refine S.ld ?_ | refine S.ldB ?_ | refine S.ce ?_ | refine S.ceB ?_ | refine s_q ?_ | refine s_qc (by omega) ?_ | refine n_some ?_ | rw [List.getD_cons_zero] | rw [List.getD_cons_succ]))
  refine c_types_Words_none S.holds hA.up fun w14 e14 => ?_
  rw [show lookB 0 48 (refD true 0 (refD false 1 i64D)) = true from aw_look, if_pos rfl]
  have S := S.go e14
  (repeat (first | refine s_p ?_ | refine s_c (by omega) ?_ | refine S.ld ?_ | refine S.ldB ?_ | refine S.ce ?_ | refine S.ceB ?_ | refine s_q ?_ | refine s_qc (by omega) ?_ | refine n_some ?_ | rw [List.getD_cons_zero] | rw [List.getD_cons_succ]))
  refine j_bandH (c := true) (fun _ K2 hK2 => ?_) ?_
  · (repeat (first | refine s_p ?_ | refine s_c (by omega) ?_ | refine S.ld ?_ | refine S.ldB ?_ | refine S.ce ?_ | refine S.ceB ?_ | refine s_q ?_ | refine s_qc (by omega) ?_ | refine n_some ?_ | rw [List.getD_cons_zero] | rw [List.getD_cons_succ]))
    exact hK2
  refine j_bandH (c := true) (fun _ K2 hK2 => ?_) ?_
  · obtain ⟨_, _, hv, _, _, _, hs⟩ := S.rowS (.slice p9 3 cap9)
    cases hv
    obtain ⟨b9, off9, rfl, _⟩ := hs.at (i := 0) (by decide)
    refine s_c ⟨by decide, by decide⟩ ?_
    refine s_ldN (n := 2) (c := [.int .i64 3, .int .i64 1]) rfl (fun j v hj => ?_) ?_
    · have hx : (cons2 [(0, 2), (1, 3), (3, 1)])[4 + j]? = some v := by
        rw [← hj]
        show ([.int .i64 0, .int .i64 2, .int .i64 1, .int .i64 3, .int .i64 3, .int .i64 1] : List Value)[4 + j]? = _
        rw [Nat.add_comm]; rfl
      obtain ⟨b, off, hp, hc⟩ := hs _ _ hx
      cases hp
      rw [← hc]; congr 2; simp; omega
    (repeat (first | refine s_p ?_ | refine s_c (by omega) ?_ | refine S.ld ?_ | refine S.ldB ?_ | refine S.ce ?_ | refine S.ceB ?_ | refine s_q ?_ | refine s_qc (by omega) ?_ | refine n_some ?_ | rw [List.getD_cons_zero] | rw [List.getD_cons_succ]))
    exact hK2
  refine j_bandH (c := true) (fun _ K2 hK2 => ?_) ?_
  · (repeat (first | refine s_p ?_ | refine s_c (by omega) ?_ | refine S.ld ?_ | refine S.ldB ?_ | refine S.ce ?_ | refine S.ceB ?_ | refine s_q ?_ | refine s_qc (by omega) ?_ | refine n_some ?_ | rw [List.getD_cons_zero] | rw [List.getD_cons_succ]))
    exact hK2
  refine j_bandH (c := true) (fun _ K2 hK2 => ?_) ?_
  · (repeat (first | refine s_p ?_ | refine s_c (by omega) ?_ | refine S.ld ?_ | refine S.ldB ?_ | refine S.ce ?_ | refine S.ceB ?_ | refine s_q ?_ | refine s_qc (by omega) ?_ | refine n_some ?_ | rw [List.getD_cons_zero] | rw [List.getD_cons_succ]))
    exact hK2
  refine j_bandH (c := true) (fun _ K2 hK2 => ?_) ?_
  · (repeat (first | refine s_p ?_ | refine s_c (by omega) ?_ | refine S.ld ?_ | refine S.ldB ?_ | refine S.ce ?_ | refine S.ceB ?_ | refine s_q ?_ | refine s_qc (by omega) ?_ | refine n_some ?_ | rw [List.getD_cons_zero] | rw [List.getD_cons_succ]))
    exact hK2
  refine j_bandH (c := true) (fun _ K2 hK2 => ?_) ?_
  · (repeat (first | refine s_p ?_ | refine s_c (by omega) ?_ | refine S.ld ?_ | refine S.ldB ?_ | refine S.ce ?_ | refine S.ceB ?_ | refine s_q ?_ | refine s_qc (by omega) ?_ | refine n_some ?_ | rw [List.getD_cons_zero] | rw [List.getD_cons_succ]))
    exact hK2
  refine j_bandE (c := true) (fun _ K2 hK2 => ?_) fun w15 e15 => ?_
  · (repeat (first | refine s_p ?_ | refine s_c (by omega) ?_ | refine S.ld ?_ | refine S.ldB ?_ | refine S.ce ?_ | refine S.ceB ?_ | refine s_q ?_ | refine s_qc (by omega) ?_ | refine n_some ?_ | rw [List.getD_cons_zero] | rw [List.getD_cons_succ]))
    refine c_types_Same S.holds (a := awA) (b := awA) h11'.up hA.up fun w16 e16 => ?_
    rw [aw_same]
    exact hK2 _ e16
  have S := S.go e15
  refine j_bandH (c := true) (fun _ K2 hK2 => ?_) ?_
  · (repeat (first | refine s_p ?_ | refine s_c (by omega) ?_ | refine S.ld ?_ | refine S.ldB ?_ | refine S.ce ?_ | refine S.ceB ?_ | refine s_q ?_ | refine s_qc (by omega) ?_ | refine n_some ?_ | rw [List.getD_cons_zero] | rw [List.getD_cons_succ]))
    exact hK2
  refine j_bandH (c := true) (fun _ K2 hK2 => ?_) ?_
  · (repeat (first | refine s_p ?_ | refine s_c (by omega) ?_ | refine S.ld ?_ | refine S.ldB ?_ | refine S.ce ?_ | refine S.ceB ?_ | refine s_q ?_ | refine s_qc (by omega) ?_ | refine n_some ?_ | rw [List.getD_cons_zero] | rw [List.getD_cons_succ]))
    exact hK2
  refine j_bandE (c := true) (fun _ K2 hK2 => ?_) fun w17 e17 => ?_
  · (repeat (first | refine s_p ?_ | refine s_c (by omega) ?_ | refine S.ld ?_ | refine S.ldB ?_ | refine S.ce ?_ | refine S.ceB ?_ | refine s_q ?_ | refine s_qc (by omega) ?_ | refine n_some ?_ | rw [List.getD_cons_zero] | rw [List.getD_cons_succ]))
    refine c_types_May_none S.holds hA.up fun w16 e16 => ?_
    rw [show lookB 0 48 (refD true 0 (refD false 1 i64D)) = true from aw_look]
    exact hK2 _ e16
  have S := S.go e17
  refine j_bandE (c := true) (fun _ K2 hK2 => ?_) fun w18 e18 => ?_
  · (repeat (first | refine s_p ?_ | refine s_c (by omega) ?_ | refine S.ld ?_ | refine S.ldB ?_ | refine S.ce ?_ | refine S.ceB ?_ | refine s_q ?_ | refine s_qc (by omega) ?_ | refine n_some ?_ | rw [List.getD_cons_zero] | rw [List.getD_cons_succ]))
    refine c_types_Copies S.holds hA.up fun w16 e16 => ?_
    rw [show copiesB (refD true 0 (refD false 1 i64D)) = false from aw_copies]
    (first | refine s_p ?_ | refine s_c (by omega) ?_)
    exact hK2 _ e16
  exact h _ (S.go e18).ext
end Go.Proofs
end

section
namespace Go.Sh
open Go.ChangeShapes Go.WideShapes Go.ChangeAt Go.RowKit
section
variable {H : Type} {enc : TypeId × Value → H} {P : Program}
theorem same_ext {W W' : World} (e : Ext W W') {p : MemPlace} (hp : p.block < W.heap.size) : W.sameAt W' p := Below.same e hp
theorem trodAll_ext {W W' : World} (e : Ext W W') (K : Kids P (· < P.types.size)) (hz : ∀ t e, t < P.types.size → P.underlying t = some (.slice e) → 0 < P.cellsOf e) {sp : Nat → Bool} :
    ∀ {ts : List TypeId} {vs : List Value} {ds : List (DataW H)} {ps : List MemPlace}, (∀ t ∈ ts, t < P.types.size) → DataW.TrodAll enc P W 0 (fun _ => true) true ts vs ds ps → (∀ p ∈ ps, p.block < W.heap.size) → (∀ p ∈ ps, sp p.block = true) →
      DataW.TrodAll enc P W' 0 sp true ts vs ds ps
  | [], [], [], _, _, h, _, _ => h
  | _ :: _, _ :: _, _ :: _, _, hT, ⟨p, q, ⟨n, h1⟩, h2, he⟩, hl, hs =>
    ⟨p, q, ⟨n, DataW.trod_stays K (fun {t e} => hz t e) (fun h => by cases h) (hT _ (List.mem_cons.2 (Or.inl rfl))) h1 (fun x hx => same_ext e (hl x (by rw [he]; exact List.mem_append_left _ hx))) (fun x hx => hs x (by rw [he]; exact List.mem_append_left _ hx))⟩,
      trodAll_ext e K hz (fun t ht => hT t (List.mem_cons.2 (Or.inr ht))) h2 (fun x hx => hl x (by rw [he]; exact List.mem_append_right _ hx)) (fun x hx => hs x (by rw [he]; exact List.mem_append_right _ hx)), he⟩
/-- WHAT THE LAWS' ROWS ASK: true; the input reads as it did. -/
theorem post_told {f : Func} {s : ChangeSpec} {W W' : World} {args : Array Value} {ds gs : List (DataW H)} {before : List MemPlace} {tb : TypeId} {fr ho : Bool}
    (hl : laidOutB P = true) (hm : mapsRowed P = true) (hz : ((List.range P.types.size).all fun t => match P.underlying t with | some (.slice e) => decide (0 < P.cellsOf e) | _ => true) = true)
    (hts : ∀ t ∈ f.params.toList, t < P.types.size) (hv : s.vars = []) (hrt : f.resultTypes = #[tb]) (htb : P.underlying tb = some .bool)
    (hW : DataW.Whole enc P f.params.toList s.vars false W args.toList ds gs before) (hs : s.fn H (ds ++ gs) = { results := [.lit (.bool true)], args := ds }) (e : Ext W W') :
    s.post enc P f false fr ho false W args (.bool true) W' := by
  have hW' := hW
  obtain ⟨p, q, hA, hV, rfl, hfz, hnd⟩ := hW
  rw [hv] at hV
  obtain ⟨rfl, rfl⟩ := trodVars_none hV
  have hlt := hW'.lt
  refine ⟨ds, [], p ++ [], [], p, [], hW', ?_, ?_, ?_, Below.frame e _, fun h => by cases h⟩
  · rw [hs, hrt]
    exact trodAll_mk1 (shut_bool htb _)
  · rw [hs]
    exact trodAll_ext e (kids_rows hl hm) (slices_full_of P hz) hts hA (fun x hx => hlt x (by simpa using hx)) (fun x hx => by simpa using hlt x (by simpa using hx))
  · rw [hv, hs]; rfl
end
end Go.Sh
end

section
namespace Go.Sh
open Go.RowKit

mutual
/-- is it a datum of the type? -/
def Dat.ok (P : Program) : Dat → TypeId → Prop
  | .int k n, t => P.underlying t = some (.int k) ∧ (Lit.int k n).wf = true
  | .bool _, t => P.underlying t = some .bool
  | .str s, t => P.underlying t = some .string ∧ s.size ≤ maxLen
  | .agg ds, t => ∃ fs, P.underlying t = some (.struct fs) ∧ Dat.okF P ds (fs.toList.map (·.type))
  | .sl sz es, t => ∃ e, P.underlying t = some (.slice e) ∧ sz = P.cellsOf e ∧ es.length ≤ maxLen ∧ Dat.okS P es e
def Dat.okF (P : Program) : List Dat → List TypeId → Prop
  | [], ts => ts = []
  | d :: ds, ts => ∃ t r, ts = t :: r ∧ Dat.ok P d t ∧ Dat.okF P ds r
def Dat.okS (P : Program) : List Dat → TypeId → Prop
  | [], _ => True
  | d :: ds, t => Dat.ok P d t ∧ Dat.okS P ds t
end
theorem okS_of {P : Program} {t : TypeId} : ∀ {es : List Dat}, (∀ (i : Nat) (d : Dat), es[i]? = some d → d.ok P t) → Dat.okS P es t
  | [], _ => trivial
  | d :: es, h => ⟨h 0 d rfl, okS_of fun i d hi => h (i + 1) d (by simpa using hi)⟩
theorem okS_mem {P : Program} {t : TypeId} : ∀ {es : List Dat}, Dat.okS P es t → ∀ d ∈ es, d.ok P t
  | [], _, d, hd => by cases hd
  | e :: es, h, d, hd => by
    rcases List.mem_cons.1 hd with rfl | hd
    · exact h.1
    · exact okS_mem h.2 d hd
def layT (P : Program) (total : Nat) : Nat → List Field → Bool
  | off, [] => off == total
  | off, f :: fs => f.offset == off && layT P total (off + P.cellsOf f.type) fs
/-- types of numbers, texts, structs and slices, each of whose parts is among them -/
def plainS (P : Program) (ts : List TypeId) : Bool :=
  ts.all fun t => match P.underlying t with
    | some (.int _) => true
    | some .bool => true
    | some .string => true
    | some (.struct fs) => layT P (P.cellsOf t) 0 fs.toList && fs.toList.all (fun f => ts.contains f.type)
    | some (.slice e) => decide (0 < P.cellsOf e) && ts.contains e
    | _ => false
theorem choose_list {Q : Nat → Dat → Prop} : ∀ n : Nat, (∀ i, i < n → ∃ d, Q i d) → ∃ es : List Dat, es.length = n ∧ ∀ i d, es[i]? = some d → Q i d
  | 0, _ => ⟨[], rfl, fun i d h => by cases h⟩
  | n + 1, h => by
    obtain ⟨es, h1, h2⟩ := choose_list n fun i hi => h i (by omega)
    obtain ⟨d, hd⟩ := h n (by omega)
    refine ⟨es ++ [d], by simp [h1], fun i x hx => ?_⟩
    rcases Nat.lt_or_ge i es.length with hi | hi
    · rw [List.getElem?_append_left hi] at hx; exact h2 i x hx
    · rw [List.getElem?_append_right hi] at hx
      have hl := (List.getElem?_eq_some_iff.1 hx).1
      have : i = n := by simp at hl; omega
      subst this
      rw [h1, Nat.sub_self] at hx
      cases hx; exact hd
section
variable {H : Type} {enc : TypeId × Value → H} {P : Program} {W : World}
theorem rep_fields {cs : List Value} {total : Nat} (hcs : cs.length = total) : ∀ (fl : List Field) (off : Nat), layT P total off fl = true →
    (∀ f ∈ fl, ∃ d, Rep (all W) d ((cs.drop f.offset).take (P.cellsOf f.type)) ∧ d.ok P f.type) → ∃ ds, RepA (all W) ds (cs.drop off) ∧ Dat.okF P ds (fl.map (·.type))
  | [], off, hl, _ => ⟨[], by
    have : off = total := by simpa [layT] using hl
    rw [RepA, List.drop_eq_nil_iff]; omega, rfl⟩
  | f :: fl, off, hl, h => by
    simp only [layT, Bool.and_eq_true, beq_iff_eq] at hl
    obtain ⟨d, h1, h2⟩ := h f List.mem_cons_self
    obtain ⟨ds, h3, h4⟩ := rep_fields hcs fl _ hl.2 fun g hg => h g (List.mem_cons_of_mem _ hg)
    refine ⟨d :: ds, ⟨_, _, ?_, h1, h3⟩, _, _, rfl, h2, h4⟩
    rw [hl.1, ← List.drop_drop, List.take_append_drop]
theorem rep_of_trod {ts : List TypeId} (hp : plainS P ts = true) {sp : Nat → Bool} : ∀ (fuel : Nat) (t : TypeId) (cs : List Value) (x : DataW H × List MemPlace), t ∈ ts →
    DataW.trod enc P W 0 sp true fuel t cs = some x → ∃ d, Rep (all W) d cs ∧ d.ok P t
  | 0, _, _, _, _, h => by simp [DataW.trod] at h
  | fuel + 1, t, cs, x, ht, h => by
    have hpt := List.all_eq_true.1 hp t ht
    cases hu : P.underlying t with
    | none => rw [hu] at hpt; cases hpt
    | some k =>
      rw [hu] at hpt
      cases k with
      | int k => obtain ⟨n, rfl, _, hw⟩ := DataW.trod_int hu h; exact ⟨.int k n, rfl, hu, hw⟩
      | bool => obtain ⟨b, rfl, _⟩ := DataW.trod_bool hu h; exact ⟨.bool b, rfl, hu⟩
      | string => obtain ⟨s, rfl, _, hs⟩ := DataW.trod_string hu h; exact ⟨.str s, rfl, hu, hs⟩
      | struct fs =>
        simp only [Bool.and_eq_true] at hpt
        obtain ⟨xs, n, hn, _, hl, hxl, hx⟩ := DataW.trod_struct hu h
        obtain rfl : fuel = n := by omega
        obtain ⟨ds, h1, h2⟩ := rep_fields (P := P) (W := W) hl fs.toList 0 hpt.1 (fun f hf => by
          obtain ⟨i, hi, rfl⟩ := List.getElem_of_mem hf
          have hi' : i < fs.size := by simpa using hi
          have h1 := hx i fs[i] (Array.getElem?_eq_getElem hi')
          rw [List.getElem?_eq_getElem (by omega)] at h1
          have hmem : fs[i].type ∈ ts := by
            have := List.all_eq_true.1 hpt.2 _ hf
            simpa using this
          exact rep_of_trod hp fuel _ _ _ hmem h1)
        rw [List.drop_zero] at h1
        exact ⟨.agg ds, h1, fs, hu, h2⟩
      | slice e =>
        simp only [Bool.and_eq_true, decide_eq_true_eq] at hpt
        have he : e ∈ ts := by simpa using hpt.2
        rcases DataW.trod_slice hu h with ⟨rfl, _⟩ | ⟨a, len, cap, elems, rest, n, hn, rfl, _, _, hlc, hcm, hel, hget, _, _⟩
        · exact ⟨.sl (P.cellsOf e) [], ⟨none, 0, rfl, fun _ => rfl, Nat.le_refl _, trivial⟩, e, hu, rfl, Nat.zero_le _, trivial⟩
        obtain rfl : fuel = n := by omega
        have hspot : 0 < len → a.spot = none := fun h0 => by
          have h1 := hget 0 h0
          rw [List.getElem?_eq_getElem (by omega)] at h1
          obtain ⟨c, hc, _⟩ := Option.bind_eq_some_iff.1 h1
          obtain ⟨_, hcl, hcc⟩ := World.cells?_some hc
          have hcell := (hcc 0 hpt.1).trans (List.getElem?_eq_getElem (by omega))
          have := World.cell?_spot hcell
          simpa [Addr.add] using this
        obtain ⟨es, h1, h2⟩ := choose_list (Q := fun i d => d.ok P e ∧ ∃ c, c.length = P.cellsOf e ∧ CellsAt (all W) (some a) (i * P.cellsOf e) c ∧ Rep (all W) d c) len (fun i hi => by
          have h1 := hget i hi
          rw [List.getElem?_eq_getElem (by omega)] at h1
          obtain ⟨c, hc, ht⟩ := Option.bind_eq_some_iff.1 h1
          obtain ⟨_, hcl, hcc⟩ := World.cells?_some hc
          obtain ⟨d, hd, hok⟩ := rep_of_trod hp fuel e c _ he ht
          refine ⟨d, hok, c, hcl, fun j v hj => ?_, hd⟩
          have hjl := (List.getElem?_eq_some_iff.1 hj).1
          have hcell : W.cell? ((a.add (i * P.cellsOf e)).add j) = some v := (hcc j (by omega)).trans hj
          obtain ⟨b, off, sp⟩ := a
          have hsp : sp = none := hspot (by omega)
          subst hsp
          rw [addr_add', addr_add'] at hcell
          exact ⟨b, off, rfl, cell_all hcell⟩)
        refine ⟨.sl (P.cellsOf e) es, ⟨some a, cap, by rw [h1], by simp, by omega, RepS.of fun i d hi => ?_⟩, e, hu, rfl, by omega, okS_of fun i d hi => (h2 i d hi).1⟩
        rw [Nat.zero_add]; exact (h2 i d hi).2
      | _ => cases hpt
end
end Go.Sh
end

section
namespace Go.Proofs
open Go.Sh
set_option maxRecDepth 100000
set_option linter.unusedSimpArgs false
set_option linter.unusedVariables false
def inI (n : Int) : Prop := -9223372036854775808 ≤ n ∧ n ≤ 9223372036854775807
mutual
/-- the numbers of a type are of their kinds -/
def TyD.good : TyD → Prop
  | .mk k _ re st of => (0 ≤ k ∧ k ≤ 255) ∧ inI re ∧ inI st ∧ of.length ≤ Go.maxLen ∧ TyD.goods of
def TyD.goods : List TyD → Prop
  | [] => True
  | t :: l => TyD.good t ∧ TyD.goods l
end
theorem TyD.goods_mem : ∀ {l : List TyD}, TyD.goods l → ∀ t ∈ l, t.good
  | [], _, t, h => by cases h
  | x :: l, h, t, ht => by
    rcases List.mem_cons.1 ht with rfl | ht
    · exact h.1
    · exact TyD.goods_mem h.2 t ht
theorem TyD.goods_of : ∀ {l : List TyD}, (∀ t ∈ l, t.good) → TyD.goods l
  | [], _ => trivial
  | x :: l, h => ⟨h x List.mem_cons_self, TyD.goods_of fun t ht => h t (List.mem_cons_of_mem _ ht)⟩
end Go.Proofs
namespace Go.Proofs.YtajllnahceaipaaDoor.open6
open Go.Sh Go.ChangeShapes Go.WideShapes Go.ChangeAt Go.RowKit
set_option maxRecDepth 100000
set_option linter.unusedSimpArgs false
set_option linter.unusedVariables false

theorem own : ownKnob Tryd.prog.godebug = none := by kernel_rfl
theorem u3 : Tryd.prog.underlying 3 = some (.int .i64) := by kernel_rfl
theorem u4 : Tryd.prog.underlying 4 = some .bool := by kernel_rfl
theorem u9 : Tryd.prog.underlying 9 = some .string := by kernel_rfl
theorem u22 : Tryd.prog.underlying 22 = some (.int .u8) := by kernel_rfl
theorem u23 : Tryd.prog.underlying 23 = some (.slice 25) := by kernel_rfl
theorem c25 : Tryd.prog.cellsOf 25 = 5 := by kernel_rfl
noncomputable def structB (t : TypeId) (ts : List TypeId) : Bool := match Tryd.prog.underlying t with | some (.struct fs) => decide (fs.toList.map (·.type) = ts) | _ => false
theorem struct_of {t : TypeId} {ts : List TypeId} (h : structB t ts = true) : ∃ fs, Tryd.prog.underlying t = some (.struct fs) ∧ fs.toList.map (·.type) = ts := by
  unfold structB at h
  split at h
  · rename_i fs hu; exact ⟨fs, hu, of_decide_eq_true h⟩
  · cases h
theorem u25 : ∃ fs, Tryd.prog.underlying 25 = some (.struct fs) ∧ fs.toList.map (·.type) = [22, 4, 3, 3, 23] := struct_of (by kernel_rfl)
theorem laidOut : laidOutB Tryd.prog = true := by kernel_rfl
theorem rowed : mapsRowed Tryd.prog = true := by kernel_rfl
theorem full : ((List.range Tryd.prog.types.size).all fun t => match Tryd.prog.underlying t with | some (.slice e) => decide (0 < Tryd.prog.cellsOf e) | _ => true) = true := by kernel_rfl
theorem plain25 : plainS Tryd.prog [25, 22, 4, 3, 23] = true := by kernel_rfl

theorem dat_int {d : Dat} {t : TypeId} {k : IntKind} (u : Tryd.prog.underlying t = some (.int k)) (h : d.ok Tryd.prog t) : ∃ n, d = .int k n ∧ (Lit.int k n).wf = true := by
  cases d <;> simp only [Dat.ok, u] at h <;> try simp at h
  obtain ⟨rfl, h⟩ := h
  exact ⟨_, rfl, h⟩
theorem dat_bool {d : Dat} (h : d.ok Tryd.prog 4) : ∃ b, d = .bool b := by
  cases d <;> simp only [Dat.ok, u4] at h <;> try simp at h
  exact ⟨_, rfl⟩
theorem dat_str {d : Dat} (h : d.ok Tryd.prog 9) : ∃ s, d = .str s ∧ s.size ≤ maxLen := by
  cases d <;> simp only [Dat.ok, u9] at h <;> try simp at h
  exact ⟨_, rfl, h⟩
theorem dat_sl {d : Dat} {t e : TypeId} (u : Tryd.prog.underlying t = some (.slice e)) (h : d.ok Tryd.prog t) : ∃ es, d = .sl (Tryd.prog.cellsOf e) es ∧ es.length ≤ maxLen ∧ ∀ x ∈ es, x.ok Tryd.prog e := by
  cases d <;> simp only [Dat.ok, u] at h <;> try simp at h
  obtain ⟨rfl, h1, h2⟩ := h
  exact ⟨_, rfl, h1, okS_mem h2⟩
theorem dat_agg {d : Dat} {t : TypeId} {ts : List TypeId} (u : ∃ fs, Tryd.prog.underlying t = some (.struct fs) ∧ fs.toList.map (·.type) = ts) (h : d.ok Tryd.prog t) : ∃ ds, d = .agg ds ∧ Dat.okF Tryd.prog ds ts := by
  obtain ⟨fs, u, rfl⟩ := u
  cases d <;> simp only [Dat.ok, u] at h <;> try simp at h
  exact ⟨_, rfl, by simpa using h⟩
theorem okF_cons {ds : List Dat} {t : TypeId} {ts : List TypeId} (h : Dat.okF Tryd.prog ds (t :: ts)) : ∃ d r, ds = d :: r ∧ d.ok Tryd.prog t ∧ Dat.okF Tryd.prog r ts := by
  cases ds with
  | nil => cases h
  | cons d r => obtain ⟨t', r', h1, h2, h3⟩ := h; cases h1; exact ⟨d, r, rfl, h2, h3⟩
theorem okF_nil {ds : List Dat} (h : Dat.okF Tryd.prog ds []) : ds = [] := by
  cases ds with
  | nil => rfl
  | cons d r => obtain ⟨t', r', h1, _⟩ := h; cases h1
theorem wf_int {n : Int} (h : (Lit.int .i64 n).wf = true) : inI n := by
  simp only [Lit.wf, Bool.and_eq_true, decide_eq_true_eq] at h
  exact ⟨h.1, h.2⟩
theorem wf_u8 {n : Int} (h : (Lit.int .u8 n).wf = true) : 0 ≤ n ∧ n ≤ 255 := by
  simp only [Lit.wf, Bool.and_eq_true, decide_eq_true_eq] at h
  exact ⟨h.1, h.2⟩
theorem list_of {α : Type} {Q : Dat → α → Prop} : ∀ es : List Dat, (∀ d ∈ es, ∃ t, Q d t) → ∃ l : List α, l.length = es.length ∧ ∀ (i : Nat) d t, es[i]? = some d → l[i]? = some t → Q d t
  | [], _ => ⟨[], rfl, fun i d t h => by cases h⟩
  | d :: es, h => by
    obtain ⟨t, ht⟩ := h d List.mem_cons_self
    obtain ⟨l, hl, hq⟩ := list_of es fun x hx => h x (List.mem_cons_of_mem _ hx)
    refine ⟨t :: l, by simp [hl], fun i x y hx hy => ?_⟩
    cases i with
    | zero => simp at hx hy; subst hx hy; exact ht
    | succ i => exact hq i x y (by simpa using hx) (by simpa using hy)
theorem list_map {α : Type} {f : α → Dat} {G : α → Prop} : ∀ es : List Dat, (∀ d ∈ es, ∃ t, d = f t ∧ G t) → ∃ l : List α, es = l.map f ∧ ∀ t ∈ l, G t
  | [], _ => ⟨[], rfl, fun t h => by cases h⟩
  | d :: es, h => by
    obtain ⟨t, rfl, ht⟩ := h d List.mem_cons_self
    obtain ⟨l, rfl, hq⟩ := list_map es fun x hx => h x (List.mem_cons_of_mem _ hx)
    refine ⟨t :: l, rfl, fun x hx => ?_⟩
    rcases List.mem_cons.1 hx with rfl | hx
    · exact ht
    · exact hq x hx
theorem ty_of_ok : ∀ (n : Nat) (d : Dat), SizeOf.sizeOf d ≤ n → d.ok Tryd.prog 25 → ∃ t : TyD, d = t.dat ∧ t.good := by
  intro n
  induction n with
  | zero => intro d h _; cases d <;> simp at h
  | succ n ih =>
    intro d hs h
    obtain ⟨ds, rfl, e0⟩ := dat_agg u25 h
    obtain ⟨d0, ds, rfl, h0, e1⟩ := okF_cons e0
    obtain ⟨d1, ds, rfl, h1, e2⟩ := okF_cons e1
    obtain ⟨d2, ds, rfl, h2, e3⟩ := okF_cons e2
    obtain ⟨d3, ds, rfl, h3, e4⟩ := okF_cons e3
    obtain ⟨d4, ds, rfl, h4, e5⟩ := okF_cons e4
    obtain rfl := okF_nil e5
    obtain ⟨k, rfl, g0⟩ := dat_int u22 h0
    obtain ⟨m, rfl⟩ := dat_bool h1
    obtain ⟨re, rfl, g2⟩ := dat_int u3 h2
    obtain ⟨st, rfl, g3⟩ := dat_int u3 h3
    obtain ⟨es, rfl, hl, k4⟩ := dat_sl u23 h4
    obtain ⟨l, rfl, hg⟩ := list_map (f := TyD.dat) (G := TyD.good) es fun x hx => ih x (by
      have := List.sizeOf_lt_of_mem hx
      simp only [Dat.agg.sizeOf_spec, List.cons.sizeOf_spec, Dat.sl.sizeOf_spec] at hs
      omega) (k4 x hx)
    refine ⟨.mk k m re st l, ?_, wf_u8 g0, wf_int g2, wf_int g3, by simpa using hl, TyD.goods_of hg⟩
    rw [TyD.dat, TyD.dats_map, c25]
theorem ty_open {H : Type} {enc : TypeId × Value → H} {W : World} {base : Nat} {v : Value} {d : DataW H} {p : List MemPlace} (hv : Value.okWide Tryd.prog W .any base 25 v) (h : DataW.Trod enc Tryd.prog W 0 (fun _ => true) true 25 v d p) :
    ∃ t : TyD, TyG (all W) v t ∧ t.good := by
  obtain ⟨fs, hu, _⟩ := u25
  obtain ⟨cs, rfl, hsz⟩ := okWide_struct hu hv
  obtain ⟨fuel, hf⟩ := h
  obtain ⟨d, hr, hd⟩ := rep_of_trod plain25 fuel 25 _ _ (by simp) hf
  obtain ⟨t, rfl, hg⟩ := ty_of_ok _ d (Nat.le_refl _) hd
  exact ⟨t, by simpa [Value.cells] using TyG.of_rep hr, hg⟩
def cellsD : DataW Unit → List Value
  | .agg l => l.map fun
    | .lit (.int k n) => .int k n
    | _ => undef
  | _ => []
def laying (d : DataW Unit) : Obj → Obj
  | .cells _ t frozen => .cells (cellsD d).toArray t frozen
  | o => o
/-- A WORLD FOR THE WITNESSES: the settled one, the tables holding what their initialisers lay. -/
noncomputable def laidWorld (os : Os) : World :=
  { World.holding Tryd.prog os ⟨#[], #[], []⟩ with heap := (((World.holding Tryd.prog os ⟨#[], #[], []⟩).heap.modify 0 (laying Rows.laid_internal_strconv_uint64pow10)).modify 1 (laying Rows.laid_math_bits_deBruijn32tab)).modify 2 (laying Rows.laid_math_bits_deBruijn64tab) }
end Go.Proofs.YtajllnahceaipaaDoor.open6
end

section
namespace Go.Proofs
open Go.Sh
set_option maxRecDepth 100000
set_option linter.unusedSimpArgs false
set_option linter.unusedVariables false
theorem TyD.good.good_in {t : TyD} (h : t.good) : (0 ≤ t.k ∧ t.k ≤ 255) ∧ inI t.re ∧ inI t.st ∧ t.of.length ≤ maxLen ∧ ∀ u ∈ t.of, u.good := by
  cases t with | mk k m re st of => exact ⟨h.1, h.2.1, h.2.2.1, h.2.2.2.1, TyD.goods_mem h.2.2.2.2⟩
theorem good_chain : ∀ (n : Nat) (t : TyD), t.ht ≤ n → t.good → ∀ u ∈ t.chain, u.good := by
  intro n
  induction n with
  | zero => intro t h; cases t; simp [TyD.ht] at h
  | succ n ih =>
    intro t hn hg u hu
    rw [TyD.chain_eq] at hu
    rcases List.mem_cons.1 hu with rfl | hu
    · exact hg
    · cases hof : t.of with
      | nil => rw [hof] at hu; cases hu
      | cons x l =>
        have hx : x ∈ t.of := by rw [hof]; exact List.mem_cons_self
        rw [hof] at hu
        exact ih x (by have := TyD.ht_of hx; omega) (hg.good_in.2.2.2.2 x hx) u hu
theorem good_nums {r : Gh} (hT : TabG r) {t : TyD} (h : t.good) : NumsOK r t := nums_ok hT fun u hu => by
  have := (good_chain _ t (Nat.le_refl _) h u hu).good_in
  exact ⟨this.2.1.2, this.2.2.1.2⟩
/-- blocks of one's own, told, are overwritten: the rest stays -/
theorem spoilt {X : Nat → Prop} {w0 w w' : World} {r q s : Gh} {L : List Asr} (S : StX X w0 r w L) (e : ExtBut (Gh.dom s) w w') (hs : ∀ b o, s b o → r b o) (ha : Above w0 s) (hq : ∀ b o, q b o → r b o) (hd : Dis s q) : StX X w0 q w' L :=
  S.but e (fun b o hb => ⟨hq b o hb, fun ⟨o', ho⟩ => hd b o' o ho hb⟩) (fun b ⟨o, ho⟩ => ha b o ho) (fun x hx k hk ⟨o, ho⟩ => (S.mine x hx k hk).2 o (hs k o ho))
theorem c_law06_TypesTexts {t : TyD} {s : List UInt8} {w : World} {r : Gh} {v : Value} {K : Value → World → Prop} (hr : Holds r w) (hT : TabG r) (ht : TyG r v t) (hg : t.good)
    (h : ∀ w', Ext w w' → K (.bool true) w') : oCall Tryd.prog Tryd.n_law06_TypesTexts #[v, .string (bs s)] w K := by
  refine Tryd.ok_law06_TypesTexts ?_
  unfold Tryd.F_law06_TypesTexts
  have ht0 := ht
  obtain ⟨p, cap, rfl, _⟩ := ht
  have S := St.start hr
  refine S.box fun b2 w1 S => ?_
  (repeat (first | refine s_p ?_ | refine s_c (by omega) ?_ | refine S.ld ?_ | refine S.ldB ?_ | refine S.ce ?_ | refine S.ceB ?_ | refine s_q ?_ | refine s_qc (by omega) ?_ | refine n_some ?_ | rw [List.getD_cons_zero] | rw [List.getD_cons_succ]))
  refine c_law06_typeFits 60 (by decide) (by decide) (by decide) S.holds ht0 fun x w3 e3 => ?_
  have S := S.go e3
  (repeat (first | refine s_p ?_ | refine s_c (by omega) ?_ | refine S.ld ?_ | refine S.ldB ?_ | refine S.ce ?_ | refine S.ceB ?_ | refine s_q ?_ | refine s_qc (by omega) ?_ | refine n_some ?_ | rw [List.getD_cons_zero] | rw [List.getD_cons_succ]))
  refine j_borH (c := decide (8192 < s.length)) (fun _ K2 hK2 => ?_) ?_
  · (repeat (first | refine s_p ?_ | refine s_c (by omega) ?_ | refine S.ld ?_ | refine S.ldB ?_ | refine S.ce ?_ | refine S.ceB ?_ | refine s_q ?_ | refine s_qc (by omega) ?_ | refine n_some ?_ | rw [List.getD_cons_zero] | rw [List.getD_cons_succ]))
    rw [show decide ((8192 : Int) < (s.length : Int)) = decide (8192 < s.length) from decide_eq_decide.2 (by omega)]
    exact hK2
  refine c_b (fun _ => ?_) (fun hc => ?_)
  · exact c_law06_awake fun w5 e5 => h _ (S.go e5).ext
  have hs : s.length ≤ 8192 := by
    simp only [Bool.or_eq_false_iff, decide_eq_false_iff_not] at hc
    omega
  have hN := good_nums hT hg
  (repeat (first | refine s_p ?_ | refine s_c (by omega) ?_ | refine S.ld ?_ | refine S.ldB ?_ | refine S.ce ?_ | refine S.ceB ?_ | refine s_q ?_ | refine s_qc (by omega) ?_ | refine n_some ?_ | rw [List.getD_cons_zero] | rw [List.getD_cons_succ]))
  refine c_types_Text S.holds ht0 hN fun w4 e4 => ?_
  have S := S.go e4
  (repeat (first | refine s_p ?_ | refine s_c (by omega) ?_ | refine S.ld ?_ | refine S.ldB ?_ | refine S.ce ?_ | refine S.ceB ?_ | refine s_q ?_ | refine s_qc (by omega) ?_ | refine n_some ?_ | rw [List.getD_cons_zero] | rw [List.getD_cons_succ]))
  refine c_ref06_Text S.holds ht0 hN fun w5 e5 => ?_
  have S := S.go e5
  (repeat (first | refine s_p ?_ | refine s_c (by omega) ?_ | refine S.ld ?_ | refine S.ldB ?_ | refine S.ce ?_ | refine S.ceB ?_ | refine s_q ?_ | refine s_qc (by omega) ?_ | refine n_some ?_ | rw [List.getD_cons_zero] | rw [List.getD_cons_succ]))
  refine j_borH (c := false) (fun _ K2 hK2 => ?_) ?_
  · (repeat (first | refine s_p ?_ | refine s_c (by omega) ?_ | refine S.ld ?_ | refine S.ldB ?_ | refine S.ce ?_ | refine S.ceB ?_ | refine s_q ?_ | refine s_qc (by omega) ?_ | refine n_some ?_ | rw [List.getD_cons_zero] | rw [List.getD_cons_succ]))
    simpa using hK2
  refine c_f (by simp) ?_
  refine c_types_Read (s := s) S.holds (by omega) fun va sa w6 e6 n6 ha hca => ?_
  obtain ⟨S, da, aa⟩ := S.tell e6 n6
  have ha0 := ha
  obtain ⟨pa, capa, rfl, _⟩ := ha
  (repeat (first | refine s_p ?_ | refine s_c (by omega) ?_ | refine S.ld ?_ | refine S.ldB ?_ | refine S.ce ?_ | refine S.ceB ?_ | refine s_q ?_ | refine s_qc (by omega) ?_ | refine n_some ?_ | rw [List.getD_cons_zero] | rw [List.getD_cons_succ]))
  refine S.al fun b9 w7 S => ?_
  refine S.stB fun w8 S => ?_
  refine c_types_Read (s := s) S.holds (by omega) fun vb sb w9 e9 n9 hb _ => ?_
  obtain ⟨S, db, ab⟩ := S.tell e9 n9
  have hb0 := hb
  obtain ⟨pb, capb, rfl, _⟩ := hb
  (repeat (first | refine s_p ?_ | refine s_c (by omega) ?_ | refine S.ld ?_ | refine S.ldB ?_ | refine S.ce ?_ | refine S.ceB ?_ | refine s_q ?_ | refine s_qc (by omega) ?_ | refine n_some ?_ | rw [List.getD_cons_zero] | rw [List.getD_cons_succ]))
  refine S.al fun b11 w10 S => ?_
  refine S.stB fun w11 S => ?_
  refine c_ref06_Read (s := s) S.holds (by omega) fun vx sx w12 e12 n12 hx => ?_
  obtain ⟨S, dx, ax⟩ := S.tell e12 n12
  have hx0 := hx
  obtain ⟨px, capx, rfl, _⟩ := hx
  (repeat (first | refine s_p ?_ | refine s_c (by omega) ?_ | refine S.ld ?_ | refine S.ldB ?_ | refine S.ce ?_ | refine S.ceB ?_ | refine s_q ?_ | refine s_qc (by omega) ?_ | refine n_some ?_ | rw [List.getD_cons_zero] | rw [List.getD_cons_succ]))
  refine S.al fun b14 w13 S => ?_
  refine S.stB fun w14 S => ?_
  (repeat (first | refine s_p ?_ | refine s_c (by omega) ?_ | refine S.ld ?_ | refine S.ldB ?_ | refine S.ce ?_ | refine S.ceB ?_ | refine s_q ?_ | refine s_qc (by omega) ?_ | refine n_some ?_ | rw [List.getD_cons_zero] | rw [List.getD_cons_succ]))
  have hfew := hca.few
  refine j_borH (c := false) (fun _ K2 hK2 => ?_) ?_
  · (repeat (first | refine s_p ?_ | refine s_c (by omega) ?_ | refine S.ld ?_ | refine S.ldB ?_ | refine S.ce ?_ | refine S.ceB ?_ | refine s_q ?_ | refine s_qc (by omega) ?_ | refine n_some ?_ | rw [List.getD_cons_zero] | rw [List.getD_cons_succ]))
    simpa using hK2
  rw [show (decide ((readT s).2.1 ≠ (readT s).2.1) || false) = false by simp]
  refine j_borE (c := false) (fun _ K2 hK2 => ?_) fun w15 e15 => ?_
  · (repeat (first | refine s_p ?_ | refine s_c (by omega) ?_ | refine S.ld ?_ | refine S.ldB ?_ | refine S.ce ?_ | refine S.ceB ?_ | refine s_q ?_ | refine s_qc (by omega) ?_ | refine n_some ?_ | rw [List.getD_cons_zero] | rw [List.getD_cons_succ]))
    refine c_law06_equal _ (readT s).1 (Nat.le_refl _) hfew S.holds ha0.up hx0.up fun w16 e16 => ?_
    (repeat (first | refine s_p ?_ | refine s_c (by omega) ?_ | refine S.ld ?_ | refine S.ldB ?_ | refine S.ce ?_ | refine S.ceB ?_ | refine s_q ?_ | refine s_qc (by omega) ?_ | refine n_some ?_ | rw [List.getD_cons_zero] | rw [List.getD_cons_succ]))
    exact hK2 _ e16
  have S := S.go e15
  refine c_f (by simp) ?_
  (repeat (first | refine s_p ?_ | refine s_c (by omega) ?_ | refine S.ld ?_ | refine S.ldB ?_ | refine S.ce ?_ | refine S.ceB ?_ | refine s_q ?_ | refine s_qc (by omega) ?_ | refine n_some ?_ | rw [List.getD_cons_zero] | rw [List.getD_cons_succ]))
  refine c_law06_spoil hca ha0 (S.holds.le (h := inferInstance)) fun w17 e17 => ?_
  have S := spoilt (q := (r.or sb).or sx) (s := sa) S e17 (fun b o hb => .inl (.inl (.inr hb))) aa (fun b o hb => hb.elim (fun hb => hb.elim (fun hb => .inl (.inl (.inl hb))) fun hb => .inl (.inr hb)) fun hb => .inr hb)
    ((da.or (db.of (l := inferInstance))).or (dx.of (l := inferInstance)))
  (repeat (first | refine s_p ?_ | refine s_c (by omega) ?_ | refine S.ld ?_ | refine S.ldB ?_ | refine S.ce ?_ | refine S.ceB ?_ | refine s_q ?_ | refine s_qc (by omega) ?_ | refine n_some ?_ | rw [List.getD_cons_zero] | rw [List.getD_cons_succ]))
  refine c_law06_equal _ (readT s).1 (Nat.le_refl _) hfew S.holds hb0.up hx0.up fun w18 e18 => ?_
  have S := S.go e18
  refine j_bandE (c := true) (fun _ K2 hK2 => ?_) fun w19 e19 => ?_
  · exact c_law06_awake fun w20 e20 => hK2 _ e20
  exact h _ (S.go e19).ext
end Go.Proofs
end

section
namespace Go.Proofs
open Go.Sh
set_option maxRecDepth 100000
set_option linter.unusedSimpArgs false
set_option linter.unusedVariables false
theorem rg_inv {s : List UInt8} {a a' : Nat} {re : Int} (ha : a ≤ s.length) (h : rgR s a = (a', some re)) :
    a' ≤ s.length ∧ -1 ≤ re ∧ re ≤ 9223372036854775807 ∧ s.drop a = (if 0 ≤ re then [39] ++ itoa re ++ [32] else []) ++ s.drop a' := by
  rw [rgR] at h
  split at h
  · obtain ⟨a1, _, e1, h⟩ := bd_inv h
    obtain ⟨l1, d1⟩ := tk_inv ha e1
    obtain ⟨a2, x, e2, h⟩ := bd_inv h
    obtain ⟨l2, m, hx, d2⟩ := dig_inv l1 e2
    have hle := (digT_le (s := s) (most := 9223372036854775807) l1 (by decide)).2 x (by rw [e2])
    obtain ⟨a3, _, e3, h⟩ := bd_inv h
    obtain ⟨l3, d3⟩ := tk_inv l2 e3
    cases h
    refine ⟨l3, by omega, hle.2, ?_⟩
    rw [if_pos hle.1, d1, d2, d3, hx, itoa_nat (by omega), List.append_assoc, List.append_assoc]
  · cases h
    exact ⟨ha, by decide, by decide, rfl⟩
theorem mt_inv {s : List UInt8} {a a' : Nat} {m : Bool} (ha : a ≤ s.length) (h : mtR s a = (a', some m)) :
    a' ≤ s.length ∧ s.drop a = (if m then [109, 117, 116, 32] else []) ++ s.drop a' := by
  rw [mtR] at h
  split at h
  · obtain ⟨a1, _, e1, h⟩ := bd_inv h
    obtain ⟨l1, d1⟩ := tk_inv ha e1
    cases h
    exact ⟨l1, d1⟩
  · cases h
    exact ⟨ha, rfl⟩
theorem br_inv {s : List UInt8} {a a' left : Nat} {re : Int} {m : Bool} {c : UInt8} {r : List UInt8} (ha : a ≤ s.length) (h : brR s left re m a = (a', some ())) (hc : s.drop a' = c :: r) :
    a' ≤ s.length ∧ s.drop a = (if (decide (re < 0) && !m) && decide (c = 38) then [32] else []) ++ s.drop a' := by
  rw [brR] at h
  split at h
  · cases h
  · rename_i h1
    split at h
    · rename_i h2
      obtain ⟨a1, _, e1, h⟩ := bd_inv h
      obtain ⟨l1, d1⟩ := tk_inv ha e1
      split at h
      · cases h
      · rename_i h3
        cases h
        simp only [Bool.and_eq_true, decide_eq_true_eq, Bool.not_eq_true', Bool.not_eq_true, Bool.not_eq_false'] at h1 h2 h3
        rw [cm_cons hc] at h3
        refine ⟨l1, ?_⟩
        rw [if_pos (by simp only [Bool.and_eq_true, decide_eq_true_eq, Bool.not_eq_true']; exact ⟨h2.1.1, by simpa using h3⟩), d1]
    · cases h
      refine ⟨ha, ?_⟩
      rw [cm_cons hc] at h1
      rw [if_neg h1]; rfl
theorem text_first {n : Nat} {t : TyD} (h : lookB 32 n t = true) (s : List UInt8) (a a' : Nat) (hd : s.drop a = textB n t ++ s.drop a') : ∃ c r, s.drop a = c :: r ∧ decide (byteAt (textB n t) 0 = 38) = decide (c = 38) := by
  obtain ⟨c, tr, ht, _⟩ := text_head h
  refine ⟨c, tr ++ s.drop a', by rw [hd, ht]; rfl, ?_⟩
  rw [ht, byte_cons]
  refine decide_eq_decide.2 ⟨fun h => UInt8.toNat_inj.1 ?_, fun h => by rw [h]; rfl⟩
  have : c.toNat = 38 := by omega
  rw [this]; rfl
/-- BACK: what is read as a type is the type's text -/
theorem kind_inv : ∀ (n : Nat) (s : List UInt8) (a a' : Nat) (t : TyD), a ≤ s.length → kindR s (n + 1) a = (a', some t) → a' ≤ s.length ∧ lookB 32 (n + 1) t = true ∧ inNums t ∧ s.drop a = textB (n + 1) t ++ s.drop a' := by
  intro n
  induction n with
  | zero =>
    intro s a a' t ha h
    rw [kindR_succ, kindS] at h
    split at h
    · obtain ⟨a1, _, e1, h⟩ := bd_inv h
      obtain ⟨l1, d1⟩ := tk_inv ha e1
      cases h
      exact ⟨l1, rfl, inNums_nil.2 ⟨by decide, by decide⟩, d1⟩
    split at h
    · obtain ⟨a1, _, e1, h⟩ := bd_inv h
      obtain ⟨l1, d1⟩ := tk_inv ha e1
      cases h
      exact ⟨l1, rfl, inNums_nil.2 ⟨by decide, by decide⟩, d1⟩
    split at h
    · obtain ⟨a1, _, e1, h⟩ := bd_inv h
      obtain ⟨l1, d1⟩ := tk_inv ha e1
      obtain ⟨a2, x, e2, h⟩ := bd_inv h
      obtain ⟨l2, m, hx, d2⟩ := dig_inv l1 e2
      have hle := (digT_le (s := s) (most := 31) l1 (by decide)).2 x (by rw [e2])
      cases h
      refine ⟨l2, ?_, inNums_nil.2 ⟨by decide, by omega⟩, ?_⟩
      · rw [lookB_succ]
        have hx1 : x < 32 := by omega
        simp [TyD.k, TyD.m, TyD.re, TyD.st, TyD.of, hle.1, hx1]
      · have e : textB (0 + 1) (.mk 5 false 0 x []) = [35] ++ itoa x := rfl
        rw [e, d1, d2, hx, itoa_nat (by omega), List.append_assoc]
    rw [if_neg (by simp), if_neg (by simp)] at h
    cases h
  | succ n ih =>
    intro s a a' t ha h
    rw [kindR_succ, kindS] at h
    split at h
    · obtain ⟨a1, _, e1, h⟩ := bd_inv h
      obtain ⟨l1, d1⟩ := tk_inv ha e1
      cases h
      exact ⟨l1, rfl, inNums_nil.2 ⟨by decide, by decide⟩, d1⟩
    split at h
    · obtain ⟨a1, _, e1, h⟩ := bd_inv h
      obtain ⟨l1, d1⟩ := tk_inv ha e1
      cases h
      exact ⟨l1, rfl, inNums_nil.2 ⟨by decide, by decide⟩, d1⟩
    split at h
    · obtain ⟨a1, _, e1, h⟩ := bd_inv h
      obtain ⟨l1, d1⟩ := tk_inv ha e1
      obtain ⟨a2, x, e2, h⟩ := bd_inv h
      obtain ⟨l2, m, hx, d2⟩ := dig_inv l1 e2
      have hle := (digT_le (s := s) (most := 31) l1 (by decide)).2 x (by rw [e2])
      cases h
      refine ⟨l2, ?_, inNums_nil.2 ⟨by decide, by omega⟩, ?_⟩
      · rw [lookB_succ]
        have hx1 : x < 32 := by omega
        simp [TyD.k, TyD.m, TyD.re, TyD.st, TyD.of, hle.1, hx1]
      · have e : textB (n + 1 + 1) (.mk 5 false 0 x []) = [35] ++ itoa x := rfl
        rw [e, d1, d2, hx, itoa_nat (by omega), List.append_assoc]
    split at h
    · obtain ⟨a1, _, e1, h⟩ := bd_inv h
      obtain ⟨l1, d1⟩ := tk_inv ha e1
      obtain ⟨a2, u, e2, h⟩ := bd_inv h
      obtain ⟨l2, hu, hI, d2⟩ := ih s a1 a2 u l1 e2
      obtain ⟨a3, _, e3, h⟩ := bd_inv h
      obtain ⟨l3, d3⟩ := tk_inv l2 e3
      cases h
      refine ⟨l3, ?_, inNums_one.2 ⟨⟨by decide, by decide⟩, hI⟩, ?_⟩
      · rw [lookB_succ]
        simp [TyD.k, TyD.m, TyD.re, TyD.st, TyD.of, inB, hu]
      · have e : textB (n + 1 + 1) (.mk 3 false 0 0 [u]) = [66, 111, 120, 60] ++ textB (n + 1) u ++ [62] := rfl
        rw [e, d1, d2, d3, List.append_assoc, List.append_assoc]
    split at h
    · rw [refS] at h
      obtain ⟨a1, _, e1, h⟩ := bd_inv h
      obtain ⟨l1, d1⟩ := tk_inv ha e1
      obtain ⟨a2, re, e2, h⟩ := bd_inv h
      obtain ⟨l2, r1, r2, d2⟩ := rg_inv l1 e2
      obtain ⟨a3, m, e3, h⟩ := bd_inv h
      obtain ⟨l3, d3⟩ := mt_inv l2 e3
      obtain ⟨a4, _, e4, h⟩ := bd_inv h
      obtain ⟨a5, u, e5, h⟩ := bd_inv h
      cases h
      have l4 : a4 ≤ s.length := by
        rw [brR] at e4
        split at e4
        · cases e4
        · split at e4
          · obtain ⟨a6, _, e6, h6⟩ := bd_inv e4
            obtain ⟨l6, _⟩ := tk_inv l3 e6
            split at h6
            · cases h6
            · cases h6; exact l6
          · cases e4; exact l3
      obtain ⟨l5, hu, hI, d5⟩ := ih s a4 a' u l4 e5
      obtain ⟨c, r, hc, hb⟩ := text_first hu s a4 a' d5
      obtain ⟨_, d4⟩ := br_inv l3 e4 hc
      refine ⟨l5, ?_, inNums_one.2 ⟨⟨r2, by decide⟩, hI⟩, ?_⟩
      · rw [lookB_succ]
        simp [TyD.k, TyD.m, TyD.re, TyD.st, TyD.of, inB, hu, r1]
      · have e : textB (n + 1 + 1) (.mk 4 m re 0 [u]) = (if headB re m == [38] && decide (byteAt (textB (n + 1) u) 0 = 38) then [38, 32] else headB re m) ++ textB (n + 1) u := rfl
        rw [e, hb, head_bare, d1, d2, d3, d4, d5]
        by_cases hbb : ((decide (re < 0) && !m) && decide (c = 38)) = true
        · rw [if_pos hbb, if_pos hbb]
          simp only [Bool.and_eq_true, decide_eq_true_eq, Bool.not_eq_true'] at hbb
          rw [if_neg (by omega), hbb.1.2]
          simp
        · rw [if_neg hbb, if_neg hbb, headB]
          simp
    · cases h
theorem bd_le {α β : Type} {N : Nat} {x : Rd' α} {k : α → Nat → Rd' β} (h : x.1 ≤ N) (hk : ∀ u a1, x = (a1, some u) → a1 ≤ N → (k u a1).1 ≤ N) : (bd x k).1 ≤ N := by
  obtain ⟨a1, o⟩ := x
  cases o with
  | none => exact h
  | some u => exact hk u a1 rfl h
theorem tk_le {s p : List UInt8} {a : Nat} (ha : a ≤ s.length) : (tkR s p a).1 ≤ s.length := takeR_le p a ha
theorem dg_le {s : List UInt8} {a : Nat} {most : Int} (ha : a ≤ s.length) (hm : 9 ≤ most) : (digT s most a).1 ≤ s.length := (digT_le ha hm).1
theorem kindS_le {s : List UInt8} {rec : Nat → Rd' TyD} {left : Nat} (hrec : ∀ a, a ≤ s.length → (rec a).1 ≤ s.length) {a : Nat} (ha : a ≤ s.length) : (kindS s rec left a).1 ≤ s.length := by
  rw [kindS]
  split
  · exact bd_le (tk_le ha) fun _ a1 _ h => h
  split
  · exact bd_le (tk_le ha) fun _ a1 _ h => h
  split
  · exact bd_le (tk_le ha) fun _ a1 _ h => bd_le (dg_le h (by decide)) fun _ a2 _ h => h
  split
  · exact bd_le (tk_le ha) fun _ a1 _ h => bd_le (hrec _ h) fun _ a2 _ h => bd_le (tk_le h) fun _ a3 _ h => h
  split
  · rw [refS]
    refine bd_le (tk_le ha) fun _ a1 _ h => bd_le ?_ fun _ a2 _ h => bd_le ?_ fun _ a3 _ h => bd_le ?_ fun _ a4 _ h => bd_le (hrec _ h) fun _ a5 _ h => h
    · rw [rgR]
      split
      · exact bd_le (tk_le h) fun _ _ _ h => bd_le (dg_le h (by decide)) fun _ _ _ h => bd_le (tk_le h) fun _ _ _ h => h
      · exact h
    · rw [mtR]
      split
      · exact bd_le (tk_le h) fun _ _ _ h => h
      · exact h
    · rw [brR]
      split
      · exact h
      split
      · refine bd_le (tk_le h) fun _ _ _ h => ?_
        split
        · exact h
        · exact h
      · exact h
  · exact ha
theorem kindR_le {s : List UInt8} : ∀ (n a : Nat), a ≤ s.length → (kindR s n a).1 ≤ s.length := by
  intro n
  induction n with
  | zero => intro a ha; exact kindS_le (fun a h => h) ha
  | succ n ih => intro a ha; exact kindS_le ih ha
theorem readT_cases (s : List UInt8) : ((readT s).2.2 = 60 ∧ 0 ≤ (readT s).2.1 ∧ (readT s).2.1 ≤ s.length) ∨
    ((readT s).2 = (0, 0) ∧ lookB 32 48 (readT s).1 = true ∧ inNums (readT s).1 ∧ textB 48 (readT s).1 = s) := by
  have hle := kindR_le (s := s) 48 0 (Nat.zero_le _)
  rw [readT]
  cases hx : kindR s 48 0 with
  | mk a o =>
    rw [hx] at hle
    simp only at hle
    cases o with
    | none => exact .inl ⟨rfl, Int.natCast_nonneg _, Int.ofNat_le.2 hle⟩
    | some t =>
      simp only
      by_cases hlt : (a : Int) < s.length
      · rw [if_pos hlt]
        exact .inl ⟨rfl, Int.natCast_nonneg _, Int.ofNat_le.2 hle⟩
      · rw [if_neg hlt]
        obtain ⟨_, h1, h2, h3⟩ := kind_inv 47 s 0 a t (Nat.zero_le _) hx
        refine .inr ⟨rfl, h1, h2, ?_⟩
        rw [List.drop_zero, List.drop_eq_nil_of_le (by omega), List.append_nil] at h3
        exact h3.symm
theorem readT_text {t : TyD} (h : lookB 32 48 t = true) (hI : inNums t) : readT (textB 48 t) = (t, 0, 0) := by
  obtain ⟨a', e, d, l⟩ := kind_text 48 t h hI (textB 48 t) [] 0 (Nat.zero_le _) (by simp) (fun c r h => by cases h)
  have : (textB 48 t).length ≤ a' := List.drop_eq_nil_iff.1 d
  rw [readT, e]
  simp only
  rw [if_neg (by omega)]
theorem alike_refl : ∀ (n : Nat) (t : TyD), lookB 32 n t = true → alikeB fEq n t t = true := by
  intro n
  induction n with
  | zero => intro t h; cases h
  | succ n ih =>
    intro t h
    rcases look_cases h with ⟨ho, _⟩ | ⟨u, ho, hu, _⟩
    · rw [alikeB_nil ho]; simp [fEq]
    · rw [alikeB_one ho ho, ih u hu]; simp [fEq]
theorem same_refl {t : TyD} (h : isB t = true) : alikeT fEq t t = true := by
  rw [alikeT, h, alike_refl 48 t h]; rfl
theorem c_law06_TypesBack {t : TyD} {s : List UInt8} {w : World} {r : Gh} {v : Value} {K : Value → World → Prop} (hr : Holds r w) (hT : TabG r) (ht : TyG r v t) (hg : t.good)
    (h : ∀ w', Ext w w' → K (.bool true) w') : oCall Tryd.prog Tryd.n_law06_TypesBack #[v, .string (bs s)] w K := by
  refine Tryd.ok_law06_TypesBack ?_
  unfold Tryd.F_law06_TypesBack
  have ht0 := ht
  obtain ⟨p, cap, rfl, _⟩ := ht
  have S := St.start hr
  refine S.box fun b2 w1 S => ?_
  (repeat (first | refine s_p ?_ | refine s_c (by omega) ?_ | refine S.ld ?_ | refine S.ldB ?_ | refine S.ce ?_ | refine S.ceB ?_ | refine s_q ?_ | refine s_qc (by omega) ?_ | refine n_some ?_ | rw [List.getD_cons_zero] | rw [List.getD_cons_succ]))
  refine c_law06_typeFits 60 (by decide) (by decide) (by decide) S.holds ht0 fun x w3 e3 => ?_
  have S := S.go e3
  (repeat (first | refine s_p ?_ | refine s_c (by omega) ?_ | refine S.ld ?_ | refine S.ldB ?_ | refine S.ce ?_ | refine S.ceB ?_ | refine s_q ?_ | refine s_qc (by omega) ?_ | refine n_some ?_ | rw [List.getD_cons_zero] | rw [List.getD_cons_succ]))
  refine j_borH (c := decide (8192 < s.length)) (fun _ K2 hK2 => ?_) ?_
  · (repeat (first | refine s_p ?_ | refine s_c (by omega) ?_ | refine S.ld ?_ | refine S.ldB ?_ | refine S.ce ?_ | refine S.ceB ?_ | refine s_q ?_ | refine s_qc (by omega) ?_ | refine n_some ?_ | rw [List.getD_cons_zero] | rw [List.getD_cons_succ]))
    rw [show decide ((8192 : Int) < (s.length : Int)) = decide (8192 < s.length) from decide_eq_decide.2 (by omega)]
    exact hK2
  refine c_b (fun _ => ?_) (fun hc => ?_)
  · exact c_law06_awake fun w5 e5 => h _ (S.go e5).ext
  have hs : s.length ≤ 8192 := by
    simp only [Bool.or_eq_false_iff, decide_eq_false_iff_not] at hc
    omega
  have hN := good_nums hT hg
  have hI : inNums t := fun u hu => by
    have := (good_chain _ t (Nat.le_refl _) hg u hu).good_in
    exact ⟨this.2.1.2, this.2.2.1.2⟩
  (repeat (first | refine s_p ?_ | refine s_c (by omega) ?_ | refine S.ld ?_ | refine S.ldB ?_ | refine S.ce ?_ | refine S.ceB ?_ | refine s_q ?_ | refine s_qc (by omega) ?_ | refine n_some ?_ | rw [List.getD_cons_zero] | rw [List.getD_cons_succ]))
  refine c_types_Text S.holds ht0 hN fun w4 e4 => ?_
  have S := S.go e4
  (repeat (first | refine s_p ?_ | refine s_c (by omega) ?_ | refine S.ld ?_ | refine S.ldB ?_ | refine S.ce ?_ | refine S.ceB ?_ | refine s_q ?_ | refine s_qc (by omega) ?_ | refine n_some ?_ | rw [List.getD_cons_zero] | rw [List.getD_cons_succ]))
  have hU := textB_len 48 t
  have hTT : textT t = if isB t then (textB 48 t, 0) else ([], 2) := rfl
  refine j_intro (fun _ w' => ∃ q M, Le r q ∧ StX noX w q w' M) (fun K2 hK2 => ?_) ?_
  · (repeat (first | refine s_p ?_ | refine s_c (by omega) ?_ | refine S.ld ?_ | refine S.ldB ?_ | refine S.ce ?_ | refine S.ceB ?_ | refine s_q ?_ | refine s_qc (by omega) ?_ | refine n_some ?_ | rw [List.getD_cons_zero] | rw [List.getD_cons_succ]))
    refine c_b (fun h0 => ?_) (fun _ => hK2 [] _ ⟨r, _, inferInstance, S⟩)
    have hB : isB t = true := by
      by_cases hB : isB t = true
      · exact hB
      · rw [hTT, if_neg hB] at h0; simp at h0
    rw [if_pos hB] at hTT
    rw [hTT]
    refine c_types_Read (s := textB 48 t) S.holds (by omega) fun va sa w6 e6 n6 ha hca => ?_
    rw [readT_text hB hI] at ha ⊢
    have S := S.new e6 n6
    have ha0 := ha
    obtain ⟨pa, capa, rfl, _⟩ := ha
    (repeat (first | refine s_p ?_ | refine s_c (by omega) ?_ | refine S.ld ?_ | refine S.ldB ?_ | refine S.ce ?_ | refine S.ceB ?_ | refine s_q ?_ | refine s_qc (by omega) ?_ | refine n_some ?_ | rw [List.getD_cons_zero] | rw [List.getD_cons_succ]))
    refine S.al fun b9 w7 S => ?_
    refine S.stB fun w8 S => ?_
    (repeat (first | refine s_p ?_ | refine s_c (by omega) ?_ | refine S.ld ?_ | refine S.ldB ?_ | refine S.ce ?_ | refine S.ceB ?_ | refine s_q ?_ | refine s_qc (by omega) ?_ | refine n_some ?_ | rw [List.getD_cons_zero] | rw [List.getD_cons_succ]))
    refine j_borH (c := false) (fun _ K3 hK3 => ?_) ?_
    · (repeat (first | refine s_p ?_ | refine s_c (by omega) ?_ | refine S.ld ?_ | refine S.ldB ?_ | refine S.ce ?_ | refine S.ceB ?_ | refine s_q ?_ | refine s_qc (by omega) ?_ | refine n_some ?_ | rw [List.getD_cons_zero] | rw [List.getD_cons_succ]))
      exact hK3
    refine j_borE (c := false) (fun _ K3 hK3 => ?_) fun w9 e9 => ?_
    · (repeat (first | refine s_p ?_ | refine s_c (by omega) ?_ | refine S.ld ?_ | refine S.ldB ?_ | refine S.ce ?_ | refine S.ceB ?_ | refine s_q ?_ | refine s_qc (by omega) ?_ | refine n_some ?_ | rw [List.getD_cons_zero] | rw [List.getD_cons_succ]))
      refine c_types_Same S.holds ha0.up ht0.up fun w10 e10 => ?_
      rw [same_refl hB]
      (repeat (first | refine s_p ?_ | refine s_c (by omega) ?_ | refine S.ld ?_ | refine S.ldB ?_ | refine S.ce ?_ | refine S.ceB ?_ | refine s_q ?_ | refine s_qc (by omega) ?_ | refine n_some ?_ | rw [List.getD_cons_zero] | rw [List.getD_cons_succ]))
      exact hK3 _ e10
    have S := S.go e9
    refine c_f rfl ?_
    exact hK2 [] _ ⟨r.or sa, _, inferInstance, S⟩
  clear S
  rintro _ w9 ⟨q, M, hq, S⟩ d9
  have hTq : TabG q := hT.up
  refine c_types_Read (s := s) S.holds (by omega) fun vb sb w10 e10 n10 hb _ => ?_
  have S := S.new e10 n10
  have hb0 := hb
  obtain ⟨pb, capb, rfl, _⟩ := hb
  (repeat (first | refine s_p ?_ | refine s_c (by omega) ?_ | refine S.ld ?_ | refine S.ldB ?_ | refine S.ce ?_ | refine S.ceB ?_ | refine s_q ?_ | refine s_qc (by omega) ?_ | refine n_some ?_ | rw [List.getD_cons_zero] | rw [List.getD_cons_succ]))
  refine S.al fun b11 w11 S => ?_
  refine S.stB fun w12 S => ?_
  (repeat (first | refine s_p ?_ | refine s_c (by omega) ?_ | refine S.ld ?_ | refine S.ldB ?_ | refine S.ce ?_ | refine S.ceB ?_ | refine s_q ?_ | refine s_qc (by omega) ?_ | refine n_some ?_ | rw [List.getD_cons_zero] | rw [List.getD_cons_succ]))
  rcases readT_cases s with ⟨h1, h2, h3⟩ | ⟨h1, h2, h3, h4⟩
  · rw [h1]
    refine c_t (by decide) ?_
    (repeat (first | refine s_p ?_ | refine s_c (by omega) ?_ | refine S.ld ?_ | refine S.ldB ?_ | refine S.ce ?_ | refine S.ceB ?_ | refine s_q ?_ | refine s_qc (by omega) ?_ | refine n_some ?_ | rw [List.getD_cons_zero] | rw [List.getD_cons_succ]))
    refine j_bandH (c := true) (fun _ K3 hK3 => ?_) ?_
    · (repeat (first | refine s_p ?_ | refine s_c (by omega) ?_ | refine S.ld ?_ | refine S.ldB ?_ | refine S.ce ?_ | refine S.ceB ?_ | refine s_q ?_ | refine s_qc (by omega) ?_ | refine n_some ?_ | rw [List.getD_cons_zero] | rw [List.getD_cons_succ]))
      rw [decide_eq_true h2]; exact hK3
    refine j_bandH (c := true) (fun _ K3 hK3 => ?_) ?_
    · (repeat (first | refine s_p ?_ | refine s_c (by omega) ?_ | refine S.ld ?_ | refine S.ldB ?_ | refine S.ce ?_ | refine S.ceB ?_ | refine s_q ?_ | refine s_qc (by omega) ?_ | refine n_some ?_ | rw [List.getD_cons_zero] | rw [List.getD_cons_succ]))
      rw [decide_eq_true h3]; exact hK3
    refine j_bandE (c := true) (fun _ K2 hK2 => ?_) fun w19 e19 => ?_
    · exact c_law06_awake fun w20 e20 => hK2 _ e20
    exact h _ (S.go e19).ext
  · rw [h1]
    refine c_f (by decide) ?_
    (repeat (first | refine s_p ?_ | refine s_c (by omega) ?_ | refine S.ld ?_ | refine S.ldB ?_ | refine S.ce ?_ | refine S.ceB ?_ | refine s_q ?_ | refine s_qc (by omega) ?_ | refine n_some ?_ | rw [List.getD_cons_zero] | rw [List.getD_cons_succ]))
    refine c_types_Text (t := (readT s).1) S.holds hb0.up (nums_ok (hTq.up) h3) fun w13 e13 => ?_
    have S := S.go e13
    have hTT : textT (readT s).1 = (s, 0) := by
      rw [textT, if_pos (show isB (readT s).1 = true from h2), h4]
    rw [hTT]
    (repeat (first | refine s_p ?_ | refine s_c (by omega) ?_ | refine S.ld ?_ | refine S.ldB ?_ | refine S.ce ?_ | refine S.ceB ?_ | refine s_q ?_ | refine s_qc (by omega) ?_ | refine n_some ?_ | rw [List.getD_cons_zero] | rw [List.getD_cons_succ]))
    refine j_bandH (c := true) (fun _ K3 hK3 => ?_) ?_
    · (repeat (first | refine s_p ?_ | refine s_c (by omega) ?_ | refine S.ld ?_ | refine S.ldB ?_ | refine S.ce ?_ | refine S.ceB ?_ | refine s_q ?_ | refine s_qc (by omega) ?_ | refine n_some ?_ | rw [List.getD_cons_zero] | rw [List.getD_cons_succ]))
      simpa using hK3
    refine j_bandE (c := true) (fun _ K2 hK2 => ?_) fun w19 e19 => ?_
    · exact c_law06_awake fun w20 e20 => hK2 _ e20
    exact h _ (S.go e19).ext
end Go.Proofs
end

section
namespace Go.Proofs.YtajllnahceaipaaDoor.open6
open Go.Sh Go.ChangeShapes Go.WideShapes Go.ChangeAt Go.RowKit
set_option maxRecDepth 100000
theorem gTab : Tryd.prog.globalNamed "internal/strconv.uint64pow10" = some 0 := by kernel_rfl
theorem gTabType : (Tryd.prog.globals[0]?).map (·.type) = some 135 := by kernel_rfl
theorem u135 : Tryd.prog.underlying 135 = some (.array 20 123) := by kernel_rfl
theorem u123 : Tryd.prog.underlying 123 = some (.int .u64) := by kernel_rfl
theorem cells135 : Tryd.prog.cellsOf 135 = 20 := by kernel_rfl
theorem cells123 : Tryd.prog.cellsOf 123 = 1 := by kernel_rfl
theorem laidTab : (Rows.laid_internal_strconv_uint64pow10 : DataW Unit) = Lib.tabData .u64 Lib.pow10Tab := by kernel_rfl
theorem table {W : World} (h : laidMetH Tryd.prog Rows.typesTextsRow.laid W) : TabG (all W) := by
  have h0 : laidMet Tryd.prog Rows.typesTextsRow.laid W := h
  have h1 : laidMet Tryd.prog [("internal/strconv.uint64pow10", Rows.laid_internal_strconv_uint64pow10)] W := laidMet.tail (laidMet.tail h0)
  rw [laidTab] at h1
  have ht : Lib.TabIs Tryd.prog W "internal/strconv.uint64pow10" .u64 Lib.pow10Tab := Lib.tabIs_of_head (rest := []) gTab gTabType u135 u123 cells123 cells135 h1
  intro w' hw
  unfold Lib.TabIs World.var? at ht ⊢
  rw [gTab] at ht ⊢
  simp only [Option.bind] at ht ⊢
  cases ho : W.heap[0]? with
  | none => rw [ho] at ht; cases ht
  | some o => rw [hw 0 o ho]; rw [ho] at ht; exact ht
theorem str_list (s : ByteArray) : ∃ l, s = bs l := ⟨s.data.toList, by cases s; simp [bs]⟩
end Go.Proofs.YtajllnahceaipaaDoor.open6
end

section
namespace Go.Proofs.YtajllnahceaipaaDoor.typesBack
open Go.Sh Go.ChangeShapes Go.WideShapes Go.ChangeAt Go.RowKit open6
set_option maxRecDepth 100000
set_option linter.unusedVariables false

theorem contract (H : Type) (enc : TypeId × Value → H) (W : World) (base : Nat) (args : Array Value) (ds gs : List (DataW H)) (before : List MemPlace)
    (hval : ∀ (j : Nat) t v, Tryd.f6.params[j]? = some t → args[j]? = some v → Value.okWide Tryd.prog W .any base t v)
    (hW : DataW.Whole enc Tryd.prog Tryd.f6.params.toList Rows.typesBackSpec.vars false W args.toList ds gs before) (hL : laidMetH Tryd.prog Rows.typesBackRow.laid W) :
    Calls Tryd.prog 6 args W fun e W' => ∃ v, e = .returned v ∧ Rows.typesBackSpec.post enc Tryd.prog Tryd.f6 false true false false W args v W' := by
  have hW' := hW
  obtain ⟨p, q, hA, hV, rfl, hfz, hnd⟩ := hW
  rw [show Tryd.f6.params.toList = [25, 9] by kernel_rfl] at hA
  obtain ⟨v0, vs0, d0, ds0, p0, q100, hargs, rfl, rfl, h0, r0⟩ := trodAll_cons hA
  obtain ⟨v1, vs1, d1, ds1, p1, q101, rfl, rfl, rfl, h1, r1⟩ := trodAll_cons r0
  obtain ⟨rfl, rfl, rfl⟩ := trodAll_nil r1
  obtain rfl : args = #[v0, v1] := by cases args; simp_all
  obtain ⟨rfl, rfl⟩ := trodVars_none hV
  obtain ⟨t0, ht0, hg0⟩ := ty_open (hval 0 25 v0 (by kernel_rfl) rfl) h0
  obtain ⟨s1, rfl, _, _, _⟩ := Go.ChangeMaps.open_string u9 (hval 1 9 v1 (by kernel_rfl) rfl) h1
  obtain ⟨l1, rfl⟩ := str_list s1
  refine Calls.mono (c_law06_TypesBack (K := fun v W' => v = .bool true ∧ Ext W W') (all_holds W) (table hL) ht0 hg0 fun w' e => ⟨rfl, e⟩) ?_
  rintro e W' ⟨v, he, rfl, hE⟩
  exact ⟨_, he, post_told laidOut rowed full (by rw [show Tryd.f6.params.toList = [25, 9] by kernel_rfl]; decide) rfl (by kernel_rfl) u4 hW' rfl hE⟩

def wit : Array Value := #[.agg #[.int .u8 0, .bool false, .int .i64 0, .int .i64 0, .slice none 0 0], .string ⟨#[]⟩]
theorem laid_met (os : Os) : laidMet Tryd.prog Rows.typesBackRow.laid ((laidWorld os).forCall (fun _ _ => 0) ⟨#[], wit, []⟩).memory :=
  laidMet_of_run' 8 (by kernel_rfl) (by kernel_rfl)
theorem reads (os : Os) {H : Type} (enc : TypeId × Value → H) : ∃ ds places, DataW.whole enc Tryd.prog ((laidWorld os).forCall (fun _ _ => 0) ⟨#[], wit, []⟩).memory Tryd.f6.params.toList Rows.typesBackSpec.vars false wit.toList 8 = some (ds, [], places) :=
  ⟨[.agg [.lit (.int .u8 0), .lit (.bool false), .lit (.int .i64 0), .lit (.int .i64 0), .nil], .lit (.string [])], [], by kernel_rfl⟩
theorem lifted (os : Os) (started : os.Started) (H : Type) (enc : TypeId × Value → H) (F : Stop.Interp) :
    ReturnsInHanded {} Tryd.checked os 6 .any ((OpenSpec.ofChange Rows.typesBackSpec).preRow enc Tryd.prog Tryd.f6 Rows.typesBackRow.domain false Rows.typesBackRow.laid) (((OpenSpec.ofChange Rows.typesBackSpec).at F).post enc Tryd.prog Tryd.f6 false true false false) := by
  obtain ⟨ds, places, hx⟩ := reads os enc
  refine returnsInHanded_of_row (C := Tryd.checked) (s := OpenSpec.ofChange Rows.typesBackSpec) own started (by kernel_rfl) Tryd.func6
    (witness_row_at (enc := enc) (C := Tryd.checked) false (laidWorld os) wit rfl (by kernel_rfl) (by kernel_rfl) (by kernel_rfl)
      (OpenSpec.preRow_of_cond 8 hx (by kernel_rfl) (fun k hk => by cases hk) (by kernel_rfl) (laid_met os))) ?_
  intro W base args ds gs before hval hW _ _ _ hL _ _
  exact contract H enc W base args ds gs before hval hW hL
theorem said : Rows.TypesBackSaid :=
  OpenClaim.holds_of_cond 6 Tryd.f6 rfl rfl rfl rfl rfl rfl rfl ⟨rfl, rfl, rfl, rfl, rfl⟩ rfl rfl rfl rfl rfl (by kernel_rfl) Tryd.func6 (by kernel_rfl)
    (of_decide_eq_true (by kernel_rfl)) (by unfold Func.isWrapper; first | (rw [if_pos (by decide +kernel)]; kernel_rfl) | (rw [if_neg (by decide +kernel)]; exact ⟨rfl, rfl⟩))
    (fun os started H enc _ F => by rw [OpenClaim.pre_eq_preRow]; exact lifted os started H enc F)
theorem plain (f : FuncId) (fn : Func) (hf : Tryd.pinned.checked.prog.funcNamed "loanword/loanwordlaw06.TypesBack" = some f) (hfn : Tryd.pinned.checked.prog.funcs[f]? = some fn) :
    true = Tryd.pinned.checked.prog.looks [] ∧ ∀ (j : Nat) t, fn.params[j]? = some t → Tryd.pinned.checked.prog.wantsStandIn t = false := by
  obtain rfl : f = 6 := Option.some.inj ((show Tryd.prog.funcNamed "loanword/loanwordlaw06.TypesBack" = some 6 by kernel_rfl).symm.trans hf) |>.symm
  obtain rfl : fn = Tryd.f6 := (Option.some.inj (Tryd.func6.symm.trans hfn)).symm
  refine ⟨by kernel_rfl, fun j t ht => ?_⟩
  have hall : (Tryd.f6.params.all fun t => !(Tryd.prog.wantsStandIn t)) = true := by kernel_rfl
  have := Array.all_eq_true_iff_forall_mem.1 hall t (Array.mem_of_getElem? ht)
  show Tryd.prog.wantsStandIn t = false
  simpa using this
theorem card : Rows.TypesBackCardSaid :=
  Claim7.holds_tied_plain_at .later [] _ _ _ _ said (fun _ h => by cases h) (by kernel_rfl) (fun _ h => by cases h) typesBack_row_tie rfl ⟨rfl, rfl⟩ (by kernel_rfl) rfl plain (by kernel_rfl)
end Go.Proofs.YtajllnahceaipaaDoor.typesBack
end
