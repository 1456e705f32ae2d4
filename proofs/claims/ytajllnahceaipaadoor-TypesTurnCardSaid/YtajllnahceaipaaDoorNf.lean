/-
  Contracts: the document's reader of types' texts: reference, kind.
  Contracts: the document's reader of types' texts: Read.
  Contracts: equal (of what is alike), spoil.
  Contracts: a type's nodes as one's own cells; own, Own.
  Contracts: walk that turns regions; Number, Anew.
  Contracts: Anew of types.
  Contracts: laid, Number, Anew of the document's answer.
  A slice of one's own that need not begin where its block does: a queue.
  Contracts: types made by hand; awake.
  Contracts: awake.
  The law TypesAsk.
  Contracts: Itoa of every number that is not negative (the kit's contract, laid at this program).
  A law's end: the answer is true, the input reads as it did.
  Whatever an argument reads as, it is a datum: one theorem for all types of numbers, texts, structs and slices.
  What every law of layer 6 opens: types, lists, numbers, texts; the program's facts.
  The law TypesTexts.
  loanwordlaw06.TypesTurn: whatever the types, the number, the regions: the law returns true.
  The table of tens, told by the row.
  Structs as data; what stands in what: the plain laws.
-/
import Derived.Test.YtajllnahceaipaaDoorNe
import Derived.Test.YtajllnahceaipaaDoorNb
import Derived.ArgAppend
import Derived.Shelf.Strconv.Itoa3
import Derived.Test.YtajllnahceaipaaDoorNa
import Derived.ChangeSame
import Derived.ChangeStays
import Derived.ReadAgain
import Derived.ProofKit
import Derived.OpenShut
import Derived.Deep.DeepHandedRow
import Derived.Lib.LaidTab
import Derived.Lib.SmallJoins
import Derived.ChangeArms
import Derived.DataReads
import Derived.Test.YtajllnahceaipaaDoorCards
import Derived.Test.YtajllnahceaipaaDoorTie
import Derived.WalkKit
import Derived.Stop.LaidErr

section
namespace Go.Proofs
open Go.Sh
set_option maxRecDepth 100000
set_option linter.unusedSimpArgs false
/-- the walk's own cells, in another order -/
theorem _root_.Go.Sh.StX.perm {X : Nat → Prop} {w0 w : World} {r : Gh} {L M : List Asr} (S : StX X w0 r w L) (hp : L.Perm M) : StX X w0 r w M :=
  ⟨S.x, S.holds, fun z hz => S.has z (hp.mem_iff.2 hz), fun z hz => S.mine z (hp.mem_iff.2 hz), (List.Perm.pairwise_iff (fun h k h1 h2 => h k h2 h1) hp).1 S.apart⟩
theorem Out.ret {α : Type} {st : Bool} {a : Nat} {v : α} : Out st a (a, some v) a st v := by
  cases st
  · exact ⟨rfl, rfl, rfl⟩
  · exact ⟨rfl, rfl⟩
theorem Out.cut {α : Type} {st : Bool} {a : Nat} {x : Rd' α} {v : α} (h : st = false → x = (a, none)) : Out st a x a true v := by
  cases st
  · exact .no (h rfl)
  · exact .stuck
theorem Out.as {α : Type} {st st' : Bool} {a a' : Nat} {x y : Rd' α} {v : α} (h : Out st a x a' st' v) (e : st = false → y = x) : Out st a y a' st' v := by
  cases st
  · rw [e rfl]; exact h
  · exact h
/-- the byte comes: which, and the reader may take it -/
theorem cm_take {s : List UInt8} {a : Nat} {c : UInt8} (h : cmB s a [c] = true) : a < s.length ∧ tkR s [c] a = (a + 1, some ()) ∧ ∀ d, cmB s a [d] = decide (c = d) := by
  have hlt : a < s.length := by
    by_cases hl : a < s.length
    · exact hl
    · rw [cmB, prefB, List.drop_eq_nil_of_le (by omega)] at h; simp at h
  have hcm : ∀ d, cmB s a [d] = decide (s[a] = d) := by
    intro d
    rw [cmB, prefB, List.drop_eq_getElem_cons hlt]
    have h1 : decide ((([d] : List UInt8).length : Int) ≤ ((s[a] :: s.drop (a + 1)).length : Int)) = true := by simp; omega
    rw [h1, Bool.true_and, show (s[a] :: s.drop (a + 1)).take ([d] : List UInt8).length = [s[a]] from rfl]
    by_cases h2 : s[a] = d
    · simp [h2]
    · simp [h2]
  have hc : s[a] = c := by rw [hcm] at h; simpa using h
  refine ⟨hlt, ?_, fun d => by rw [hcm, hc]⟩
  have hb : byteAt s a = (c.toNat : Int) := by rw [byteAt, List.getD_eq_getElem?_getD, List.getElem?_eq_getElem hlt, ← hc]; rfl
  rw [tkR, takeR, if_neg (by simp [hb]; omega)]
  rfl
theorem nx_is {s : List UInt8} {a : Nat} {st : Bool} (c : UInt8) {n : Int} (hn : n = (c.toNat : Int)) (hc : c ≠ 0) : decide (nxB s a st = n) = (!st && cmB s a [c]) := by
  rw [hn]; exact nx_eq hc
/-- the contract of kind, so deep -/
def KindQ (s : List UInt8) (rd : Nat → Rd' TyD) (left : Nat) : Prop :=
  ∀ {X : Nat → Prop} {w0 w : World} {r : Gh} {L : List Asr} {rb a : Nat} {st : Bool} {K : Value → World → Prop}, StX X w0 r w (rqC rb s a st :: L) → a ≤ s.length → s.length ≤ 1000000000 →
  (∀ t v sn a' st' w', Out st a (rd a) a' st' t → a' ≤ s.length → StX X w0 (r.or sn) w' (rqC rb s a' st' :: L) → (∀ b o, sn b o → w.heap.size ≤ b) → TyG sn v t → K v w') →
  oCall Tryd.prog Tryd.n_ref06_reader_kind #[rdP rb, .int .i64 (left : Int)] w K
section
variable {X : Nat → Prop} {w0 w : World} {r : Gh} {L : List Asr} {rb : Nat} {s p : List UInt8} {a : Nat} {K : Value → World → Prop}
abbrev t5C (b5 : Nat) (m : Bool) (re : Int) : Asr := .cell b5 [.int .u8 4, .bool m, .int .i64 re, .int .i64 0, .slice none 0 0] 25
abbrev t4C (b4 : Nat) : Asr := .cell b4 [.int .u8 0, .bool false, .int .i64 0, .int .i64 0, .slice none 0 0] 25
theorem c_q_reference {n : Nat} {rec : Nat → Rd' TyD} (hkind : KindQ s rec n) (hn : n ≤ 1000) (S : StX X w0 r w (rqC rb s a false :: L)) (_ : a ≤ s.length) (hs : s.length ≤ 1000000000) (hc0 : cmB s a [38] = true)
    (h : ∀ t v sn a' st' w', Out false a (refS s rec (n + 1) a) a' st' t → a' ≤ s.length → StX X w0 (r.or sn) w' (rqC rb s a' st' :: L) → (∀ b o, sn b o → w.heap.size ≤ b) → TyG sn v t → K v w') :
    oCall Tryd.prog Tryd.n_ref06_reader_reference #[rdP rb, .int .i64 ((n + 1 : Nat) : Int)] w K := by
  obtain ⟨ha, e0, _⟩ := cm_take hc0
  refine Tryd.ok_ref06_reader_reference ?_
  unfold Tryd.F_ref06_reader_reference
  refine S.alM fun b4 w1 hb4 _ S => ?_
  refine p_build (cs := #[.int .u8 4, .bool false, .int .i64 (-1), .int .i64 0, .slice none 0 0]) (by kernel_rfl) ?_
  refine S.al fun b5 w2 S => ?_
  refine S.stB fun w3 S => ?_
  (repeat (first | refine s_p ?_ | refine s_c (by omega) ?_ | refine S.ld ?_ | refine S.ldB ?_ | refine S.ce ?_ | refine S.ceB ?_ | refine s_q ?_ | refine s_qc (by omega) ?_ | refine n_some ?_ | rw [List.getD_cons_zero] | rw [List.getD_cons_succ]))
  refine S.st fun w4 S => ?_
  have S : StX X w0 r w4 (t5C b5 false (-1) :: t4C b4 :: rqC rb s (a + 1) false :: L) := S
  refine j_intro (fun _ w' => ∃ a2 st2 re, Out false (a + 1) (rgR s (a + 1)) a2 st2 re ∧ a2 ≤ s.length ∧ -1 ≤ re ∧ StX X w0 r w' (rqC rb s a2 st2 :: t5C b5 false re :: t4C b4 :: L)) (fun K2 hK2 => ?_) ?_
  · have S : StX X w0 r w4 (rqC rb s (a + 1) false :: t5C b5 false (-1) :: t4C b4 :: L) := S.perm (by
      refine (List.Perm.cons _ (.swap _ _ _)).trans ?_
      exact .swap _ _ _)
    refine c_q_next S fun w5 S => ?_
    (repeat (first | refine s_p ?_ | refine s_c (by omega) ?_ | refine S.ld ?_ | refine S.ldB ?_ | refine S.ce ?_ | refine S.ceB ?_ | refine s_q ?_ | refine s_qc (by omega) ?_ | refine n_some ?_ | rw [List.getD_cons_zero] | rw [List.getD_cons_succ]))
    rw [nx_is 39 (n := 39) (by decide) (by decide)]
    refine c_b (fun hc => ?_) (fun hc => ?_)
    · have hc : cmB s (a + 1) [39] = true := by simpa using hc
      obtain ⟨ha1, e1, _⟩ := cm_take hc
      (repeat (first | refine s_p ?_ | refine s_c (by omega) ?_ | refine S.ld ?_ | refine S.ldB ?_ | refine S.ce ?_ | refine S.ceB ?_ | refine s_q ?_ | refine s_qc (by omega) ?_ | refine n_some ?_ | rw [List.getD_cons_zero] | rw [List.getD_cons_succ]))
      refine S.st fun w6 S => ?_
      have S : StX X w0 r w6 (rqC rb s (a + 1 + 1) false :: t5C b5 false (-1) :: t4C b4 :: L) := S
      refine c_q_number S ha1 hs (by decide) (by decide) fun a3 st3 re w7 ha3 h0 _ S o3 => ?_
      (first | refine s_p ?_ | refine s_c (by omega) ?_)
      refine S.st fun w8 S => ?_
      refine c_q_word S ha3 hs (by decide) fun a4 st4 w9 ha4 S o4 => ?_
      refine hK2 [] _ ⟨a4, st4, re, ?_, ha4, by omega, S⟩
      rw [rgR, if_pos hc]
      exact (Out.ok e1).bd (o3.bd (o4.bd .ret))
    · have hc : cmB s (a + 1) [39] = false := by simpa using hc
      refine hK2 [] _ ⟨a + 1, false, -1, ?_, ha, Int.le_refl _, S⟩
      rw [rgR, if_neg (by rw [hc]; simp)]
      exact .ret
  rintro _ w5 ⟨a2, st2, re, o2, ha2, hre, S⟩ d5
  refine j_intro (fun _ w' => ∃ a3 st3 m, Out st2 a2 (mtR s a2) a3 st3 m ∧ a3 ≤ s.length ∧ StX X w0 r w' (rqC rb s a3 st3 :: t5C b5 m re :: t4C b4 :: L)) (fun K2 hK2 => ?_) ?_
  · refine c_q_next S fun w6 S => ?_
    (repeat (first | refine s_p ?_ | refine s_c (by omega) ?_ | refine S.ld ?_ | refine S.ldB ?_ | refine S.ce ?_ | refine S.ceB ?_ | refine s_q ?_ | refine s_qc (by omega) ?_ | refine n_some ?_ | rw [List.getD_cons_zero] | rw [List.getD_cons_succ]))
    rw [nx_is 109 (n := 109) (by decide) (by decide)]
    refine c_b (fun hc => ?_) (fun hc => ?_)
    · have hcc : st2 = false ∧ cmB s a2 [109] = true := by simpa using hc
      clear hc
      obtain ⟨rfl, hc⟩ := hcc
      refine c_q_word S ha2 hs (by decide) fun a3 st3 w7 ha3 S o3 => ?_
      (first | refine s_p ?_ | refine s_c (by omega) ?_)
      refine S.st fun w8 S => ?_
      refine hK2 [] _ ⟨a3, st3, true, ?_, ha3, S⟩
      rw [mtR, if_pos hc]
      exact o3.bd .ret
    · refine hK2 [] _ ⟨a2, st2, false, ?_, ha2, S⟩
      refine Out.ret.as fun hst => ?_
      rw [mtR, if_neg (by rw [hst] at hc; simpa using hc)]
  rintro _ w6 ⟨a3, st3, m, o3, ha3, S⟩ d6
  have hfin : ∀ {a' st'} {u : TyD}, Out st3 a3 (bd (brR s (n + 1) re m a3) fun _ a => bd (rec a) fun u a => (a, some (.mk 4 m re 0 [u]))) a' st' u → Out false a (refS s rec (n + 1) a) a' st' u := by
    intro a' st' u o
    rw [refS]
    exact (Out.ok e0).bd (o2.bd (o3.bd o))
  refine j_intro (fun _ w' => ∃ a4 st4, Out st3 a3 (brR s (n + 1) re m a3) a4 st4 () ∧ a4 ≤ s.length ∧ StX X w0 r w' (rqC rb s a4 st4 :: t5C b5 m re :: t4C b4 :: L)) (fun K2 hK2 => ?_) ?_
  · (repeat (first | refine s_p ?_ | refine s_c (by omega) ?_ | refine S.ld ?_ | refine S.ldB ?_ | refine S.ce ?_ | refine S.ceB ?_ | refine s_q ?_ | refine s_qc (by omega) ?_ | refine n_some ?_ | rw [List.getD_cons_zero] | rw [List.getD_cons_succ]))
    refine j_bandH (c := !m) (fun _ K3 hK3 => ?_) ?_
    · (repeat (first | refine s_p ?_ | refine s_c (by omega) ?_ | refine S.ld ?_ | refine S.ldB ?_ | refine S.ce ?_ | refine S.ceB ?_ | refine s_q ?_ | refine s_qc (by omega) ?_ | refine n_some ?_ | rw [List.getD_cons_zero] | rw [List.getD_cons_succ]))
      exact hK3
    generalize hbare : (decide (re < 0) && !m) = bare at *
    refine c_b (fun hb => ?_) (fun hb => ?_)
    · subst hb
      refine c_q_next S fun w7 S => ?_
      (repeat (first | refine s_p ?_ | refine s_c (by omega) ?_ | refine S.ld ?_ | refine S.ldB ?_ | refine S.ce ?_ | refine S.ceB ?_ | refine s_q ?_ | refine s_qc (by omega) ?_ | refine n_some ?_ | rw [List.getD_cons_zero] | rw [List.getD_cons_succ]))
      rw [nx_is 38 (n := 38) (by decide) (by decide)]
      refine c_b (fun hc1 => ?_) (fun hc1 => ?_)
      · have hcc : st3 = false ∧ cmB s a3 [38] = true := by simpa using hc1
        clear hc1
        obtain ⟨rfl, hc1⟩ := hcc
        (repeat (first | refine s_p ?_ | refine s_c (by omega) ?_ | refine S.ld ?_ | refine S.ldB ?_ | refine S.ce ?_ | refine S.ceB ?_ | refine s_q ?_ | refine s_qc (by omega) ?_ | refine n_some ?_ | rw [List.getD_cons_zero] | rw [List.getD_cons_succ]))
        refine S.st fun w8 S => ?_
        (repeat (first | refine s_p ?_ | refine s_c (by omega) ?_ | refine S.ld ?_ | refine S.ldB ?_ | refine S.ce ?_ | refine S.ceB ?_ | refine s_q ?_ | refine s_qc (by omega) ?_ | refine n_some ?_ | rw [List.getD_cons_zero] | rw [List.getD_cons_succ]))
        refine S.stB fun w9 S => ?_
        (repeat (first | refine s_p ?_ | refine s_c (by omega) ?_ | refine S.ld ?_ | refine S.ldB ?_ | refine S.ce ?_ | refine S.ceB ?_ | refine s_q ?_ | refine s_qc (by omega) ?_ | refine n_some ?_ | rw [List.getD_cons_zero] | rw [List.getD_cons_succ]))
        refine h (.mk 4 m re 0 []) _ nothing a3 true _ (hfin (Out.bd (u := ()) (.no ?_) .stuck)) ha3 (S.d1.d1.to (r.or nothing)) (fun _ _ h => h.elim) ty_leaf
        rw [brR, hbare, hc1]; rfl
      refine c_q_next S fun w8 S => ?_
      (repeat (first | refine s_p ?_ | refine s_c (by omega) ?_ | refine S.ld ?_ | refine S.ldB ?_ | refine S.ce ?_ | refine S.ceB ?_ | refine s_q ?_ | refine s_qc (by omega) ?_ | refine n_some ?_ | rw [List.getD_cons_zero] | rw [List.getD_cons_succ]))
      rw [nx_is 32 (n := 32) (by decide) (by decide)]
      refine j_bandH (c := decide (2 < n + 1)) (fun _ K3 hK3 => ?_) ?_
      · (first | refine s_p ?_ | refine s_c (by omega) ?_)
        rw [show decide ((2 : Int) < ((n + 1 : Nat) : Int)) = decide (2 < n + 1) from decide_eq_decide.2 (by omega)]
        exact hK3
      have hbr : st3 = false → brR s (n + 1) re m a3 = if cmB s a3 [32] && decide (2 < n + 1) then bd (tkR s [32] a3) fun _ a => if !cmB s a [38] then (a, none) else (a, some ()) else (a3, some ()) := by
        intro hst
        rw [hst] at hc1
        rw [brR, hbare, Bool.true_and, Bool.true_and, if_neg (by simpa using hc1)]
      refine c_b (fun hc2 => ?_) (fun hc2 => ?_)
      · simp only [Bool.and_eq_true, Bool.not_eq_true'] at hc2
        obtain ⟨⟨rfl, hc2⟩, hn2⟩ := hc2
        have hbr := hbr rfl
        rw [hc2, hn2, Bool.true_and, if_pos rfl] at hbr
        obtain ⟨ha4, e4, _⟩ := cm_take hc2
        rw [e4] at hbr
        (repeat (first | refine s_p ?_ | refine s_c (by omega) ?_ | refine S.ld ?_ | refine S.ldB ?_ | refine S.ce ?_ | refine S.ceB ?_ | refine s_q ?_ | refine s_qc (by omega) ?_ | refine n_some ?_ | rw [List.getD_cons_zero] | rw [List.getD_cons_succ]))
        refine S.st fun w9 S => ?_
        have S : StX X w0 r w9 (rqC rb s (a3 + 1) false :: t5C b5 m re :: t4C b4 :: L) := S
        refine c_q_next S fun w10 S => ?_
        (repeat (first | refine s_p ?_ | refine s_c (by omega) ?_ | refine S.ld ?_ | refine S.ldB ?_ | refine S.ce ?_ | refine S.ceB ?_ | refine s_q ?_ | refine s_qc (by omega) ?_ | refine n_some ?_ | rw [List.getD_cons_zero] | rw [List.getD_cons_succ]))
        have hne : decide (nxB s (a3 + 1) false ≠ 38) = !cmB s (a3 + 1) [38] := by
          have := nx_is (s := s) (a := a3 + 1) (st := false) 38 (n := 38) (by decide) (by decide)
          rw [decide_not, this]; simp
        rw [hne]
        refine c_b (fun hc3 => ?_) (fun hc3 => ?_)
        · (repeat (first | refine s_p ?_ | refine s_c (by omega) ?_ | refine S.ld ?_ | refine S.ldB ?_ | refine S.ce ?_ | refine S.ceB ?_ | refine s_q ?_ | refine s_qc (by omega) ?_ | refine n_some ?_ | rw [List.getD_cons_zero] | rw [List.getD_cons_succ]))
          refine S.st fun w11 S => ?_
          (repeat (first | refine s_p ?_ | refine s_c (by omega) ?_ | refine S.ld ?_ | refine S.ldB ?_ | refine S.ce ?_ | refine S.ceB ?_ | refine s_q ?_ | refine s_qc (by omega) ?_ | refine n_some ?_ | rw [List.getD_cons_zero] | rw [List.getD_cons_succ]))
          refine S.stB fun w12 S => ?_
          (repeat (first | refine s_p ?_ | refine s_c (by omega) ?_ | refine S.ld ?_ | refine S.ldB ?_ | refine S.ce ?_ | refine S.ceB ?_ | refine s_q ?_ | refine s_qc (by omega) ?_ | refine n_some ?_ | rw [List.getD_cons_zero] | rw [List.getD_cons_succ]))
          refine h (.mk 4 m re 0 []) _ nothing (a3 + 1) true _ (hfin (Out.bd (u := ()) (.no ?_) .stuck)) ha4 (S.d1.d1.to (r.or nothing)) (fun _ _ h => h.elim) ty_leaf
          rw [hbr]; simp only [bd]; rw [if_pos hc3]
        · refine hK2 [] _ ⟨a3 + 1, false, .ok ?_, ha4, S⟩
          rw [hbr]; simp only [bd]; rw [if_neg (by rw [hc3]; simp)]
      · refine hK2 [] _ ⟨a3, st3, Out.ret.as fun hst => ?_, ha3, S⟩
        rw [hbr hst, if_neg (by rw [hst] at hc2; simpa using hc2)]
    · subst hb
      refine hK2 [] _ ⟨a3, st3, Out.ret.as fun hst => ?_, ha3, S⟩
      rw [brR, hbare]; simp
  rintro _ w7 ⟨a4, st4, o4, ha4, S⟩ d7
  (first | refine s_p ?_ | refine s_c (by omega) ?_)
  rw [show ((n + 1 : Nat) : Int) - 1 = (n : Int) by omega]
  have hb47 : b4 < w7.heap.size := Asr.lt (x := t4C b4) (S.has _ (by simp)) rfl
  refine hkind S ha4 hs (fun u v sn a5 st5 w8 o5 ha5 S hf hty => ?_)
  have hty0 := hty
  obtain ⟨p9, cap9, rfl, _⟩ := hty
  refine w_lit (e := 25) (cs := [.int .u8 u.k, .bool u.m, .int .i64 u.re, .int .i64 u.st, .slice p9 u.of.length cap9]) (by kernel_rfl) fun b9 w9 hb9 e9 _ B9 => ?_
  have hb4' : b4 < w8.heap.size := Asr.lt (x := t4C b4) (S.has _ (by simp)) rfl
  have S := S.add e9 (by omega) B9
  have S := S.frz
  (first | refine s_p ?_ | refine s_c (by omega) ?_)
  refine S.st fun w10 S => ?_
  (repeat (first | refine s_p ?_ | refine s_c (by omega) ?_ | refine S.ld ?_ | refine S.ldB ?_ | refine S.ce ?_ | refine S.ceB ?_ | refine s_q ?_ | refine s_qc (by omega) ?_ | refine n_some ?_ | rw [List.getD_cons_zero] | rw [List.getD_cons_succ]))
  refine S.stB fun w11 S => ?_
  (repeat (first | refine s_p ?_ | refine s_c (by omega) ?_ | refine S.ld ?_ | refine S.ldB ?_ | refine S.ce ?_ | refine S.ceB ?_ | refine s_q ?_ | refine s_qc (by omega) ?_ | refine n_some ?_ | rw [List.getD_cons_zero] | rw [List.getD_cons_succ]))
  have S := S.d1.d1.to (r.or (sn.or (one b9 [.int .u8 u.k, .bool u.m, .int .i64 u.re, .int .i64 u.st, .slice p9 u.of.length cap9] 25)))
  refine h (.mk 4 m re 0 [u]) _ (sn.or (one b9 [.int .u8 u.k, .bool u.m, .int .i64 u.re, .int .i64 u.st, .slice p9 u.of.length cap9] 25)) a5 st5 _ (hfin (o4.bd (o5.bd .ret))) ha5 S (fun b o hbo => ?_) (ty_one hty0)
  rcases hbo with hbo | ⟨rfl, _⟩
  · have := hf b o hbo; omega
  · omega
theorem kindq_step {rec : Nat → Rd' TyD} {left : Nat} (hl : left ≤ 1000) (hrec : 1 < left → ∃ m, left = m + 1 ∧ KindQ s rec m) : KindQ s (kindS s rec left) left := by
  intro X w0 w r L rb a st K S ha hs h
  refine Tryd.ok_ref06_reader_kind ?_
  unfold Tryd.F_ref06_reader_kind
  refine S.alM fun b4 w1 hb4 _ S => ?_
  have S := S.swap
  refine c_q_next S fun w2 S => ?_
  (repeat (first | refine s_p ?_ | refine s_c (by omega) ?_ | refine S.ld ?_ | refine S.ldB ?_ | refine S.ce ?_ | refine S.ceB ?_ | refine s_q ?_ | refine s_qc (by omega) ?_ | refine n_some ?_ | rw [List.getD_cons_zero] | rw [List.getD_cons_succ]))
  rw [nx_is 105 (n := 105) (by decide) (by decide)]
  refine c_b (fun hc => ?_) (fun hc1 => ?_)
  · have hcc : st = false ∧ cmB s a [105] = true := by simpa using hc
    clear hc
    obtain ⟨rfl, hc⟩ := hcc
    refine c_q_word S ha hs (by decide) fun a1 st1 w3 ha1 S o1 => ?_
    refine p_build (cs := #[.int .u8 1, .bool false, .int .i64 0, .int .i64 0, .slice none 0 0]) (by kernel_rfl) ?_
    refine S.stB fun w4 S => ?_
    (repeat (first | refine s_p ?_ | refine s_c (by omega) ?_ | refine S.ld ?_ | refine S.ldB ?_ | refine S.ce ?_ | refine S.ceB ?_ | refine s_q ?_ | refine s_qc (by omega) ?_ | refine n_some ?_ | rw [List.getD_cons_zero] | rw [List.getD_cons_succ]))
    refine h (.mk 1 false 0 0 []) _ nothing a1 st1 _ ?_ ha1 (S.d1.to (r.or nothing)) (fun _ _ h => h.elim) ty_leaf
    rw [kindS, if_pos hc]
    exact o1.bd .ret
  (repeat (first | refine s_p ?_ | refine s_c (by omega) ?_ | refine S.ld ?_ | refine S.ldB ?_ | refine S.ce ?_ | refine S.ceB ?_ | refine s_q ?_ | refine s_qc (by omega) ?_ | refine n_some ?_ | rw [List.getD_cons_zero] | rw [List.getD_cons_succ]))
  rw [nx_is 35 (n := 35) (by decide) (by decide)]
  refine c_b (fun hc => ?_) (fun hc2 => ?_)
  · have hcc : st = false ∧ cmB s a [35] = true := by simpa using hc
    clear hc
    obtain ⟨rfl, hc⟩ := hcc
    obtain ⟨ha1, e1, hd⟩ := cm_take hc
    (repeat (first | refine s_p ?_ | refine s_c (by omega) ?_ | refine S.ld ?_ | refine S.ldB ?_ | refine S.ce ?_ | refine S.ceB ?_ | refine s_q ?_ | refine s_qc (by omega) ?_ | refine n_some ?_ | rw [List.getD_cons_zero] | rw [List.getD_cons_succ]))
    refine S.st fun w3 S => ?_
    have S : StX X w0 r w3 (rqC rb s (a + 1) false :: t4C b4 :: L) := S
    refine c_q_number S ha1 hs (by decide) (by decide) fun a2 st2 n w4 ha2 h0 _ S o2 => ?_
    refine p_build (cs := #[.int .u8 5, .bool false, .int .i64 0, .int .i64 n, .slice none 0 0]) (by kernel_rfl) ?_
    refine S.stB fun w5 S => ?_
    (repeat (first | refine s_p ?_ | refine s_c (by omega) ?_ | refine S.ld ?_ | refine S.ldB ?_ | refine S.ce ?_ | refine S.ceB ?_ | refine s_q ?_ | refine s_qc (by omega) ?_ | refine n_some ?_ | rw [List.getD_cons_zero] | rw [List.getD_cons_succ]))
    refine h (.mk 5 false 0 n []) _ nothing a2 st2 _ ?_ ha2 (S.d1.to (r.or nothing)) (fun _ _ h => h.elim) ty_leaf
    rw [kindS, if_neg (by rw [hd]; decide), if_neg (by rw [hd]; decide), if_pos hc]
    exact (Out.ok e1).bd (o2.bd .ret)
  (repeat (first | refine s_p ?_ | refine s_c (by omega) ?_ | refine S.ld ?_ | refine S.ldB ?_ | refine S.ce ?_ | refine S.ceB ?_ | refine s_q ?_ | refine s_qc (by omega) ?_ | refine n_some ?_ | rw [List.getD_cons_zero] | rw [List.getD_cons_succ]))
  rw [nx_is 98 (n := 98) (by decide) (by decide)]
  refine c_b (fun hc => ?_) (fun hc3 => ?_)
  · have hcc : st = false ∧ cmB s a [98] = true := by simpa using hc
    clear hc
    obtain ⟨rfl, hc⟩ := hcc
    obtain ⟨_, _, hd⟩ := cm_take hc
    refine c_q_word S ha hs (by decide) fun a1 st1 w3 ha1 S o1 => ?_
    refine p_build (cs := #[.int .u8 2, .bool false, .int .i64 0, .int .i64 0, .slice none 0 0]) (by kernel_rfl) ?_
    refine S.stB fun w4 S => ?_
    (repeat (first | refine s_p ?_ | refine s_c (by omega) ?_ | refine S.ld ?_ | refine S.ldB ?_ | refine S.ce ?_ | refine S.ceB ?_ | refine s_q ?_ | refine s_qc (by omega) ?_ | refine n_some ?_ | rw [List.getD_cons_zero] | rw [List.getD_cons_succ]))
    refine h (.mk 2 false 0 0 []) _ nothing a1 st1 _ ?_ ha1 (S.d1.to (r.or nothing)) (fun _ _ h => h.elim) ty_leaf
    rw [kindS, if_neg (by rw [hd]; decide), if_pos hc]
    exact o1.bd .ret
  (repeat (first | refine s_p ?_ | refine s_c (by omega) ?_ | refine S.ld ?_ | refine S.ldB ?_ | refine S.ce ?_ | refine S.ceB ?_ | refine s_q ?_ | refine s_qc (by omega) ?_ | refine n_some ?_ | rw [List.getD_cons_zero] | rw [List.getD_cons_succ]))
  rw [nx_is 66 (n := 66) (by decide) (by decide)]
  refine c_b (fun hc => ?_) (fun hc4 => ?_)
  · have hcc : st = false ∧ cmB s a [66] = true := by simpa using hc
    clear hc
    obtain ⟨rfl, hc⟩ := hcc
    obtain ⟨_, _, hd⟩ := cm_take hc
    (first | refine s_p ?_ | refine s_c (by omega) ?_)
    refine c_if (fun hlt => ?_) (fun hge => ?_)
    · (repeat (first | refine s_p ?_ | refine s_c (by omega) ?_ | refine S.ld ?_ | refine S.ldB ?_ | refine S.ce ?_ | refine S.ceB ?_ | refine s_q ?_ | refine s_qc (by omega) ?_ | refine n_some ?_ | rw [List.getD_cons_zero] | rw [List.getD_cons_succ]))
      refine S.st fun w3 S => ?_
      refine p_build (cs := #[.int .u8 0, .bool false, .int .i64 0, .int .i64 0, .slice none 0 0]) (by kernel_rfl) ?_
      refine S.stB fun w4 S => ?_
      (repeat (first | refine s_p ?_ | refine s_c (by omega) ?_ | refine S.ld ?_ | refine S.ldB ?_ | refine S.ce ?_ | refine S.ceB ?_ | refine s_q ?_ | refine s_qc (by omega) ?_ | refine n_some ?_ | rw [List.getD_cons_zero] | rw [List.getD_cons_succ]))
      refine h (.mk 0 false 0 0 []) _ nothing a true _ (.no ?_) ha (S.d1.to (r.or nothing)) (fun _ _ h => h.elim) ty_leaf
      rw [kindS, if_neg (by rw [hd]; decide), if_neg (by rw [hd]; decide), if_neg (by rw [hd]; decide), if_neg (by simp; omega), if_neg (by simp; omega)]
    obtain ⟨m, rfl, hkind⟩ := hrec (by omega)
    have hR : kindS s rec (m + 1) a = bd (tkR s [66, 111, 120, 60] a) fun _ a => bd (rec a) fun u a => bd (tkR s [62] a) fun _ a => (a, some (.mk 3 false 0 0 [u])) := by
      rw [kindS, if_neg (by rw [hd]; decide), if_neg (by rw [hd]; decide), if_neg (by rw [hd]; decide), if_pos (by rw [hc]; simp; omega)]
    rw [hR] at h
    refine c_q_word S ha hs (by decide) fun a1 st1 w6 ha1 S o1 => ?_
    (first | refine s_p ?_ | refine s_c (by omega) ?_)
    rw [show ((m + 1 : Nat) : Int) - 1 = (m : Int) by omega]
    have hb46 : b4 < w6.heap.size := Asr.lt (x := t4C b4) (S.has _ (by simp)) rfl
    refine hkind S ha1 hs (fun u v sn a2 st2 w7 o2 ha2 S hf hty => ?_)
    have hty0 := hty
    obtain ⟨p9, cap9, rfl, _⟩ := hty
    refine w_lit (e := 25) (cs := [.int .u8 u.k, .bool u.m, .int .i64 u.re, .int .i64 u.st, .slice p9 u.of.length cap9]) (by kernel_rfl) fun b9 w9 hb9 e9 _ B9 => ?_
    have hb47 : b4 < w7.heap.size := Asr.lt (x := t4C b4) (S.has _ (by simp)) rfl
    have S := S.add e9 (by omega) B9
    have S := S.frz
    refine p_build (cs := #[.int .u8 3, .bool false, .int .i64 0, .int .i64 0, .slice (some ⟨b9, 0, none⟩) 1 1]) (by kernel_rfl) ?_
    refine S.al fun b6 w10 S => ?_
    have S := S.swap
    refine S.stB fun w11 S => ?_
    refine c_q_word S ha2 hs (by decide) fun a3 st3 w12 ha3 S o3 => ?_
    (repeat (first | refine s_p ?_ | refine s_c (by omega) ?_ | refine S.ld ?_ | refine S.ldB ?_ | refine S.ce ?_ | refine S.ceB ?_ | refine s_q ?_ | refine s_qc (by omega) ?_ | refine n_some ?_ | rw [List.getD_cons_zero] | rw [List.getD_cons_succ]))
    refine S.stB fun w13 S => ?_
    (repeat (first | refine s_p ?_ | refine s_c (by omega) ?_ | refine S.ld ?_ | refine S.ldB ?_ | refine S.ce ?_ | refine S.ceB ?_ | refine s_q ?_ | refine s_qc (by omega) ?_ | refine n_some ?_ | rw [List.getD_cons_zero] | rw [List.getD_cons_succ]))
    have S := S.d1.d1.to (r.or (sn.or (one b9 [.int .u8 u.k, .bool u.m, .int .i64 u.re, .int .i64 u.st, .slice p9 u.of.length cap9] 25)))
    refine h (.mk 3 false 0 0 [u]) _ (sn.or (one b9 [.int .u8 u.k, .bool u.m, .int .i64 u.re, .int .i64 u.st, .slice p9 u.of.length cap9] 25)) a3 st3 _ (o1.bd (o2.bd (o3.bd .ret))) ha3 S (fun b o hbo => ?_) (ty_one hty0)
    rcases hbo with hbo | ⟨rfl, _⟩
    · have := hf b o hbo; omega
    · omega
  (repeat (first | refine s_p ?_ | refine s_c (by omega) ?_ | refine S.ld ?_ | refine S.ldB ?_ | refine S.ce ?_ | refine S.ceB ?_ | refine s_q ?_ | refine s_qc (by omega) ?_ | refine n_some ?_ | rw [List.getD_cons_zero] | rw [List.getD_cons_succ]))
  rw [nx_is 38 (n := 38) (by decide) (by decide)]
  refine c_b (fun hc => ?_) (fun hc5 => ?_)
  · have hcc : st = false ∧ cmB s a [38] = true := by simpa using hc
    clear hc
    obtain ⟨rfl, hc⟩ := hcc
    obtain ⟨_, _, hd⟩ := cm_take hc
    have hR : kindS s rec left a = if 1 < left then refS s rec left a else (a, none) := by
      rw [kindS, if_neg (by rw [hd]; decide), if_neg (by rw [hd]; decide), if_neg (by rw [hd]; decide), if_neg (by rw [hd]; simp), hc, Bool.true_and]
      by_cases h1 : 1 < left <;> simp [h1]
    rw [hR] at h
    (first | refine s_p ?_ | refine s_c (by omega) ?_)
    refine c_if (fun hlt => ?_) (fun hge => ?_)
    · (repeat (first | refine s_p ?_ | refine s_c (by omega) ?_ | refine S.ld ?_ | refine S.ldB ?_ | refine S.ce ?_ | refine S.ceB ?_ | refine s_q ?_ | refine s_qc (by omega) ?_ | refine n_some ?_ | rw [List.getD_cons_zero] | rw [List.getD_cons_succ]))
      refine S.st fun w3 S => ?_
      refine p_build (cs := #[.int .u8 0, .bool false, .int .i64 0, .int .i64 0, .slice none 0 0]) (by kernel_rfl) ?_
      refine S.stB fun w4 S => ?_
      (repeat (first | refine s_p ?_ | refine s_c (by omega) ?_ | refine S.ld ?_ | refine S.ldB ?_ | refine S.ce ?_ | refine S.ceB ?_ | refine s_q ?_ | refine s_qc (by omega) ?_ | refine n_some ?_ | rw [List.getD_cons_zero] | rw [List.getD_cons_succ]))
      refine h (.mk 0 false 0 0 []) _ nothing a true _ (.no ?_) ha (S.d1.to (r.or nothing)) (fun _ _ h => h.elim) ty_leaf
      rw [if_neg (by omega)]
    obtain ⟨m, rfl, hkind⟩ := hrec (by omega)
    rw [if_pos (by omega)] at h
    have hb46 : b4 < w2.heap.size := Asr.lt (x := t4C b4) (S.has _ (by simp)) rfl
    refine c_q_reference hkind (by omega) S ha hs hc (fun u v sn a2 st2 w7 o2 ha2 S hf hty => ?_)
    have hty0 := hty
    obtain ⟨p9, cap9, rfl, _⟩ := hty
    refine S.stB fun w8 S => ?_
    (repeat (first | refine s_p ?_ | refine s_c (by omega) ?_ | refine S.ld ?_ | refine S.ldB ?_ | refine S.ce ?_ | refine S.ceB ?_ | refine s_q ?_ | refine s_qc (by omega) ?_ | refine n_some ?_ | rw [List.getD_cons_zero] | rw [List.getD_cons_succ]))
    exact h u _ sn a2 st2 _ o2 ha2 S.d1 (fun b o hbo => by have := hf b o hbo; omega) hty0
  · (repeat (first | refine s_p ?_ | refine s_c (by omega) ?_ | refine S.ld ?_ | refine S.ldB ?_ | refine S.ce ?_ | refine S.ceB ?_ | refine s_q ?_ | refine s_qc (by omega) ?_ | refine n_some ?_ | rw [List.getD_cons_zero] | rw [List.getD_cons_succ]))
    refine S.st fun w3 S => ?_
    refine p_build (cs := #[.int .u8 0, .bool false, .int .i64 0, .int .i64 0, .slice none 0 0]) (by kernel_rfl) ?_
    refine S.stB fun w4 S => ?_
    (repeat (first | refine s_p ?_ | refine s_c (by omega) ?_ | refine S.ld ?_ | refine S.ldB ?_ | refine S.ce ?_ | refine S.ceB ?_ | refine s_q ?_ | refine s_qc (by omega) ?_ | refine n_some ?_ | rw [List.getD_cons_zero] | rw [List.getD_cons_succ]))
    refine h (.mk 0 false 0 0 []) _ nothing a true _ (.cut fun hst => ?_) ha (S.d1.to (r.or nothing)) (fun _ _ h => h.elim) ty_leaf
    rw [hst] at hc1 hc2 hc3 hc4 hc5
    simp only [Bool.not_false, Bool.true_and] at hc1 hc2 hc3 hc4 hc5
    rw [kindS, hc1, hc2, hc3, hc4, hc5]; rfl
theorem c_q_kind (s : List UInt8) : ∀ n, n ≤ 1000 → KindQ s (kindR s n) n := by
  intro n
  induction n with
  | zero => intro _; exact kindq_step (by decide) fun h => absurd h (by decide)
  | succ n ih => intro hn; exact kindq_step hn fun _ => ⟨n, rfl, ih (by omega)⟩
end
end Go.Proofs
end

section
namespace Go.Proofs
open Go.Sh
set_option maxRecDepth 100000
set_option linter.unusedSimpArgs false
set_option linter.unusedVariables false
theorem out_read {s : List UInt8} {a : Nat} {st : Bool} {t : TyD} (o : Out false 0 (kindR s 48 0) a st t) :
    readT s = if st || decide ((a : Int) < s.length) then (zeroD, (a : Int), 60) else (t, 0, 0) := by
  rw [readT]
  revert o
  generalize kindR s 48 0 = x
  obtain ⟨a1, o1⟩ := x
  cases o1 with
  | none =>
    rintro ⟨rfl, rfl⟩
    simp
  | some u =>
    rintro ⟨rfl, rfl, rfl⟩
    simp only [Bool.false_or, decide_eq_true_eq]
theorem c_ref06_Read {s : List UInt8} {w : World} {r : Gh} {K : Value → World → Prop} (hr : Holds r w) (hs : s.length ≤ 1000000000)
    (h : ∀ v sn w', Ext w w' → New w sn w' → TyG sn v (readT s).1 → K (.tuple #[v, .int .i64 (readT s).2.1, .int .i64 (readT s).2.2]) w') :
    oCall Tryd.prog Tryd.n_ref06_Read #[.string (bs s)] w K := by
  refine Tryd.ok_ref06_Read ?_
  unfold Tryd.F_ref06_Read
  have S := St.start hr
  refine S.al fun b2 w1 S => ?_
  refine p_build (cs := #[.string (bs s), .int .i64 0, .bool false]) (by kernel_rfl) ?_
  refine S.box fun rb w2 S => ?_
  have esz := S.ext.size
  have S : StX noX w r w2 (rqC rb s 0 false :: .cell b2 [.int .u8 0, .bool false, .int .i64 0, .int .i64 0, .slice none 0 0] 25 :: []) := S
  refine c_q_kind s 48 (by decide) S (Nat.zero_le _) hs fun t v sn a st w3 o ha S hf hty => ?_
  have hT := out_read o
  have hty0 := hty
  obtain ⟨p9, cap9, rfl, _⟩ := hty
  refine S.al fun b6 w4 S => ?_
  refine S.stB fun w5 S => ?_
  (repeat (first | refine s_p ?_ | refine s_c (by omega) ?_ | refine S.ld ?_ | refine S.ldB ?_ | refine S.ce ?_ | refine S.ceB ?_ | refine s_q ?_ | refine s_qc (by omega) ?_ | refine n_some ?_ | rw [List.getD_cons_zero] | rw [List.getD_cons_succ]))
  refine j_borH (c := decide ((a : Int) < s.length)) (fun _ K2 hK2 => ?_) ?_
  · (repeat (first | refine s_p ?_ | refine s_c (by omega) ?_ | refine S.ld ?_ | refine S.ldB ?_ | refine S.ce ?_ | refine S.ceB ?_ | refine s_q ?_ | refine s_qc (by omega) ?_ | refine n_some ?_ | rw [List.getD_cons_zero] | rw [List.getD_cons_succ]))
    exact hK2
  refine c_b (fun hc => ?_) (fun hc => ?_)
  · rw [if_pos hc] at hT
    rw [hT] at h
    refine p_build (cs := #[.int .u8 0, .bool false, .int .i64 0, .int .i64 0, .slice none 0 0]) (by kernel_rfl) ?_
    have S := S.go (Ext.drew _)
    (repeat (first | refine s_p ?_ | refine s_c (by omega) ?_ | refine S.ld ?_ | refine S.ldB ?_ | refine S.ce ?_ | refine S.ceB ?_ | refine s_q ?_ | refine s_qc (by omega) ?_ | refine n_some ?_ | rw [List.getD_cons_zero] | rw [List.getD_cons_succ]))
    refine ⟨?_, ?_⟩
    · refine w_q ?_
      (repeat (first | refine s_p ?_ | refine s_c (by omega) ?_ | refine S.ld ?_ | refine S.ldB ?_ | refine S.ce ?_ | refine S.ceB ?_ | refine s_q ?_ | refine s_qc (by omega) ?_ | refine n_some ?_ | rw [List.getD_cons_zero] | rw [List.getD_cons_succ]))
      refine S.stB fun w6 S => ?_
      (repeat (first | refine s_p ?_ | refine s_c (by omega) ?_ | refine S.ld ?_ | refine S.ldB ?_ | refine S.ce ?_ | refine S.ceB ?_ | refine s_q ?_ | refine s_qc (by omega) ?_ | refine n_some ?_ | rw [List.getD_cons_zero] | rw [List.getD_cons_succ]))
      exact h _ nothing _ S.ext New.nothing ty_leaf
    · refine S.stB fun w6 S => ?_
      refine w_q ?_
      (repeat (first | refine s_p ?_ | refine s_c (by omega) ?_ | refine S.ld ?_ | refine S.ldB ?_ | refine S.ce ?_ | refine S.ceB ?_ | refine s_q ?_ | refine s_qc (by omega) ?_ | refine n_some ?_ | rw [List.getD_cons_zero] | rw [List.getD_cons_succ]))
      exact h _ nothing _ S.ext New.nothing ty_leaf
  · rw [hc, if_neg (by simp)] at hT
    rw [hT] at h
    (repeat (first | refine s_p ?_ | refine s_c (by omega) ?_ | refine S.ld ?_ | refine S.ldB ?_ | refine S.ce ?_ | refine S.ceB ?_ | refine s_q ?_ | refine s_qc (by omega) ?_ | refine n_some ?_ | rw [List.getD_cons_zero] | rw [List.getD_cons_succ]))
    refine S.stB fun w6 S => ?_
    (repeat (first | refine s_p ?_ | refine s_c (by omega) ?_ | refine S.ld ?_ | refine S.ldB ?_ | refine S.ce ?_ | refine S.ceB ?_ | refine s_q ?_ | refine s_qc (by omega) ?_ | refine n_some ?_ | rw [List.getD_cons_zero] | rw [List.getD_cons_succ]))
    exact h _ sn _ S.ext ⟨S.holds.le (h := inferInstance), fun b o hb => Nat.le_trans esz (hf b o hb)⟩ hty0
end Go.Proofs
end

section
namespace Go.Proofs
open Go.Sh
set_option maxRecDepth 100000
set_option linter.unusedSimpArgs false
set_option linter.unusedVariables false
mutual
/-- no list of a type is longer than three -/
def TyD.few : TyD → Prop
  | .mk _ _ _ _ of => of.length ≤ 3 ∧ TyD.fews of
def TyD.fews : List TyD → Prop
  | [] => True
  | t :: l => TyD.few t ∧ TyD.fews l
end
theorem TyD.fews_mem : ∀ {l : List TyD}, TyD.fews l → ∀ t ∈ l, t.few
  | [], _, t, h => by cases h
  | x :: l, h, t, ht => by
    rcases List.mem_cons.1 ht with rfl | ht
    · exact h.1
    · exact TyD.fews_mem h.2 t ht
theorem TyD.few_of {t : TyD} (h : t.few) : t.of.length ≤ 3 ∧ ∀ u ∈ t.of, u.few := by
  cases t with | mk k m re st of => exact ⟨h.1, TyD.fews_mem h.2⟩
theorem ChnG.few {sn : Gh} {v : Value} {t : TyD} (h : ChnG sn v t) : t.few := by
  induction h with
  | nil => exact ⟨Nat.zero_le _, trivial⟩
  | one _ _ _ _ ih => exact ⟨by simp, ih, trivial⟩
theorem c_law06_equal : ∀ (n : Nat) (t : TyD), t.ht ≤ n → t.few → ∀ {w : World} {r : Gh} {va vb : Value} {K : Value → World → Prop}, Holds r w → TyG r va t → TyG r vb t →
    (∀ w', Ext w w' → K (.bool true) w') → oCall Tryd.prog Tryd.n_law06_equal #[va, vb] w K := by
  intro n
  induction n with
  | zero => intro t h; cases t; simp [TyD.ht] at h
  | succ n ih =>
    intro t hn hf w r va vb K hr ha hb h
    obtain ⟨hlen, hfs⟩ := TyD.few_of hf
    obtain ⟨p, cap, rfl, _, _, hra⟩ := ha
    obtain ⟨q, cap', rfl, _, _, hrb⟩ := hb
    refine Tryd.ok_law06_equal ?_
    unfold Tryd.F_law06_equal
    have S := St.start hr
    refine S.box fun b2 w1 S => ?_
    refine S.box fun b3 w2 S => ?_
    (repeat (first | refine s_p ?_ | refine s_c (by omega) ?_ | refine S.ld ?_ | refine S.ldB ?_ | refine S.ce ?_ | refine S.ceB ?_ | refine s_q ?_ | refine s_qc (by omega) ?_ | refine n_some ?_ | rw [List.getD_cons_zero] | rw [List.getD_cons_succ]))
    refine j_borH (c := false) (fun _ K2 hK2 => ?_) ?_
    · (repeat (first | refine s_p ?_ | refine s_c (by omega) ?_ | refine S.ld ?_ | refine S.ldB ?_ | refine S.ce ?_ | refine S.ceB ?_ | refine s_q ?_ | refine s_qc (by omega) ?_ | refine n_some ?_ | rw [List.getD_cons_zero] | rw [List.getD_cons_succ]))
      simpa using hK2
    refine j_borH (c := false) (fun _ K2 hK2 => ?_) ?_
    · (repeat (first | refine s_p ?_ | refine s_c (by omega) ?_ | refine S.ld ?_ | refine S.ldB ?_ | refine S.ce ?_ | refine S.ceB ?_ | refine s_q ?_ | refine s_qc (by omega) ?_ | refine n_some ?_ | rw [List.getD_cons_zero] | rw [List.getD_cons_succ]))
      simpa using hK2
    refine j_borH (c := false) (fun _ K2 hK2 => ?_) ?_
    · (repeat (first | refine s_p ?_ | refine s_c (by omega) ?_ | refine S.ld ?_ | refine S.ldB ?_ | refine S.ce ?_ | refine S.ceB ?_ | refine s_q ?_ | refine s_qc (by omega) ?_ | refine n_some ?_ | rw [List.getD_cons_zero] | rw [List.getD_cons_succ]))
      simpa using hK2
    refine j_borH (c := false) (fun _ K2 hK2 => ?_) ?_
    · (repeat (first | refine s_p ?_ | refine s_c (by omega) ?_ | refine S.ld ?_ | refine S.ldB ?_ | refine S.ce ?_ | refine S.ceB ?_ | refine s_q ?_ | refine s_qc (by omega) ?_ | refine n_some ?_ | rw [List.getD_cons_zero] | rw [List.getD_cons_succ]))
      simpa using hK2
    refine c_f (by simp) ?_
    refine l_intro (ι := Nat) (fun i => [.int .i64 i]) (fun i w' => i ≤ t.of.length ∧ StX noX w r w' [.cell b3 (Value.agg #[.int .u8 t.k, .bool t.m, .int .i64 t.re, .int .i64 t.st, .slice q t.of.length cap']).cells.toList 25, .cell b2 (Value.agg #[.int .u8 t.k, .bool t.m, .int .i64 t.re, .int .i64 t.st, .slice p t.of.length cap]).cells.toList 25])
      (fun i => t.of.length - i) 0 rfl ⟨Nat.zero_le _, S⟩ ?_
    clear S
    rintro i d w3 ⟨hi, S⟩ K6 hK6
    rw [List.getD_cons_zero]
    (repeat (first | refine s_p ?_ | refine s_c (by omega) ?_ | refine S.ld ?_ | refine S.ldB ?_ | refine S.ce ?_ | refine S.ceB ?_ | refine s_q ?_ | refine s_qc (by omega) ?_ | refine n_some ?_ | rw [List.getD_cons_zero] | rw [List.getD_cons_succ]))
    refine c_b (fun hlt => ?_) (fun hge => h _ S.ext)
    have hlt : i < t.of.length := by simpa using hlt
    have S := S.go (Ext.drew _)
    obtain ⟨ba, oa, ca, rfl, hca1, hca2, hca3⟩ := ty_elem S hra hlt
    obtain ⟨bb, ob, cb, rfl, hcb1, hcb2, hcb3⟩ := ty_elem S hrb hlt
    (repeat (first | refine s_p ?_ | refine s_c (by omega) ?_ | refine S.ld ?_ | refine S.ldB ?_ | refine S.ce ?_ | refine S.ceB ?_ | refine s_q ?_ | refine s_qc (by omega) ?_ | refine n_some ?_ | rw [List.getD_cons_zero] | rw [List.getD_cons_succ]))
    refine s_ldN (n := 5) hca1 (fun j v hj => by rw [Int.toNat_natCast]; exact hca2 j v hj) ?_
    (repeat (first | refine s_p ?_ | refine s_c (by omega) ?_ | refine S.ld ?_ | refine S.ldB ?_ | refine S.ce ?_ | refine S.ceB ?_ | refine s_q ?_ | refine s_qc (by omega) ?_ | refine n_some ?_ | rw [List.getD_cons_zero] | rw [List.getD_cons_succ]))
    refine s_ldN (n := 5) hcb1 (fun j v hj => by rw [Int.toNat_natCast]; exact hcb2 j v hj) ?_
    refine ih (t.of[i]) (by have := TyD.ht_of (List.getElem_mem hlt); omega) (hfs _ (List.getElem_mem hlt)) S.holds hca3 hcb3 fun w4 e4 => ?_
    have S := S.go e4
    (repeat (first | refine s_p ?_ | refine s_c (by omega) ?_ | refine S.ld ?_ | refine S.ldB ?_ | refine S.ce ?_ | refine S.ceB ?_ | refine s_q ?_ | refine s_qc (by omega) ?_ | refine n_some ?_ | rw [List.getD_cons_zero] | rw [List.getD_cons_succ]))
    rw [show ((i : Int) + 1) = ((i + 1 : Nat) : Int) by omega]
    exact hK6 (i + 1) _ ⟨hlt, S⟩ (by omega)
/-- blocks that may turn turn, none of them one's own -/
theorem _root_.Go.Sh.StX.butX {X Y : Nat → Prop} {w0 w w' : World} {r q : Gh} {L : List Asr} (S : StX X w0 r w L) (e : ExtBut Y w w') (hq : ∀ b o, q b o → r b o ∧ ¬ Y b) (hX : ∀ b, Y b → w0.heap.size ≤ b ∨ X b)
    (hL : ∀ x ∈ L, ∀ k, x.dom k → ¬ Y k) : StX X w0 q w' L :=
  ⟨S.x.but e hX, fun b o hb => (e.block b (S.holds.lt (hq b o hb).1) (hq b o hb).2).trans (S.holds b o (hq b o hb).1),
    fun x hx => Asr.keep (S.has x hx) fun k hk => e.block k (Asr.lt (S.has x hx) hk) (hL x hx k hk), fun x hx k hk => ⟨(S.mine x hx k hk).1, fun o ho => (S.mine x hx k hk).2 o (hq k o ho).1⟩, S.apart⟩
def Gh.dom (r : Gh) (b : Nat) : Prop := ∃ o, r b o
theorem c_law06_spoil {sn : Gh} {v : Value} {t : TyD} (hch : ChnG sn v t) : ∀ {w : World} {K : Value → World → Prop}, TyG sn v t → Holds sn w →
    (∀ w', ExtBut (Gh.dom sn) w w' → K (.tuple #[]) w') → oCall Tryd.prog Tryd.n_law06_spoil #[v] w K := by
  induction hch with
  | nil =>
    intro w K ht hr h
    obtain ⟨p, cap, rfl, _, _, _⟩ := ht
    refine Tryd.ok_law06_spoil ?_
    unfold Tryd.F_law06_spoil
    have S := St.start hr
    refine S.box fun b2 w1 S => ?_
    refine l_intro (ι := Unit) (fun _ => [.int .i64 0]) (fun _ w' => w' = w1) (fun _ => 0) () rfl rfl ?_
    rintro ⟨⟩ d w5 rfl K6 hK6
    rw [List.getD_cons_zero]
    (repeat (first | refine s_p ?_ | refine s_c (by omega) ?_ | refine S.ld ?_ | refine S.ldB ?_ | refine S.ce ?_ | refine S.ceB ?_ | refine s_q ?_ | refine s_qc (by omega) ?_ | refine n_some ?_ | rw [List.getD_cons_zero] | rw [List.getD_cons_succ]))
    refine c_f rfl ?_
    exact h _ (.of_ext S.ext)
  | @one sn b c k re st m u no hc hty _ ih =>
    intro w K ht hr h
    refine Tryd.ok_law06_spoil ?_
    unfold Tryd.F_law06_spoil
    have B : Blk w b c 25 := hr b _ (.inr ⟨rfl, rfl⟩)
    have S : StX (Gh.dom (sn.or (one b c 25))) w sn w [.cell b c 25] :=
      ⟨.refl _ _, fun b o hb => hr b o (.inl hb), fun x hx => by rw [List.mem_singleton.1 hx]; exact B, fun x hx k hk => by
        rw [List.mem_singleton.1 hx] at hk
        obtain rfl : k = b := hk
        exact ⟨.inr ⟨_, .inr ⟨rfl, rfl⟩⟩, no⟩, List.pairwise_singleton _ _⟩
    refine S.box fun b1 w1 S => ?_
    refine l_intro (ι := Bool × Gh × List Value) (fun i => [.int .i64 (if i.1 then 1 else 0)]) (fun i w' => (i.1 = false → i.2.1 = sn ∧ i.2.2 = c) ∧ StX (Gh.dom (sn.or (one b c 25))) w i.2.1 w' [.cell b1 (Value.agg #[.int .u8 k, .bool m, .int .i64 re, .int .i64 st, .slice (some ⟨b, 0, none⟩) 1 1]).cells.toList 25, .cell b i.2.2 25])
      (fun i => if i.1 then 0 else 1) (false, sn, c) rfl ⟨fun _ => ⟨rfl, rfl⟩, S⟩ ?_
    clear S
    rintro ⟨i, q, c'⟩ d w5 ⟨hi, S⟩ K6 hK6
    simp only at hi S ⊢
    rw [List.getD_cons_zero]
    cases i with
    | true =>
      (repeat (first | refine s_p ?_ | refine s_c (by omega) ?_ | refine S.ld ?_ | refine S.ldB ?_ | refine S.ce ?_ | refine S.ceB ?_ | refine s_q ?_ | refine s_qc (by omega) ?_ | refine n_some ?_ | rw [List.getD_cons_zero] | rw [List.getD_cons_succ]))
      refine c_f (by simp) ?_
      exact h _ S.x
    | false =>
      obtain ⟨rfl, rfl⟩ := hi rfl
      rw [show (if false = true then (1 : Int) else 0) = 0 from rfl]
      (repeat (first | refine s_p ?_ | refine s_c (by omega) ?_ | refine S.ld ?_ | refine S.ldB ?_ | refine S.ce ?_ | refine S.ceB ?_ | refine s_q ?_ | refine s_qc (by omega) ?_ | refine n_some ?_ | rw [List.getD_cons_zero] | rw [List.getD_cons_succ]))
      refine S.ldB (b := b) ?_ hc
      refine ih hty S.holds fun w6 e6 => ?_
      have S := S.butX (q := nothing) e6 (fun _ _ h => h.elim) (fun k hk => .inr (by obtain ⟨o, ho⟩ := hk; exact ⟨o, .inl ho⟩)) (fun x hx k hk hy => by obtain ⟨o, ho⟩ := hy; exact (S.mine x hx k hk).2 o ho)
      (repeat (first | refine s_p ?_ | refine s_c (by omega) ?_ | refine S.ld ?_ | refine S.ldB ?_ | refine S.ce ?_ | refine S.ceB ?_ | refine s_q ?_ | refine s_qc (by omega) ?_ | refine n_some ?_ | rw [List.getD_cons_zero] | rw [List.getD_cons_succ]))
      refine S.stB (b := b) (hl := hc) fun w7 S => ?_
      (repeat (first | refine s_p ?_ | refine s_c (by omega) ?_ | refine S.ld ?_ | refine S.ldB ?_ | refine S.ce ?_ | refine S.ceB ?_ | refine s_q ?_ | refine s_qc (by omega) ?_ | refine n_some ?_ | rw [List.getD_cons_zero] | rw [List.getD_cons_succ]))
      exact hK6 (true, nothing, [.int .u8 9, .bool false, .int .i64 0, .int .i64 0, .slice none 0 0]) _ ⟨(fun h => by cases h), S⟩ (by simp)
end Go.Proofs
end

section
namespace Go.Proofs
open Go.Sh
set_option maxRecDepth 100000
set_option linter.unusedSimpArgs false
set_option linter.unusedVariables false
/-- a type whose nodes below the topmost one are one's own cells -/
inductive ChnL : List Value → TyD → List Asr → Prop
  | nil {k re st : Int} {m : Bool} : ChnL [.int .u8 k, .bool m, .int .i64 re, .int .i64 st, .slice none 0 0] (.mk k m re st []) []
  | one {b : Nat} {c : List Value} {k re st : Int} {m : Bool} {u : TyD} {L : List Asr} (h : ChnL c u L) :
    ChnL [.int .u8 k, .bool m, .int .i64 re, .int .i64 st, .slice (some ⟨b, 0, none⟩) 1 1] (.mk k m re st [u]) (.cell b c 25 :: L)
theorem ChnL.len {c : List Value} {t : TyD} {L : List Asr} (h : ChnL c t L) : c.length = 5 := by cases h <;> rfl
theorem ChnL.ones {c : List Value} {t : TyD} {L : List Asr} (h : ChnL c t L) : ∀ u ∈ c, u.oneCell' = true := by
  cases h <;> simp [Value.oneCell']
/-- they are told as data that stays -/
theorem ChnL.frz {X : Nat → Prop} {w0 w : World} {c : List Value} {t : TyD} {N : List Asr} (h : ChnL c t N) : ∀ {r : Gh} {L : List Asr}, StX X w0 r w (N ++ L) →
    ∃ sn, StX X w0 (r.or sn) w L ∧ TyG sn (.agg c.toArray) t ∧ ChnG sn (.agg c.toArray) t ∧ (∀ b o, sn b o → w0.heap.size ≤ b ∨ X b) := by
  induction h with
  | nil =>
    intro r L S
    exact ⟨nothing, S.to _, ty_leaf, .nil, fun _ _ h => h.elim⟩
  | @one b c k re st m u N hu ih =>
    intro r L S
    have S : StX X w0 r w (N ++ (.cell b c 25 :: L)) := S.perm List.perm_middle.symm
    obtain ⟨sn, S, ht, hg, hf⟩ := ih S
    have hm := S.mine (.cell b c 25) (by simp) b rfl
    have S := S.frz
    refine ⟨sn.or (Go.Sh.one b c 25), S.to _, ty_one ht, .one (fun o ho => hm.2 o (.inr ho)) hu.len ht hg, fun b' o ho => ?_⟩
    rcases ho with ho | ⟨rfl, _⟩
    · exact hf b' o ho
    · exact hm.1
section
variable {X : Nat → Prop} {w0 w : World} {r : Gh} {L : List Asr}
theorem c_types_own {s : Int} : ∀ (n : Nat) {t : TyD} {w : World} {r : Gh} {L : List Asr} {v : Value} {K : Value → World → Prop}, n ≤ 1000 → lookB s n t = true → StX X w0 r w L → TyG r v t →
    (∀ c N w', ChnL c t N → StX X w0 r w' (N ++ L) → K (.agg c.toArray) w') → oCall Tryd.prog Tryd.n_types_own #[v] w K := by
  intro n
  induction n with
  | zero => intro t w r L v K _ h; cases h
  | succ n ih =>
    intro t w r L v K hn hl S hv h
    refine Tryd.ok_types_own ?_
    unfold Tryd.F_types_own
    obtain ⟨p, cap, rfl, _, _, hof⟩ := hv
    refine S.box fun b1 w1 S => ?_
    have S : StX X w0 r w1 (.cell b1 [.int .u8 t.k, .bool t.m, .int .i64 t.re, .int .i64 t.st, .slice p t.of.length cap] 25 :: L) := S
    refine S.al fun b2 w2 S => ?_
    refine j_intro (fun _ w' => ∃ q m N, ChnL [.int .u8 t.k, .bool t.m, .int .i64 t.re, .int .i64 t.st, .slice q m m] t N ∧ StX X w0 r w' (N ++ (.cell b2 [.int .u8 0, .bool false, .int .i64 0, .int .i64 0, .slice none 0 0] 25 :: .cell b1 [.int .u8 t.k, .bool t.m, .int .i64 t.re, .int .i64 t.st, .slice q m m] 25 :: L))) (fun K2 hK2 => ?_) ?_
    · have he : t = .mk t.k t.m t.re t.st t.of := by cases t; rfl
      (repeat (first | refine s_p ?_ | refine s_c (by omega) ?_ | refine S.ld ?_ | refine S.ldB ?_ | refine S.ce ?_ | refine S.ceB ?_ | refine s_q ?_ | refine s_qc (by omega) ?_ | refine n_some ?_ | rw [List.getD_cons_zero] | rw [List.getD_cons_succ]))
      rcases look_cases hl with ⟨ho, _⟩ | ⟨u, ho, hu, _⟩
      · refine c_f (by rw [ho]; rfl) ?_
        (repeat (first | refine s_p ?_ | refine s_c (by omega) ?_ | refine S.ld ?_ | refine S.ldB ?_ | refine S.ce ?_ | refine S.ceB ?_ | refine s_q ?_ | refine s_qc (by omega) ?_ | refine n_some ?_ | rw [List.getD_cons_zero] | rw [List.getD_cons_succ]))
        refine S.st fun w3 S => ?_
        refine hK2 [] _ ⟨none, 0, [], ?_, S⟩
        have : ChnL [.int .u8 t.k, .bool t.m, .int .i64 t.re, .int .i64 t.st, .slice none 0 0] (.mk t.k t.m t.re t.st []) [] := .nil
        rw [ho] at he
        rw [← he] at this
        exact this
      · have hlen : t.of.length = 1 := by rw [ho]; rfl
        obtain ⟨ba, oa, rfl, c, hc, hcell, ht⟩ := NdG.of hof (i := 0) (by omega)
        have ht : TyG r (.agg c.toArray) u := by simpa [ho] using ht
        refine c_t (by rw [hlen]; rfl) ?_
        (repeat (first | refine s_p ?_ | refine s_c (by omega) ?_ | refine S.ld ?_ | refine S.ldB ?_ | refine S.ce ?_ | refine S.ceB ?_ | refine s_q ?_ | refine s_qc (by omega) ?_ | refine n_some ?_ | rw [List.getD_cons_zero] | rw [List.getD_cons_succ]))
        refine s_ldN (n := 5) hc (fun j v hj => by simpa using S.at (hcell j v hj)) ?_
        refine ih (by omega) hu S ht fun c' N w3 hch S => ?_
        refine S.lit (e := 25) (cs := c') (by
          cases hch <;> kernel_rfl) fun b9 w4 S => ?_
        have S : StX X w0 r w4 (.cell b1 [.int .u8 t.k, .bool t.m, .int .i64 t.re, .int .i64 t.st, .slice (some ⟨ba, oa, none⟩) t.of.length cap] 25 :: (.cell b9 c' 25 :: N ++ (.cell b2 [.int .u8 0, .bool false, .int .i64 0, .int .i64 0, .slice none 0 0] 25 :: L))) := S.perm (by
          refine (List.Perm.cons _ ?_).trans (.swap _ _ _)
          refine (List.perm_append_comm_assoc N [_] _).trans ?_
          refine (List.Perm.append_left [_] ((List.perm_append_comm_assoc N [_] _))).trans ?_
          refine (List.Perm.swap _ _ _).trans ?_
          refine List.Perm.cons _ ?_
          exact (List.perm_append_comm_assoc [_] N L))
        (repeat (first | refine s_p ?_ | refine s_c (by omega) ?_ | refine S.ld ?_ | refine S.ldB ?_ | refine S.ce ?_ | refine S.ceB ?_ | refine s_q ?_ | refine s_qc (by omega) ?_ | refine n_some ?_ | rw [List.getD_cons_zero] | rw [List.getD_cons_succ]))
        refine S.st fun w5 S => ?_
        have hch' : ChnL [.int .u8 t.k, .bool t.m, .int .i64 t.re, .int .i64 t.st, .slice (some ⟨b9, 0, none⟩) 1 1] (.mk t.k t.m t.re t.st [u]) (.cell b9 c' 25 :: N) := .one hch
        rw [ho] at he
        rw [← he] at hch'
        refine hK2 [] _ ⟨_, _, _, hch', S.perm ?_⟩
        have := List.perm_middle (a := Asr.cell b1 [.int .u8 t.k, .bool t.m, .int .i64 t.re, .int .i64 t.st, .slice (some ⟨b9, 0, none⟩) 1 1] 25) (l₁ := .cell b9 c' 25 :: N ++ [.cell b2 [.int .u8 0, .bool false, .int .i64 0, .int .i64 0, .slice none 0 0] 25]) (l₂ := L)
        simpa using this.symm
    rintro _ w6 ⟨q, m, N, hch, S⟩ d6
    have S : StX X w0 r w6 (.cell b2 [.int .u8 0, .bool false, .int .i64 0, .int .i64 0, .slice none 0 0] 25 :: .cell b1 [.int .u8 t.k, .bool t.m, .int .i64 t.re, .int .i64 t.st, .slice q m m] 25 :: (N ++ L)) := S.perm (by
      refine (List.perm_append_comm_assoc N [_] _).trans ?_
      exact List.Perm.cons _ (List.perm_append_comm_assoc N [_] _))
    (repeat (first | refine s_p ?_ | refine s_c (by omega) ?_ | refine S.ld ?_ | refine S.ldB ?_ | refine S.ce ?_ | refine S.ceB ?_ | refine s_q ?_ | refine s_qc (by omega) ?_ | refine n_some ?_ | rw [List.getD_cons_zero] | rw [List.getD_cons_succ]))
    refine S.stB fun w7 S => ?_
    (repeat (first | refine s_p ?_ | refine s_c (by omega) ?_ | refine S.ld ?_ | refine S.ldB ?_ | refine S.ce ?_ | refine S.ceB ?_ | refine s_q ?_ | refine s_qc (by omega) ?_ | refine n_some ?_ | rw [List.getD_cons_zero] | rw [List.getD_cons_succ]))
    exact h _ N _ hch S.tl.tl
theorem c_types_Own {t : TyD} {w : World} {r : Gh} {v : Value} {K : Value → World → Prop} (hr : Holds r w) (hv : TyG r v t)
    (h : ∀ v' sn w', Ext w w' → New w sn w' → TyG sn v' (if isB t then t else zeroD) → ChnG sn v' (if isB t then t else zeroD) → K (.tuple #[v', .int .i64 (if isB t then 0 else 2)]) w') : oCall Tryd.prog Tryd.n_types_Own #[v] w K := by
  refine Tryd.ok_types_Own ?_
  unfold Tryd.F_types_Own
  have hv0 := hv
  obtain ⟨p, cap, rfl, _⟩ := hv
  have S := St.start hr
  refine S.box fun b1 w1 S => ?_
  refine S.al fun b2 w2 S => ?_
  (repeat (first | refine s_p ?_ | refine s_c (by omega) ?_ | refine S.ld ?_ | refine S.ldB ?_ | refine S.ce ?_ | refine S.ceB ?_ | refine s_q ?_ | refine s_qc (by omega) ?_ | refine n_some ?_ | rw [List.getD_cons_zero] | rw [List.getD_cons_succ]))
  refine c_types_may S.holds hv0 fun w3 e3 => ?_
  have S := S.go e3
  (repeat (first | refine s_p ?_ | refine s_c (by omega) ?_ | refine S.ld ?_ | refine S.ldB ?_ | refine S.ce ?_ | refine S.ceB ?_ | refine s_q ?_ | refine s_qc (by omega) ?_ | refine n_some ?_ | rw [List.getD_cons_zero] | rw [List.getD_cons_succ]))
  refine c_b (fun hn => ?_) (fun hn => ?_)
  · have hn : isB t = false := by simpa using hn
    rw [hn] at h
    refine p_build (cs := #[.int .u8 0, .bool false, .int .i64 0, .int .i64 0, .slice none 0 0]) (by kernel_rfl) ?_
    refine S.stB fun w4 S => ?_
    (repeat (first | refine s_p ?_ | refine s_c (by omega) ?_ | refine S.ld ?_ | refine S.ldB ?_ | refine S.ce ?_ | refine S.ceB ?_ | refine s_q ?_ | refine s_qc (by omega) ?_ | refine n_some ?_ | rw [List.getD_cons_zero] | rw [List.getD_cons_succ]))
    exact h _ nothing _ S.ext New.nothing ty_leaf .nil
  · have hn : isB t = true := by simpa using hn
    rw [hn] at h
    (repeat (first | refine s_p ?_ | refine s_c (by omega) ?_ | refine S.ld ?_ | refine S.ldB ?_ | refine S.ce ?_ | refine S.ceB ?_ | refine s_q ?_ | refine s_qc (by omega) ?_ | refine n_some ?_ | rw [List.getD_cons_zero] | rw [List.getD_cons_succ]))
    refine c_types_own 48 (by decide) hn S hv0 fun c N w4 hch S => ?_
    obtain ⟨sn, S, ht, hg, hf⟩ := hch.frz S
    have hl := hch.len
    have hone := hch.ones
    refine S.stB (cs := c.toArray) (fun w5 S => ?_) rfl (by simpa using hl) (by simpa using hone)
    refine S.ceB ?_ hl
    exact h _ sn _ S.ext ⟨S.holds.le (h := inferInstance), fun b o hb => (hf b o hb).elim id fun h => h.elim⟩ ht hg
end
end Go.Proofs
end

section
namespace Go.Proofs
open Go.Sh
set_option maxRecDepth 100000
set_option linter.unusedSimpArgs false
set_option linter.unusedVariables false
mutual
/-- a type with regions, in order -/
def TyD.lay : List Int → TyD → TyD
  | l, .mk k m re st of => .mk k m (if k = 4 then l.headD 0 else re) st (TyD.lays (if k = 4 then l.tail else l) of)
def TyD.lays : List Int → List TyD → List TyD
  | _, [] => []
  | l, t :: r => TyD.lay l t :: TyD.lays l r
end
theorem chn_cases {c : List Value} {t : TyD} {N : List Asr} (h : ChnL c t N) :
    (t.of = [] ∧ N = [] ∧ c = [.int .u8 t.k, .bool t.m, .int .i64 t.re, .int .i64 t.st, .slice none 0 0]) ∨
    ∃ b cu u N', t.of = [u] ∧ N = .cell b cu 25 :: N' ∧ c = [.int .u8 t.k, .bool t.m, .int .i64 t.re, .int .i64 t.st, .slice (some ⟨b, 0, none⟩) 1 1] ∧ ChnL cu u N' := by
  cases h with
  | nil => exact .inl ⟨rfl, rfl, rfl⟩
  | one h => exact .inr ⟨_, _, _, _, rfl, rfl, rfl, h⟩
theorem lay_nil {t : TyD} {l : List Int} (h : t.of = []) : t.lay l = .mk t.k t.m (if t.k = 4 then l.headD 0 else t.re) t.st [] := by
  cases t with | mk k m re st of => cases h; rfl
theorem lay_one {t u : TyD} {l : List Int} (h : t.of = [u]) : t.lay l = .mk t.k t.m (if t.k = 4 then l.headD 0 else t.re) t.st [u.lay (if t.k = 4 then l.tail else l)] := by
  cases t with | mk k m re st of => cases h; rfl
theorem regs_nil {t : TyD} (h : t.of = []) : t.regs = if t.k = 4 then [t.re] else [] := by
  rw [TyD.regs_eq, h]; simp [TyD.chains, TyD.regsL]
theorem regs_one {t u : TyD} (h : t.of = [u]) : t.regs = (if t.k = 4 then [t.re] else []) ++ u.regs := by
  rw [TyD.regs_eq, h]; rfl
theorem perm_in {α : Type} (a b : α) (C D M : List α) : (a :: (C ++ ((b :: D) ++ M))).Perm (b :: (C ++ (D ++ (a :: M)))) := by
  have h1 : (C ++ ((b :: D) ++ M)).Perm (b :: (C ++ (D ++ M))) := List.perm_middle
  have h2 : (a :: (C ++ (D ++ M))).Perm (C ++ (D ++ (a :: M))) := by
    rw [← List.append_assoc, ← List.append_assoc]; exact List.perm_middle.symm
  exact ((h1.cons a).trans (.swap _ _ _)).trans (h2.cons b)
theorem c_types_walk {s : Int} {fv : Value} {l : List Int} {Lc : Nat → List Asr} {X : Nat → Prop} {w0 : World} {r : Gh}
    (hf : ∀ (i : Nat) (hi : i < l.length) {b : Nat} {k re st : Int} {m : Bool} {v : Value} {M : List Asr} {w : World} {K : Value → World → Prop}, StX X w0 r w (.cell b [.int .u8 k, .bool m, .int .i64 re, .int .i64 st, v] 25 :: (Lc i ++ M)) →
      (∀ w', StX X w0 r w' (.cell b [.int .u8 k, .bool m, .int .i64 l[i], .int .i64 st, v] 25 :: (Lc (i + 1) ++ M)) → K (.tuple #[]) w') → oCallV Tryd.prog fv #[.pointer (some ⟨b, 0, none⟩)] w K) :
    ∀ (n : Nat) {t : TyD} {c : List Value} {N : List Asr} {b i : Nat} {M : List Asr} {w : World} {K : Value → World → Prop}, lookB s n t = true → ChnL c t N → i + t.regs.length ≤ l.length →
      StX X w0 r w (.cell b c 25 :: (Lc i ++ (N ++ M))) →
      (∀ c' N' w', ChnL c' (t.lay (l.drop i)) N' → StX X w0 r w' (.cell b c' 25 :: (Lc (i + t.regs.length) ++ (N' ++ M))) → K (.tuple #[]) w') →
      oCall Tryd.prog Tryd.n_types_walk #[.pointer (some ⟨b, 0, none⟩), fv] w K := by
  intro n
  induction n with
  | zero => intro t c N b i M w K h; cases h
  | succ n ih =>
    intro t c N b i M w K hl hch hi S h
    refine Tryd.ok_types_walk ?_
    unfold Tryd.F_types_walk
    obtain ⟨q, len, hce⟩ : ∃ q len, c = [.int .u8 t.k, .bool t.m, .int .i64 t.re, .int .i64 t.st, .slice q len len] := by
      rcases chn_cases hch with ⟨_, _, hc⟩ | ⟨_, _, _, _, _, _, hc, _⟩
      · exact ⟨_, _, hc⟩
      · exact ⟨_, _, hc⟩
    subst hce
    have hhead : ∀ j, i = j → j < l.length → (l.drop i).headD 0 = l.getD j 0 := by
      intro j hj hlt
      subst hj
      rw [List.drop_eq_getElem_cons hlt, List.headD_cons, List.getD_eq_getElem?_getD, List.getElem?_eq_getElem hlt]; rfl
    refine j_intro (fun _ w' => StX X w0 r w' (.cell b [.int .u8 t.k, .bool t.m, .int .i64 (if t.k = 4 then (l.drop i).headD 0 else t.re), .int .i64 t.st, .slice q len len] 25 :: (Lc (if t.k = 4 then i + 1 else i) ++ (N ++ M)))) (fun K2 hK2 => ?_) ?_
    · (repeat (first | refine s_p ?_ | refine s_c (by omega) ?_ | refine S.ld ?_ | refine S.ldB ?_ | refine S.ce ?_ | refine S.ceB ?_ | refine s_q ?_ | refine s_qc (by omega) ?_ | refine n_some ?_ | rw [List.getD_cons_zero] | rw [List.getD_cons_succ]))
      refine c_if (fun h4 => ?_) (fun h4 => ?_)
      · have h4 : t.k = 4 := by omega
        have hlt : i < l.length := by
          have : 0 < t.regs.length := by
            rw [TyD.regs_eq, if_pos h4]; simp
          omega
        refine hf i hlt S fun w1 S => ?_
        refine hK2 [] _ ?_
        rw [if_pos h4, if_pos h4, hhead i rfl hlt, List.getD_eq_getElem?_getD, List.getElem?_eq_getElem hlt]
        exact S
      · have h4 : ¬ t.k = 4 := by omega
        refine hK2 [] _ ?_
        rw [if_neg h4, if_neg h4]
        exact S
    clear S
    rintro _ w1 S d1
    (repeat (first | refine s_p ?_ | refine s_c (by omega) ?_ | refine S.ld ?_ | refine S.ldB ?_ | refine S.ce ?_ | refine S.ceB ?_ | refine s_q ?_ | refine s_qc (by omega) ?_ | refine n_some ?_ | rw [List.getD_cons_zero] | rw [List.getD_cons_succ]))
    rcases chn_cases hch with ⟨ho, rfl, hc⟩ | ⟨b', cu, u, N', ho, rfl, hc, hu⟩
    · injection hc with _ hc; injection hc with _ hc; injection hc with _ hc; injection hc with _ hc; injection hc with hc _
      cases hc
      (repeat (first | refine s_p ?_ | refine s_c (by omega) ?_ | refine S.ld ?_ | refine S.ldB ?_ | refine S.ce ?_ | refine S.ceB ?_ | refine s_q ?_ | refine s_qc (by omega) ?_ | refine n_some ?_ | rw [List.getD_cons_zero] | rw [List.getD_cons_succ]))
      have e1 : i + t.regs.length = if t.k = 4 then i + 1 else i := by
        rw [regs_nil ho]; split <;> rfl
      refine h _ [] w1 ?_ (by rw [e1]; exact S)
      rw [lay_nil ho]
      exact .nil
    · injection hc with _ hc; injection hc with _ hc; injection hc with _ hc; injection hc with _ hc; injection hc with hc _
      cases hc
      (repeat (first | refine s_p ?_ | refine s_c (by omega) ?_ | refine S.ld ?_ | refine S.ldB ?_ | refine S.ce ?_ | refine S.ceB ?_ | refine s_q ?_ | refine s_qc (by omega) ?_ | refine n_some ?_ | rw [List.getD_cons_zero] | rw [List.getD_cons_succ]))
      have hlu : lookB s n u = true := by
        rcases look_cases hl with ⟨hx, _⟩ | ⟨y, hy, hly, _⟩
        · rw [ho] at hx; cases hx
        · rw [ho] at hy; cases hy; exact hly
      have hreg := congrArg List.length (regs_one ho)
      rw [List.length_append] at hreg
      have hk4 : (if t.k = 4 then [t.re] else ([] : List Int)).length = if t.k = 4 then 1 else 0 := by split <;> rfl
      rw [hk4] at hreg
      have e1 : i + t.regs.length = (if t.k = 4 then i + 1 else i) + u.regs.length := by
        rw [hreg]; split <;> omega
      have e2 : l.drop (if t.k = 4 then i + 1 else i) = if t.k = 4 then (l.drop i).tail else l.drop i := by
        split
        · rw [List.tail_drop]
        · rfl
      have S' : StX X w0 r w1 (.cell b' cu 25 :: (Lc (if t.k = 4 then i + 1 else i) ++ (N' ++ (.cell b [.int .u8 t.k, .bool t.m, .int .i64 (if t.k = 4 then (l.drop i).headD 0 else t.re), .int .i64 t.st, .slice (some ⟨b', 0, none⟩) 1 1] 25 :: M)))) := S.perm (perm_in _ _ _ _ _)
      refine c_t (by simp) ?_
      (repeat (first | refine s_p ?_ | refine s_c (by omega) ?_ | refine S.ld ?_ | refine S.ldB ?_ | refine S.ce ?_ | refine S.ceB ?_ | refine s_q ?_ | refine s_qc (by omega) ?_ | refine n_some ?_ | rw [List.getD_cons_zero] | rw [List.getD_cons_succ]))
      refine ih (i := if t.k = 4 then i + 1 else i) hlu hu (by omega) S' fun c' N'' w2 hch' S => ?_
      rw [e2] at hch'
      have hone := ChnL.one (b := b') (k := t.k) (re := if t.k = 4 then (l.drop i).headD 0 else t.re) (st := t.st) (m := t.m) hch'
      rw [← lay_one ho] at hone
      refine h _ _ w2 hone ?_
      rw [e1]
      exact S.perm (perm_in _ _ _ _ _).symm
/-- numbers one behind the other -/
def upTo (f : Int) (n : Nat) : List Int := (List.range n).map fun i => f + (i : Nat)
theorem upTo_len {f : Int} {n : Nat} : (upTo f n).length = n := by rw [upTo, List.length_map, List.length_range]
theorem upTo_at {f : Int} {n i : Nat} (h : i < (upTo f n).length) : (upTo f n)[i] = f + (i : Nat) := by simp [upTo]
def numB (t : TyD) (f : Int) : Bool := isB t && (decide (0 ≤ f) && decide (f ≤ 512))
def numT (t : TyD) (f : Int) : TyD × Int × Int := if numB t f then (t.lay (upTo f t.regs.length), f + t.regs.length, 0) else (zeroD, 0, 2)
theorem regs_le48 {t : TyD} (h : isB t = true) : t.regs.length ≤ 48 := by
  have h1 := chain_len 48 (look_ht h)
  rw [TyD.regs, TyD.regsL, List.length_map]
  exact Nat.le_trans (List.length_filter_le _ _) h1
theorem c_types_Number {t : TyD} {f : Int} {w : World} {r : Gh} {v : Value} {K : Value → World → Prop} (hr : Holds r w) (hv : TyG r v t)
    (h : ∀ v' sn w', Ext w w' → New w sn w' → TyG sn v' (numT t f).1 → ChnG sn v' (numT t f).1 → K (.tuple #[v', .int .i64 (numT t f).2.1, .int .i64 (numT t f).2.2]) w') : oCall Tryd.prog Tryd.n_types_Number #[v, .int .i64 f] w K := by
  refine Tryd.ok_types_Number ?_
  unfold Tryd.F_types_Number
  have hv0 := hv
  obtain ⟨p, cap, rfl, _⟩ := hv
  have S := St.start hr
  refine S.box fun b2 w1 S => ?_
  refine S.box fun b3 w2 S => ?_
  refine S.al fun b4 w3 S => ?_
  (repeat (first | refine s_p ?_ | refine s_c (by omega) ?_ | refine S.ld ?_ | refine S.ldB ?_ | refine S.ce ?_ | refine S.ceB ?_ | refine s_q ?_ | refine s_qc (by omega) ?_ | refine n_some ?_ | rw [List.getD_cons_zero] | rw [List.getD_cons_succ]))
  refine c_types_may S.holds hv0 fun w4 e4 => ?_
  have S := S.go e4
  (repeat (first | refine s_p ?_ | refine s_c (by omega) ?_ | refine S.ld ?_ | refine S.ldB ?_ | refine S.ce ?_ | refine S.ceB ?_ | refine s_q ?_ | refine s_qc (by omega) ?_ | refine n_some ?_ | rw [List.getD_cons_zero] | rw [List.getD_cons_succ]))
  refine j_borH (c := decide (f < 0)) (fun _ K2 hK2 => ?_) ?_
  · (repeat (first | refine s_p ?_ | refine s_c (by omega) ?_ | refine S.ld ?_ | refine S.ldB ?_ | refine S.ce ?_ | refine S.ceB ?_ | refine s_q ?_ | refine s_qc (by omega) ?_ | refine n_some ?_ | rw [List.getD_cons_zero] | rw [List.getD_cons_succ]))
    exact hK2
  refine j_borH (c := decide (512 < f)) (fun _ K2 hK2 => ?_) ?_
  · (repeat (first | refine s_p ?_ | refine s_c (by omega) ?_ | refine S.ld ?_ | refine S.ldB ?_ | refine S.ce ?_ | refine S.ceB ?_ | refine s_q ?_ | refine s_qc (by omega) ?_ | refine n_some ?_ | rw [List.getD_cons_zero] | rw [List.getD_cons_succ]))
    exact hK2
  have hnb : ((!isB t || decide (f < 0)) || decide (512 < f)) = !numB t f := by
    rw [numB]
    cases isB t
    · simp
    · simp only [Bool.not_true, Bool.false_or, Bool.true_and, Bool.not_and, ← decide_not]
      congr 1 <;> exact decide_eq_decide.2 (by omega)
  rw [hnb]
  refine c_b (fun hn => ?_) (fun hn => ?_)
  · have hn : numB t f = false := by simpa using hn
    have hT : numT t f = (zeroD, 0, 2) := by rw [numT, hn]; rfl
    rw [hT] at h
    refine p_build (cs := #[.int .u8 0, .bool false, .int .i64 0, .int .i64 0, .slice none 0 0]) (by kernel_rfl) ?_
    refine S.stB fun w5 S => ?_
    (repeat (first | refine s_p ?_ | refine s_c (by omega) ?_ | refine S.ld ?_ | refine S.ldB ?_ | refine S.ce ?_ | refine S.ceB ?_ | refine s_q ?_ | refine s_qc (by omega) ?_ | refine n_some ?_ | rw [List.getD_cons_zero] | rw [List.getD_cons_succ]))
    exact h _ nothing _ S.ext New.nothing ty_leaf .nil
  · have hn : numB t f = true := by simpa using hn
    have hT : numT t f = (t.lay (upTo f t.regs.length), f + t.regs.length, 0) := by rw [numT, if_pos hn]
    rw [hT] at h
    rw [numB, Bool.and_eq_true, Bool.and_eq_true, decide_eq_true_eq, decide_eq_true_eq] at hn
    obtain ⟨hB, hf0, hf1⟩ := hn
    have hrl := regs_le48 hB
    (repeat (first | refine s_p ?_ | refine s_c (by omega) ?_ | refine S.ld ?_ | refine S.ldB ?_ | refine S.ce ?_ | refine S.ceB ?_ | refine s_q ?_ | refine s_qc (by omega) ?_ | refine n_some ?_ | rw [List.getD_cons_zero] | rw [List.getD_cons_succ]))
    refine c_types_own 48 (by decide) hB S hv0 fun c N w5 hch S => ?_
    have S : StX noX w r w5 (.cell b2 [.int .u8 t.k, .bool t.m, .int .i64 t.re, .int .i64 t.st, .slice p t.of.length cap] 25 :: ([.cell b3 [.int .i64 f] 3] ++ (N ++ [.cell b4 [.int .u8 0, .bool false, .int .i64 0, .int .i64 0, .slice none 0 0] 25]))) := S.perm (by
      refine (List.Perm.append_left N (List.Perm.swap _ _ _ |>.trans (List.Perm.cons _ (List.Perm.swap _ _ _)))).trans ?_
      refine (List.Perm.append_left N (List.Perm.swap _ _ _)).trans ?_
      refine List.perm_middle.trans (List.Perm.cons _ ?_)
      refine List.perm_middle.trans ?_
      exact List.Perm.refl _)
    have hl := hch.len
    have hone := hch.ones
    refine S.stB (b := b2) (cs := c.toArray) (fun w6 S => ?_) rfl (by simpa using hl) (by simpa using hone)
    (first | refine s_p ?_ | refine s_c (by omega) ?_)
    refine c_types_walk (s := 32) (l := upTo f t.regs.length) (Lc := fun i => [.cell b3 [.int .i64 (f + (i : Nat))] 3]) ?_ 48 (i := 0) hB hch (by rw [upTo_len]; omega) (M := [.cell b4 [.int .u8 0, .bool false, .int .i64 0, .int .i64 0, .slice none 0 0] 25]) (by simpa using S) fun c' N' w7 hch' S => ?_
    · intro i hi b k re st m v M w K S h
      refine v_func (by kernel_rfl) ?_
      refine Tryd.ok_types_Number_1 (t0 := .pointer (some ⟨b, 0, none⟩)) (t1 := .pointer (some ⟨b3, 0, none⟩)) ?_
      unfold Tryd.F_types_Number_1
      rw [upTo_len] at hi
      have S : StX noX _ r _ (.cell b [.int .u8 k, .bool m, .int .i64 re, .int .i64 st, v] 25 :: .cell b3 [.int .i64 (f + (i : Nat))] 3 :: M) := S
      (repeat (first | refine s_p ?_ | refine s_c (by omega) ?_ | refine S.ld ?_ | refine S.ldB ?_ | refine S.ce ?_ | refine S.ceB ?_ | refine s_q ?_ | refine s_qc (by omega) ?_ | refine n_some ?_ | rw [List.getD_cons_zero] | rw [List.getD_cons_succ]))
      refine S.st fun w1 S => ?_
      (repeat (first | refine s_p ?_ | refine s_c (by omega) ?_ | refine S.ld ?_ | refine S.ldB ?_ | refine S.ce ?_ | refine S.ceB ?_ | refine s_q ?_ | refine s_qc (by omega) ?_ | refine n_some ?_ | rw [List.getD_cons_zero] | rw [List.getD_cons_succ]))
      refine S.st fun w2 S => ?_
      refine h _ ?_
      rw [upTo_at]
      rw [show f + (i : Nat) + 1 = f + ((i + 1 : Nat) : Int) by omega] at S
      exact S
    rw [List.drop_zero] at hch'
    rw [Nat.zero_add] at S
    have S : StX noX w r w7 (.cell b2 c' 25 :: .cell b3 [.int .i64 (f + (t.regs.length : Nat))] 3 :: .cell b4 [.int .u8 0, .bool false, .int .i64 0, .int .i64 0, .slice none 0 0] 25 :: N') := S.perm (by
      refine List.Perm.cons _ (List.Perm.cons _ ?_)
      show (N' ++ [_]).Perm ([_] ++ N')
      exact List.perm_append_comm)
    have hl' := hch'.len
    have hone' := hch'.ones
    have S := S.go (Ext.drew _)
    refine S.ldB (b := b2) ?_ hl'
    have fin : ∀ {w8 : World}, StX noX w r w8 (.cell b2 c' 25 :: .cell b3 [.int .i64 (f + (t.regs.length : Nat))] 3 :: .cell b4 c' 25 :: N') → K (.tuple #[.agg c'.toArray, .int .i64 (f + (t.regs.length : Nat)), .int .i64 0]) w8 := by
      intro w8 S
      have S : StX noX w r w8 (N' ++ []) := by rw [List.append_nil]; exact S.tl.tl.tl
      obtain ⟨sn, S, ht, hg, hf⟩ := hch'.frz S
      exact h _ sn _ S.ext ⟨S.holds.le (h := inferInstance), fun b o hb => (hf b o hb).elim id fun h => h.elim⟩ ht hg
    refine ⟨?_, ?_⟩
    · refine w_qE ?_
      (repeat (first | refine s_p ?_ | refine s_c (by omega) ?_ | refine S.ld ?_ | refine S.ldB ?_ | refine S.ce ?_ | refine S.ceB ?_ | refine s_q ?_ | refine s_qc (by omega) ?_ | refine n_some ?_ | rw [List.getD_cons_zero] | rw [List.getD_cons_succ]))
      refine S.stB (b := b4) (cs := c'.toArray) (fun w8 S => ?_) rfl (by simpa using hl') (by simpa using hone')
      refine S.ceB (b := b4) ?_ hl'
      exact fin S
    · refine S.stB (b := b4) (cs := c'.toArray) (fun w8 S => ?_) rfl (by simpa using hl') (by simpa using hone')
      refine w_qE ?_
      (repeat (first | refine s_p ?_ | refine s_c (by omega) ?_ | refine S.ld ?_ | refine S.ldB ?_ | refine S.ce ?_ | refine S.ceB ?_ | refine s_q ?_ | refine s_qc (by omega) ?_ | refine n_some ?_ | rw [List.getD_cons_zero] | rw [List.getD_cons_succ]))
      refine S.ceB (b := b4) ?_ hl'
      exact fin S
end Go.Proofs
end

section
namespace Go.Proofs
open Go.Sh
set_option maxRecDepth 100000
set_option linter.unusedSimpArgs false
set_option linter.unusedVariables false
def anewB (t : TyD) (l : List Int) : Bool := (isB t && decide (t.regs.length = l.length)) && !(l.any fun x => decide (x < -1))
def anewT (t : TyD) (l : List Int) : TyD × Int := if anewB t l then (t.lay l, 0) else (zeroD, 2)
theorem hf_less (x : Int) (w : World) (K : Value → World → Prop) (hk : K (.bool (decide (x < -1))) w) : oCallV Tryd.prog (.func (.func Tryd.n_types_Anew_1) #[] #[]) #[.int .i64 x] w K := by
  refine v_func (by kernel_rfl) ?_
  refine Tryd.ok_types_Anew_1 (t0 := .int .i64 x) ?_
  unfold Tryd.F_types_Anew_1
  (first | refine s_p ?_ | refine s_c (by omega) ?_)
  exact hk
theorem ints_at {w : World} {p : Option Addr} {l : List Int} (h : Sl w p (ints l)) {i : Nat} (hi : i < l.length) : ∃ b off, p = some ⟨b, off, none⟩ ∧ w.cell? ⟨b, off + i, none⟩ = some (.int .i64 l[i]) := by
  obtain ⟨b, off, hp, hc⟩ := h.at (i := i) (by rw [ints_len]; exact hi)
  refine ⟨b, off, hp, ?_⟩
  rw [hc]; simp [ints]
theorem c_types_Anew {t : TyD} {l : List Int} {p : Option Addr} {cap : Nat} {w : World} {r : Gh} {v : Value} {K : Value → World → Prop} (hr : Holds r w) (hv : TyG r v t) (hl : Ob r fun w => Sl w p (ints l)) (hb : l.length ≤ 1000)
    (h : ∀ v' sn w', Ext w w' → New w sn w' → TyG sn v' (anewT t l).1 → ChnG sn v' (anewT t l).1 → K (.tuple #[v', .int .i64 (anewT t l).2]) w') : oCall Tryd.prog Tryd.n_types_Anew #[v, .slice p l.length cap] w K := by
  refine Tryd.ok_types_Anew ?_
  unfold Tryd.F_types_Anew
  have hv0 := hv
  obtain ⟨p1, cap1, rfl, _⟩ := hv
  have S := St.start hr
  refine S.box fun b2 w1 S => ?_
  refine S.box fun b3 w2 S => ?_
  refine S.al fun b4 w3 S => ?_
  have S := S.go (Ext.drew _)
  (repeat (first | refine s_p ?_ | refine s_c (by omega) ?_ | refine S.ld ?_ | refine S.ldB ?_ | refine S.ce ?_ | refine S.ceB ?_ | refine s_q ?_ | refine s_qc (by omega) ?_ | refine n_some ?_ | rw [List.getD_cons_zero] | rw [List.getD_cons_succ]))
  refine c_types_may S.holds hv0 fun w4 e4 => ?_
  have S := S.go e4
  (repeat (first | refine s_p ?_ | refine s_c (by omega) ?_ | refine S.ld ?_ | refine S.ldB ?_ | refine S.ce ?_ | refine S.ceB ?_ | refine s_q ?_ | refine s_qc (by omega) ?_ | refine n_some ?_ | rw [List.getD_cons_zero] | rw [List.getD_cons_succ]))
  refine j_borE (c := decide (t.regs.length ≠ l.length)) (fun hB K2 hK2 => ?_) fun w9 e9 => ?_
  · have hB : isB t = true := by simpa using hB
    (repeat (first | refine s_p ?_ | refine s_c (by omega) ?_ | refine S.ld ?_ | refine S.ldB ?_ | refine S.ce ?_ | refine S.ceB ?_ | refine s_q ?_ | refine s_qc (by omega) ?_ | refine n_some ?_ | rw [List.getD_cons_zero] | rw [List.getD_cons_succ]))
    refine c_types_Regions S.holds hv0 fun v5 w5 e5 o5 => ⟨e5, ?_⟩
    obtain ⟨p5, cap5, rfl, _⟩ := own_shape o5
    (repeat (first | refine s_p ?_ | refine s_c (by omega) ?_ | refine S.ld ?_ | refine S.ldB ?_ | refine S.ce ?_ | refine S.ceB ?_ | refine s_q ?_ | refine s_qc (by omega) ?_ | refine n_some ?_ | rw [List.getD_cons_zero] | rw [List.getD_cons_succ]))
    have := hK2 _ e5
    rw [regsT, if_pos hB]
    have e1 : decide (((t.regs.length : Nat) : Int) ≠ ((l.length : Nat) : Int)) = decide (t.regs.length ≠ l.length) := decide_eq_decide.2 (by omega)
    rw [e1]; exact this
  have S := S.go e9
  refine j_borH (c := l.any fun x => decide (x < -1)) (fun _ K2 hK2 => ?_) ?_
  · (repeat (first | refine s_p ?_ | refine s_c (by omega) ?_ | refine S.ld ?_ | refine S.ldB ?_ | refine S.ce ?_ | refine S.ceB ?_ | refine s_q ?_ | refine s_qc (by omega) ?_ | refine n_some ?_ | rw [List.getD_cons_zero] | rw [List.getD_cons_succ]))
    refine c_ContainsFunc_int (f := fun x => decide (x < -1)) hf_less (S.at hl) (by omega) ?_
    exact hK2
  have hnb : ((!isB t || decide (t.regs.length ≠ l.length)) || l.any fun x => decide (x < -1)) = !anewB t l := by
    rw [anewB]
    cases isB t <;> cases l.any (fun x => decide (x < -1)) <;> simp
  rw [hnb]
  refine c_b (fun hn => ?_) (fun hn => ?_)
  · have hn : anewB t l = false := by simpa using hn
    have hT : anewT t l = (zeroD, 2) := by rw [anewT, hn]; rfl
    rw [hT] at h
    refine p_build (cs := #[.int .u8 0, .bool false, .int .i64 0, .int .i64 0, .slice none 0 0]) (by kernel_rfl) ?_
    refine S.stB fun w5 S => ?_
    (repeat (first | refine s_p ?_ | refine s_c (by omega) ?_ | refine S.ld ?_ | refine S.ldB ?_ | refine S.ce ?_ | refine S.ceB ?_ | refine s_q ?_ | refine s_qc (by omega) ?_ | refine n_some ?_ | rw [List.getD_cons_zero] | rw [List.getD_cons_succ]))
    exact h _ nothing _ S.ext New.nothing ty_leaf .nil
  · have hn : anewB t l = true := by simpa using hn
    have hT : anewT t l = (t.lay l, 0) := by rw [anewT, if_pos hn]
    rw [hT] at h
    rw [anewB, Bool.and_eq_true, Bool.and_eq_true, decide_eq_true_eq] at hn
    obtain ⟨⟨hB, hlen⟩, _⟩ := hn
    (repeat (first | refine s_p ?_ | refine s_c (by omega) ?_ | refine S.ld ?_ | refine S.ldB ?_ | refine S.ce ?_ | refine S.ceB ?_ | refine s_q ?_ | refine s_qc (by omega) ?_ | refine n_some ?_ | rw [List.getD_cons_zero] | rw [List.getD_cons_succ]))
    refine c_types_own 48 (by decide) hB S hv0 fun c N w5 hch S => ?_
    have S : StX noX w r w5 (.cell b2 [.int .u8 t.k, .bool t.m, .int .i64 t.re, .int .i64 t.st, .slice p1 t.of.length cap1] 25 :: ([.cell b3 [.slice p l.length cap] 68] ++ (N ++ [.cell b4 [.int .u8 0, .bool false, .int .i64 0, .int .i64 0, .slice none 0 0] 25]))) := S.perm (by
      refine (List.Perm.append_left N (List.Perm.swap _ _ _ |>.trans (List.Perm.cons _ (List.Perm.swap _ _ _)))).trans ?_
      refine (List.Perm.append_left N (List.Perm.swap _ _ _)).trans ?_
      refine List.perm_middle.trans (List.Perm.cons _ ?_)
      refine List.perm_middle.trans ?_
      exact List.Perm.refl _)
    have hcl := hch.len
    have hone := hch.ones
    refine S.stB (b := b2) (cs := c.toArray) (fun w6 S => ?_) rfl (by simpa using hcl) (by simpa using hone)
    refine S.al fun b6 w7 S => ?_
    refine S.st (b := b6) fun w8 S => ?_
    (first | refine s_p ?_ | refine s_c (by omega) ?_)
    have S : StX noX w r w8 (.cell b2 c 25 :: ([.cell b6 [.int .i64 ((0 : Nat) : Int)] 3, .cell b3 [.slice p l.length cap] 68] ++ (N ++ [.cell b4 [.int .u8 0, .bool false, .int .i64 0, .int .i64 0, .slice none 0 0] 25]))) := S.perm (List.Perm.swap _ _ _)
    refine c_types_walk (s := 32) (l := l) (Lc := fun i => [.cell b6 [.int .i64 (i : Nat)] 3, .cell b3 [.slice p l.length cap] 68]) ?_ 48 (i := 0) hB hch (by omega) (M := [.cell b4 [.int .u8 0, .bool false, .int .i64 0, .int .i64 0, .slice none 0 0] 25]) S fun c' N' w9 hch' S => ?_
    · intro i hi b k re st m v M w K S h
      refine v_func (by kernel_rfl) ?_
      refine Tryd.ok_types_Anew_2 (t0 := .pointer (some ⟨b, 0, none⟩)) (t1 := .pointer (some ⟨b3, 0, none⟩)) (t2 := .pointer (some ⟨b6, 0, none⟩)) ?_
      unfold Tryd.F_types_Anew_2
      have S : StX noX _ r _ (.cell b [.int .u8 k, .bool m, .int .i64 re, .int .i64 st, v] 25 :: .cell b6 [.int .i64 (i : Nat)] 3 :: .cell b3 [.slice p l.length cap] 68 :: M) := S
      obtain ⟨bp, op, rfl, hcell⟩ := ints_at (S.at hl) hi
      (repeat (first | refine s_p ?_ | refine s_c (by omega) ?_ | refine S.ld ?_ | refine S.ldB ?_ | refine S.ce ?_ | refine S.ceB ?_ | refine s_q ?_ | refine s_qc (by omega) ?_ | refine n_some ?_ | rw [List.getD_cons_zero] | rw [List.getD_cons_succ]))
      refine s_ld1 (by simpa using hcell) ?_
      (repeat (first | refine s_p ?_ | refine s_c (by omega) ?_ | refine S.ld ?_ | refine S.ldB ?_ | refine S.ce ?_ | refine S.ceB ?_ | refine s_q ?_ | refine s_qc (by omega) ?_ | refine n_some ?_ | rw [List.getD_cons_zero] | rw [List.getD_cons_succ]))
      refine S.st fun w1 S => ?_
      (repeat (first | refine s_p ?_ | refine s_c (by omega) ?_ | refine S.ld ?_ | refine S.ldB ?_ | refine S.ce ?_ | refine S.ceB ?_ | refine s_q ?_ | refine s_qc (by omega) ?_ | refine n_some ?_ | rw [List.getD_cons_zero] | rw [List.getD_cons_succ]))
      refine S.st (b := b6) fun w2 S => ?_
      refine h _ ?_
      rw [show ((i : Nat) : Int) + 1 = ((i + 1 : Nat) : Int) by omega] at S
      exact S
    rw [List.drop_zero] at hch'
    have S : StX noX w r w9 (.cell b2 c' 25 :: .cell b4 [.int .u8 0, .bool false, .int .i64 0, .int .i64 0, .slice none 0 0] 25 :: N') := (S.less (fun _ _ h => h) (.cons_cons _ (List.sublist_append_right _ _))).perm (by
      refine List.Perm.cons _ ?_
      show (N' ++ [_]).Perm ([_] ++ N')
      exact List.perm_append_comm)
    have hl' := hch'.len
    have hone' := hch'.ones
    refine S.ldB (b := b2) ?_ hl'
    refine S.stB (b := b4) (cs := c'.toArray) (fun w8 S => ?_) rfl (by simpa using hl') (by simpa using hone')
    refine S.ceB (b := b4) ?_ hl'
    have S : StX noX w r w8 (N' ++ []) := by rw [List.append_nil]; exact S.tl.tl
    obtain ⟨sn, S, ht, hg, hf⟩ := hch'.frz S
    exact h _ sn _ S.ext ⟨S.holds.le (h := inferInstance), fun b o hb => (hf b o hb).elim id fun h => h.elim⟩ ht hg
end Go.Proofs
end

section
namespace Go.Proofs
open Go.Sh
set_option maxRecDepth 100000
set_option linter.unusedSimpArgs false
set_option linter.unusedVariables false
theorem _root_.Go.Sh.Holds.inAll {r : Gh} {w : World} (h : Holds r w) : Le r (all w) := ⟨fun b o hb => h b o hb⟩
theorem sl_tail {w : World} {p : Option Addr} {vs : List Value} {cap : Nat} (h : Sl w p vs) (hc : vs.length ≤ cap) : Sl w (if cap = 1 then p else p.map (·.add (1 * 1))) vs.tail := fun i v hv => by
  rw [← List.drop_one, List.getElem?_drop] at hv
  by_cases h1 : cap = 1
  · have := (List.getElem?_eq_some_iff.1 hv).1
    omega
  · rw [if_neg h1]
    obtain ⟨b, off, rfl, hcell⟩ := h _ v hv
    refine ⟨b, off + 1, ?_, ?_⟩
    · simp only [Option.map_some, addr_add, Nat.mul_one]
    · rw [Nat.add_assoc]; exact hcell
theorem c_ref06_laid {s : Int} : ∀ (n : Nat) {t : TyD} {l : List Int} {p : Option Addr} {cap : Nat} {w : World} {r : Gh} {v : Value} {K : Value → World → Prop}, n ≤ 1000 → lookB s n t = true → Holds r w → TyG r v t →
    (Ob r fun w => Sl w p (ints l)) → l.length ≤ cap → t.regs.length ≤ l.length → (∀ v' sn w', Ext w w' → New w sn w' → TyG sn v' (t.lay l) → K v' w') → oCall Tryd.prog Tryd.n_ref06_laid #[v, .slice p l.length cap] w K := by
  intro n
  induction n with
  | zero => intro t l p cap w r v K _ h; cases h
  | succ n ih =>
    intro t l p cap w r v K hn hl hr hv hsl hcap hreg h
    refine Tryd.ok_ref06_laid ?_
    unfold Tryd.F_ref06_laid
    have hv0 := hv
    obtain ⟨p1, cap1, rfl, hp1, hcap1, hof⟩ := hv
    have S := St.start hr
    refine S.box fun b2 w1 S => ?_
    refine S.al fun b4 w2 S => ?_
    have S : StX noX w r w2 [.cell b4 [.int .u8 0, .bool false, .int .i64 0, .int .i64 0, .slice none 0 0] 25, .cell b2 [.int .u8 t.k, .bool t.m, .int .i64 t.re, .int .i64 t.st, .slice p1 t.of.length cap1] 25] := S
    refine j_intro (fun s w' => ∃ p' cap', s = [.slice p' (if t.k = 4 then l.tail else l).length cap'] ∧ (Ob r fun w => Sl w p' (ints (if t.k = 4 then l.tail else l))) ∧ (if t.k = 4 then l.tail else l).length ≤ cap' ∧
      StX noX w r w' [.cell b4 [.int .u8 0, .bool false, .int .i64 0, .int .i64 0, .slice none 0 0] 25, .cell b2 [.int .u8 t.k, .bool t.m, .int .i64 (if t.k = 4 then l.headD 0 else t.re), .int .i64 t.st, .slice p1 t.of.length cap1] 25]) (fun K2 hK2 => ?_) ?_
    · (repeat (first | refine s_p ?_ | refine s_c (by omega) ?_ | refine S.ld ?_ | refine S.ldB ?_ | refine S.ce ?_ | refine S.ceB ?_ | refine s_q ?_ | refine s_qc (by omega) ?_ | refine n_some ?_ | rw [List.getD_cons_zero] | rw [List.getD_cons_succ]))
      refine c_if (fun h4 => ?_) (fun h4 => ?_)
      · have h4 : t.k = 4 := by omega
        have hpos : 0 < l.length := by
          have : 0 < t.regs.length := by
            rw [TyD.regs_eq, if_pos h4]; simp
          omega
        obtain ⟨bp, op, rfl, hcell⟩ := ints_at (S.at hsl) hpos
        (repeat (first | refine s_p ?_ | refine s_c (by omega) ?_ | refine S.ld ?_ | refine S.ldB ?_ | refine S.ce ?_ | refine S.ceB ?_ | refine s_q ?_ | refine s_qc (by omega) ?_ | refine n_some ?_ | rw [List.getD_cons_zero] | rw [List.getD_cons_succ]))
        refine s_ld1 (by simpa using hcell) ?_
        (repeat (first | refine s_p ?_ | refine s_c (by omega) ?_ | refine S.ld ?_ | refine S.ldB ?_ | refine S.ce ?_ | refine S.ceB ?_ | refine s_q ?_ | refine s_qc (by omega) ?_ | refine n_some ?_ | rw [List.getD_cons_zero] | rw [List.getD_cons_succ]))
        refine S.st fun w3 S => ?_
        (repeat (first | refine s_p ?_ | refine s_c (by omega) ?_ | refine S.ld ?_ | refine S.ldB ?_ | refine S.ce ?_ | refine S.ceB ?_ | refine s_q ?_ | refine s_qc (by omega) ?_ | refine n_some ?_ | rw [List.getD_cons_zero] | rw [List.getD_cons_succ]))
        refine hK2 _ _ ⟨if cap = 1 then some ⟨bp, op, none⟩ else (some (⟨bp, op, none⟩ : Addr)).map (·.add (1 * 1)), cap - 1, ?_, ?_, ?_, ?_⟩
        · rw [if_pos h4, List.length_tail]; rfl
        · intro w hw
          have := sl_tail (hsl w hw) (by rw [ints_len]; exact hcap)
          rw [if_pos h4, ints, List.map_tail]
          exact this
        · rw [if_pos h4, List.length_tail]; omega
        · rw [if_pos h4]
          obtain ⟨x, l', rfl⟩ : ∃ x l', l = x :: l' := by cases l with | nil => simp at hpos | cons x l' => exact ⟨x, l', rfl⟩
          exact S
      · have h4 : ¬ t.k = 4 := by omega
        refine hK2 _ _ ⟨p, cap, by rw [if_neg h4], by rw [if_neg h4]; exact hsl, by rw [if_neg h4]; exact hcap, by rw [if_neg h4]; exact S⟩
    clear S
    rintro s w3 ⟨p', cap', rfl, hsl', hcap', S⟩ d3
    refine j_intro (fun _ w' => ∃ sn q m c, (∀ b o, sn b o → w.heap.size ≤ b) ∧ TyG sn (.agg #[.int .u8 t.k, .bool t.m, .int .i64 (if t.k = 4 then l.headD 0 else t.re), .int .i64 t.st, .slice q m c]) (t.lay l) ∧
      StX noX w (r.or sn) w' [.cell b4 [.int .u8 0, .bool false, .int .i64 0, .int .i64 0, .slice none 0 0] 25, .cell b2 [.int .u8 t.k, .bool t.m, .int .i64 (if t.k = 4 then l.headD 0 else t.re), .int .i64 t.st, .slice q m c] 25]) (fun K2 hK2 => ?_) ?_
    · (repeat (first | refine s_p ?_ | refine s_c (by omega) ?_ | refine S.ld ?_ | refine S.ldB ?_ | refine S.ce ?_ | refine S.ceB ?_ | refine s_q ?_ | refine s_qc (by omega) ?_ | refine n_some ?_ | rw [List.getD_cons_zero] | rw [List.getD_cons_succ]))
      rcases look_cases hl with ⟨ho, _⟩ | ⟨u, ho, hu, _⟩
      · refine c_f (by rw [ho]; rfl) ?_
        refine hK2 _ _ ⟨nothing, p1, t.of.length, cap1, fun _ _ h => h.elim, ?_, S.less (fun b o h => h.elim id fun h => h.elim) (List.Sublist.refl _)⟩
        rw [lay_nil ho, ho]
        exact ⟨p1, cap1, rfl, hp1, Nat.zero_le _, trivial⟩
      · have hlen : t.of.length = 1 := by rw [ho]; rfl
        refine c_t (by rw [hlen]; rfl) ?_
        obtain ⟨ba, oa, rfl, c, hc, hcell, ht⟩ := NdG.of hof (i := 0) (by omega)
        have ht : TyG r (.agg c.toArray) u := by simpa [ho] using ht
        (repeat (first | refine s_p ?_ | refine s_c (by omega) ?_ | refine S.ld ?_ | refine S.ldB ?_ | refine S.ce ?_ | refine S.ceB ?_ | refine s_q ?_ | refine s_qc (by omega) ?_ | refine n_some ?_ | rw [List.getD_cons_zero] | rw [List.getD_cons_succ]))
        refine s_ldN (n := 5) hc (fun j v hj => by simpa using S.at (hcell j v hj)) ?_
        have hreg' : u.regs.length ≤ (if t.k = 4 then l.tail else l).length := by
          have h1 := congrArg List.length (regs_one ho)
          rw [List.length_append] at h1
          split
          · rename_i h4
            rw [if_pos h4] at h1
            rw [List.length_tail]
            simp at h1
            omega
          · omega
        refine ih (by omega) hu S.holds ht hsl' hcap' hreg' fun v4 sn w4 e4 n4 ht4 => ?_
        obtain ⟨S, _, hf⟩ := S.tell e4 n4
        obtain ⟨p4, cap4, rfl, hp4, hc4, hof4⟩ := id ht4
        refine S.lit (e := 25) (cs := [.int .u8 (u.lay (if t.k = 4 then l.tail else l)).k, .bool (u.lay (if t.k = 4 then l.tail else l)).m, .int .i64 (u.lay (if t.k = 4 then l.tail else l)).re, .int .i64 (u.lay (if t.k = 4 then l.tail else l)).st, .slice p4 (u.lay (if t.k = 4 then l.tail else l)).of.length cap4]) (by kernel_rfl) fun b9 w5 S => ?_
        have hb9 := S.ge b9
        (repeat (first | refine s_p ?_ | refine s_c (by omega) ?_ | refine S.ld ?_ | refine S.ldB ?_ | refine S.ce ?_ | refine S.ceB ?_ | refine s_q ?_ | refine s_qc (by omega) ?_ | refine n_some ?_ | rw [List.getD_cons_zero] | rw [List.getD_cons_succ]))
        refine S.st fun w6 S => ?_
        have S := S.frz
        refine hK2 _ _ ⟨sn.or (one b9 [.int .u8 (u.lay (if t.k = 4 then l.tail else l)).k, .bool (u.lay (if t.k = 4 then l.tail else l)).m, .int .i64 (u.lay (if t.k = 4 then l.tail else l)).re, .int .i64 (u.lay (if t.k = 4 then l.tail else l)).st, .slice p4 (u.lay (if t.k = 4 then l.tail else l)).of.length cap4] 25), some ⟨b9, 0, none⟩, 1, 1, ?_, ?_, S.to _⟩
        · intro b o ho
          rcases ho with ho | ⟨rfl, _⟩
          · exact hf b o ho
          · exact hb9.resolve_right id
        · rw [lay_one ho]
          exact ty_one ht4
    rintro s w6 ⟨sn, q, m, c, hf, hty, S⟩ d6
    (repeat (first | refine s_p ?_ | refine s_c (by omega) ?_ | refine S.ld ?_ | refine S.ldB ?_ | refine S.ce ?_ | refine S.ceB ?_ | refine s_q ?_ | refine s_qc (by omega) ?_ | refine n_some ?_ | rw [List.getD_cons_zero] | rw [List.getD_cons_succ]))
    refine S.stB fun w7 S => ?_
    (repeat (first | refine s_p ?_ | refine s_c (by omega) ?_ | refine S.ld ?_ | refine S.ldB ?_ | refine S.ce ?_ | refine S.ceB ?_ | refine s_q ?_ | refine s_qc (by omega) ?_ | refine n_some ?_ | rw [List.getD_cons_zero] | rw [List.getD_cons_succ]))
    exact h _ sn _ S.ext ⟨S.holds.le (h := inferInstance), hf⟩ hty
theorem c_ref06_laidL {s : Int} {n len : Nat} {t : TyD} {l : List Int} {p : Option Addr} {cap : Nat} {w : World} {r : Gh} {v : Value} {K : Value → World → Prop} (he : len = l.length) (hn : n ≤ 1000) (hk : lookB s n t = true) (hr : Holds r w) (hv : TyG r v t)
    (hs : Ob r fun w => Sl w p (ints l)) (hc : l.length ≤ cap) (hg : t.regs.length ≤ l.length) (h : ∀ v' sn w', Ext w w' → New w sn w' → TyG sn v' (t.lay l) → K v' w') : oCall Tryd.prog Tryd.n_ref06_laid #[v, .slice p len cap] w K := by
  subst he
  exact c_ref06_laid n hn hk hr hv hs hc hg h
theorem c_ref06_Number {t : TyD} {f : Int} {w : World} {r : Gh} {v : Value} {K : Value → World → Prop} (hr : Holds r w) (hv : TyG r v t)
    (h : ∀ v' sn w', Ext w w' → New w sn w' → TyG sn v' (numT t f).1 → K (.tuple #[v', .int .i64 (numT t f).2.1, .int .i64 (numT t f).2.2]) w') : oCall Tryd.prog Tryd.n_ref06_Number #[v, .int .i64 f] w K := by
  refine Tryd.ok_ref06_Number ?_
  unfold Tryd.F_ref06_Number
  have hv0 := hv
  obtain ⟨p, cap, rfl, _⟩ := hv
  have S := St.start hr
  refine S.box fun b2 w1 S => ?_
  refine S.al fun b4 w3 S => ?_
  (repeat (first | refine s_p ?_ | refine s_c (by omega) ?_ | refine S.ld ?_ | refine S.ldB ?_ | refine S.ce ?_ | refine S.ceB ?_ | refine s_q ?_ | refine s_qc (by omega) ?_ | refine n_some ?_ | rw [List.getD_cons_zero] | rw [List.getD_cons_succ]))
  refine c_ref06_Is S.holds hv0 fun w4 e4 => ?_
  have S := S.go e4
  (repeat (first | refine s_p ?_ | refine s_c (by omega) ?_ | refine S.ld ?_ | refine S.ldB ?_ | refine S.ce ?_ | refine S.ceB ?_ | refine s_q ?_ | refine s_qc (by omega) ?_ | refine n_some ?_ | rw [List.getD_cons_zero] | rw [List.getD_cons_succ]))
  refine j_borH (c := decide (f < 0)) (fun _ K2 hK2 => ?_) ?_
  · (repeat (first | refine s_p ?_ | refine s_c (by omega) ?_ | refine S.ld ?_ | refine S.ldB ?_ | refine S.ce ?_ | refine S.ceB ?_ | refine s_q ?_ | refine s_qc (by omega) ?_ | refine n_some ?_ | rw [List.getD_cons_zero] | rw [List.getD_cons_succ]))
    exact hK2
  refine j_borH (c := decide (512 < f)) (fun _ K2 hK2 => ?_) ?_
  · (repeat (first | refine s_p ?_ | refine s_c (by omega) ?_ | refine S.ld ?_ | refine S.ldB ?_ | refine S.ce ?_ | refine S.ceB ?_ | refine s_q ?_ | refine s_qc (by omega) ?_ | refine n_some ?_ | rw [List.getD_cons_zero] | rw [List.getD_cons_succ]))
    exact hK2
  have hnb : ((!isB t || decide (f < 0)) || decide (512 < f)) = !numB t f := by
    rw [numB]
    cases isB t
    · simp
    · simp only [Bool.not_true, Bool.false_or, Bool.true_and, Bool.not_and, ← decide_not]
      congr 1 <;> exact decide_eq_decide.2 (by omega)
  rw [hnb]
  refine c_b (fun hn => ?_) (fun hn => ?_)
  · have hn : numB t f = false := by simpa using hn
    have hT : numT t f = (zeroD, 0, 2) := by rw [numT, hn]; rfl
    rw [hT] at h
    refine p_build (cs := #[.int .u8 0, .bool false, .int .i64 0, .int .i64 0, .slice none 0 0]) (by kernel_rfl) ?_
    refine S.stB fun w5 S => ?_
    (repeat (first | refine s_p ?_ | refine s_c (by omega) ?_ | refine S.ld ?_ | refine S.ldB ?_ | refine S.ce ?_ | refine S.ceB ?_ | refine s_q ?_ | refine s_qc (by omega) ?_ | refine n_some ?_ | rw [List.getD_cons_zero] | rw [List.getD_cons_succ]))
    exact h _ nothing _ S.ext New.nothing ty_leaf
  have hn : numB t f = true := by simpa using hn
  have hT : numT t f = (t.lay (upTo f t.regs.length), f + t.regs.length, 0) := by rw [numT, if_pos hn]
  rw [hT] at h
  rw [numB, Bool.and_eq_true, Bool.and_eq_true, decide_eq_true_eq, decide_eq_true_eq] at hn
  obtain ⟨hB, hf0, hf1⟩ := hn
  have hrl := regs_le48 hB
  (repeat (first | refine s_p ?_ | refine s_c (by omega) ?_ | refine S.ld ?_ | refine S.ldB ?_ | refine S.ce ?_ | refine S.ceB ?_ | refine s_q ?_ | refine s_qc (by omega) ?_ | refine n_some ?_ | rw [List.getD_cons_zero] | rw [List.getD_cons_succ]))
  refine c_ref06_Regions S.holds hv0 fun v5 w5 e5 o5 => ?_
  have S := S.take e5 o5
  have hreg : regsT t = t.regs := by rw [regsT, if_pos hB]
  rw [hreg] at S
  -- what comes behind the round
  have fin : ∀ {w9 : World} {M : List Asr} {p5 : Option Addr} {cap5 : Nat}, StX noX w r w9 (.cell b4 [.int .u8 0, .bool false, .int .i64 0, .int .i64 0, .slice none 0 0] 25 :: .cell b2 [.int .u8 t.k, .bool t.m, .int .i64 t.re, .int .i64 t.st, .slice p t.of.length cap] 25 :: M) →
      Sl w9 p5 (ints (upTo f t.regs.length)) → t.regs.length ≤ cap5 →
      opQ Tryd.prog w9 (Instr.loadAt 25 (.pointer (some ⟨b2, 0, none⟩))) fun t35 => oCall Tryd.prog Tryd.n_ref06_laid #[t35, .slice p5 t.regs.length cap5] w9 fun t37 w20 =>
        opP Tryd.prog (Builtin.len_ #[68] 3 #[.slice p5 t.regs.length cap5]) fun t40 => opP Tryd.prog (bsem .add 3 false (.int .i64 f) t40) fun t41 =>
          opU Tryd.prog w20 (Instr.storeAt 25 (.pointer (some ⟨b4, 0, none⟩)) t37) fun w21 => opQ Tryd.prog w21 (cellSem 25 (.pointer (some ⟨b4, 0, none⟩))) fun r22 => K (.tuple #[r22, t41, .int .i64 0]) w21 := by
    intro w9 M p5 cap5 S hs hc
    (repeat (first | refine s_p ?_ | refine s_c (by omega) ?_ | refine S.ld ?_ | refine S.ldB ?_ | refine S.ce ?_ | refine S.ceB ?_ | refine s_q ?_ | refine s_qc (by omega) ?_ | refine n_some ?_ | rw [List.getD_cons_zero] | rw [List.getD_cons_succ]))
    refine c_ref06_laidL (s := 32) (n := 48) upTo_len.symm (by decide) hB (all_holds _) (hv0.up (l := S.holds.inAll)) (Sl.all hs) (by rw [upTo_len]; exact hc) (by rw [upTo_len]; exact Nat.le_refl _) fun v6 sn w6 e6 n6 ht6 => ?_
    obtain ⟨S, _, hf⟩ := S.tell e6 n6
    obtain ⟨p6, cap6, rfl, hrest⟩ := id ht6
    (repeat (first | refine s_p ?_ | refine s_c (by omega) ?_ | refine S.ld ?_ | refine S.ldB ?_ | refine S.ce ?_ | refine S.ceB ?_ | refine s_q ?_ | refine s_qc (by omega) ?_ | refine n_some ?_ | rw [List.getD_cons_zero] | rw [List.getD_cons_succ]))
    refine S.stB fun w7 S => ?_
    (repeat (first | refine s_p ?_ | refine s_c (by omega) ?_ | refine S.ld ?_ | refine S.ldB ?_ | refine S.ce ?_ | refine S.ceB ?_ | refine s_q ?_ | refine s_qc (by omega) ?_ | refine n_some ?_ | rw [List.getD_cons_zero] | rw [List.getD_cons_succ]))
    exact h _ sn _ S.ext ⟨S.holds.le (h := inferInstance), hf⟩ ht6
  by_cases hz : t.regs.length = 0
  · obtain ⟨p5, cap5, rfl, hp5, hc5, hl5, hs5⟩ := S.rowS v5
    refine l_intro (ι := Unit) (fun _ => [.int .i64 0]) (fun _ w' => w' = w5) (fun _ => 0) () rfl rfl ?_
    rintro ⟨⟩ d w6 rfl K6 hK6
    rw [List.getD_cons_zero]
    (repeat (first | refine s_p ?_ | refine s_c (by omega) ?_ | refine S.ld ?_ | refine S.ldB ?_ | refine S.ce ?_ | refine S.ceB ?_ | refine s_q ?_ | refine s_qc (by omega) ?_ | refine n_some ?_ | rw [List.getD_cons_zero] | rw [List.getD_cons_succ]))
    refine c_f (by rw [hz]; rfl) ?_
    refine fin S.tl ?_ hc5
    rw [hz]
    exact Sl.nil _ _
  · obtain ⟨b5, cap5, c, rfl, hc5, hcl, htk, S⟩ := S.rowCell v5 hz
    refine l_intro (ι := Nat × List Int × List Value) (fun i => [.int .i64 i.1]) (fun i w' => i.1 ≤ t.regs.length ∧ i.2.1.length = t.regs.length ∧ (∀ j, j < i.1 → i.2.1[j]? = some (f + (j : Nat))) ∧ i.2.2.length = cap5 * 1 ∧ i.2.2.take (t.regs.length * 1) = ints i.2.1 ∧
      StX noX w r w' [.cell b5 i.2.2 3, .cell b4 [.int .u8 0, .bool false, .int .i64 0, .int .i64 0, .slice none 0 0] 25, .cell b2 [.int .u8 t.k, .bool t.m, .int .i64 t.re, .int .i64 t.st, .slice p t.of.length cap] 25]) (fun i => t.regs.length - i.1) (0, t.regs, c) rfl
      ⟨Nat.zero_le _, rfl, fun j hj => by omega, hcl, htk, S⟩ ?_
    clear S
    rintro ⟨i, xs, c'⟩ d w6 ⟨hi, hxl, hxs, hcl', htk', S⟩ K6 hK6
    simp only at hi hxl hxs hcl' htk' S ⊢
    rw [List.getD_cons_zero]
    (repeat (first | refine s_p ?_ | refine s_c (by omega) ?_ | refine S.ld ?_ | refine S.ldB ?_ | refine S.ce ?_ | refine S.ceB ?_ | refine s_q ?_ | refine s_qc (by omega) ?_ | refine n_some ?_ | rw [List.getD_cons_zero] | rw [List.getD_cons_succ]))
    refine c_b (fun hlt => ?_) (fun hge => ?_)
    · have hlt : i < t.regs.length := by simpa using hlt
      (repeat (first | refine s_p ?_ | refine s_c (by omega) ?_ | refine S.ld ?_ | refine S.ldB ?_ | refine S.ce ?_ | refine S.ceB ?_ | refine s_q ?_ | refine s_qc (by omega) ?_ | refine n_some ?_ | rw [List.getD_cons_zero] | rw [List.getD_cons_succ]))
      refine S.st (b := b5) (fun w7 S => ?_) (by omega)
      (repeat (first | refine s_p ?_ | refine s_c (by omega) ?_ | refine S.ld ?_ | refine S.ldB ?_ | refine S.ce ?_ | refine S.ceB ?_ | refine s_q ?_ | refine s_qc (by omega) ?_ | refine n_some ?_ | rw [List.getD_cons_zero] | rw [List.getD_cons_succ]))
      rw [show ((i : Int) + 1) = ((i + 1 : Nat) : Int) by omega]
      refine hK6 (i + 1, xs.set i (f + (i : Nat)), c'.set i (.int .i64 (f + (i : Nat)))) _ ⟨hlt, by simpa using hxl, fun j hj => ?_, by simpa using hcl', ?_, ?_⟩ (by simp only; omega)
      · by_cases hji : j = i
        · subst hji
          rw [List.getElem?_set_self (by omega)]
        · rw [List.getElem?_set_ne (by omega)]
          exact hxs j (by omega)
      · rw [List.take_set, htk', ints, ints, List.map_set]
      · simpa using S
    · have hge : i = t.regs.length := by
        have : ¬ i < t.regs.length := by simpa using hge
        omega
      have hx : xs = upTo f t.regs.length := by
        apply List.ext_getElem?
        intro j
        by_cases hj : j < t.regs.length
        · rw [hxs j (by omega), List.getElem?_eq_getElem (by rw [upTo_len]; exact hj), upTo_at]
        · rw [List.getElem?_eq_none (by omega), List.getElem?_eq_none (by rw [upTo_len]; omega)]
      refine fin (M := [.cell b5 c' 3]) (S.perm (List.Perm.trans (List.Perm.swap _ _ _) (List.Perm.cons _ (List.Perm.swap _ _ _)))) ?_ hc5
      rw [← hx, ← htk']
      exact (Sl.blk (S.blk b5)).take _
theorem c_ref06_Anew {t : TyD} {l : List Int} {p : Option Addr} {cap : Nat} {w : World} {r : Gh} {v : Value} {K : Value → World → Prop} (hr : Holds r w) (hv : TyG r v t) (hl : Ob r fun w => Sl w p (ints l)) (hb : l.length ≤ 1000) (hcap : l.length ≤ cap)
    (h : ∀ v' sn w', Ext w w' → New w sn w' → TyG sn v' (anewT t l).1 → K (.tuple #[v', .int .i64 (anewT t l).2]) w') : oCall Tryd.prog Tryd.n_ref06_Anew #[v, .slice p l.length cap] w K := by
  refine Tryd.ok_ref06_Anew ?_
  unfold Tryd.F_ref06_Anew
  have hv0 := hv
  obtain ⟨p1, cap1, rfl, _⟩ := hv
  have S := St.start hr
  refine S.box fun b2 w1 S => ?_
  refine S.al fun b4 w3 S => ?_
  (repeat (first | refine s_p ?_ | refine s_c (by omega) ?_ | refine S.ld ?_ | refine S.ldB ?_ | refine S.ce ?_ | refine S.ceB ?_ | refine s_q ?_ | refine s_qc (by omega) ?_ | refine n_some ?_ | rw [List.getD_cons_zero] | rw [List.getD_cons_succ]))
  refine c_ref06_Is S.holds hv0 fun w4 e4 => ?_
  have S := S.go e4
  (repeat (first | refine s_p ?_ | refine s_c (by omega) ?_ | refine S.ld ?_ | refine S.ldB ?_ | refine S.ce ?_ | refine S.ceB ?_ | refine s_q ?_ | refine s_qc (by omega) ?_ | refine n_some ?_ | rw [List.getD_cons_zero] | rw [List.getD_cons_succ]))
  refine j_borE (c := decide (t.regs.length ≠ l.length)) (fun hB K2 hK2 => ?_) fun w9 e9 => ?_
  · have hB : isB t = true := by simpa using hB
    (repeat (first | refine s_p ?_ | refine s_c (by omega) ?_ | refine S.ld ?_ | refine S.ldB ?_ | refine S.ce ?_ | refine S.ceB ?_ | refine s_q ?_ | refine s_qc (by omega) ?_ | refine n_some ?_ | rw [List.getD_cons_zero] | rw [List.getD_cons_succ]))
    refine c_ref06_Regions S.holds hv0 fun v5 w5 e5 o5 => ?_
    obtain ⟨p5, cap5, rfl, _⟩ := own_shape o5
    (repeat (first | refine s_p ?_ | refine s_c (by omega) ?_ | refine S.ld ?_ | refine S.ldB ?_ | refine S.ce ?_ | refine S.ceB ?_ | refine s_q ?_ | refine s_qc (by omega) ?_ | refine n_some ?_ | rw [List.getD_cons_zero] | rw [List.getD_cons_succ]))
    have := hK2 _ e5
    rw [regsT, if_pos hB]
    have e1 : decide (((l.length : Nat) : Int) ≠ ((t.regs.length : Nat) : Int)) = decide (t.regs.length ≠ l.length) := decide_eq_decide.2 (by omega)
    rw [e1]; exact this
  have S := S.go e9
  have bad : ∀ {w9 : World}, StX noX w r w9 [.cell b4 [.int .u8 0, .bool false, .int .i64 0, .int .i64 0, .slice none 0 0] 25, .cell b2 [.int .u8 t.k, .bool t.m, .int .i64 t.re, .int .i64 t.st, .slice p1 t.of.length cap1] 25] → anewB t l = false →
      opP Tryd.prog (Instr.build 25 #[]) fun t18 => opU Tryd.prog w9 (Instr.storeAt 25 (.pointer (some ⟨b4, 0, none⟩)) t18) fun w9 => opQ Tryd.prog w9 (cellSem 25 (.pointer (some ⟨b4, 0, none⟩))) fun r10 => K (.tuple #[r10, .int .i64 2]) w9 := by
    intro w9 S hn
    have hT : anewT t l = (zeroD, 2) := by rw [anewT, hn]; rfl
    rw [hT] at h
    refine p_build (cs := #[.int .u8 0, .bool false, .int .i64 0, .int .i64 0, .slice none 0 0]) (by kernel_rfl) ?_
    refine S.stB fun w5 S => ?_
    (repeat (first | refine s_p ?_ | refine s_c (by omega) ?_ | refine S.ld ?_ | refine S.ldB ?_ | refine S.ce ?_ | refine S.ceB ?_ | refine s_q ?_ | refine s_qc (by omega) ?_ | refine n_some ?_ | rw [List.getD_cons_zero] | rw [List.getD_cons_succ]))
    exact h _ nothing _ S.ext New.nothing ty_leaf
  refine c_b (fun hn => ?_) (fun hn => ?_)
  · refine bad S ?_
    rw [anewB]
    cases h1 : isB t
    · simp
    · rw [h1] at hn
      simp at hn
      simp [hn]
  · have hB : isB t = true ∧ t.regs.length = l.length := by
      cases hh : isB t
      · rw [hh] at hn; simp at hn
      · rw [hh] at hn; simpa using hn
    obtain ⟨hB, hlen⟩ := hB
    refine l_intro (ι := Nat) (fun i => [.int .i64 i]) (fun i w' => i ≤ l.length ∧ (∀ x ∈ l.take i, ¬ x < -1) ∧ StX noX w r w' [.cell b4 [.int .u8 0, .bool false, .int .i64 0, .int .i64 0, .slice none 0 0] 25, .cell b2 [.int .u8 t.k, .bool t.m, .int .i64 t.re, .int .i64 t.st, .slice p1 t.of.length cap1] 25])
      (fun i => l.length - i) 0 rfl ⟨Nat.zero_le _, by simp, S⟩ ?_
    clear S
    rintro i d w6 ⟨hi, hg, S⟩ K6 hK6
    rw [List.getD_cons_zero]
    (repeat (first | refine s_p ?_ | refine s_c (by omega) ?_ | refine S.ld ?_ | refine S.ldB ?_ | refine S.ce ?_ | refine S.ceB ?_ | refine s_q ?_ | refine s_qc (by omega) ?_ | refine n_some ?_ | rw [List.getD_cons_zero] | rw [List.getD_cons_succ]))
    refine c_b (fun hlt => ?_) (fun hge => ?_)
    · have hlt : i < l.length := by simpa using hlt
      obtain ⟨bp, op, rfl, hcell⟩ := ints_at (S.at hl) hlt
      (repeat (first | refine s_p ?_ | refine s_c (by omega) ?_ | refine S.ld ?_ | refine S.ldB ?_ | refine S.ce ?_ | refine S.ceB ?_ | refine s_q ?_ | refine s_qc (by omega) ?_ | refine n_some ?_ | rw [List.getD_cons_zero] | rw [List.getD_cons_succ]))
      refine s_ld1 (by simpa using hcell) ?_
      (repeat (first | refine s_p ?_ | refine s_c (by omega) ?_ | refine S.ld ?_ | refine S.ldB ?_ | refine S.ce ?_ | refine S.ceB ?_ | refine s_q ?_ | refine s_qc (by omega) ?_ | refine n_some ?_ | rw [List.getD_cons_zero] | rw [List.getD_cons_succ]))
      refine c_b (fun hy => ?_) (fun hno => ?_)
      · refine bad S ?_
        have : (l.any fun x => decide (x < -1)) = true := List.any_eq_true.2 ⟨_, List.getElem_mem hlt, hy⟩
        rw [anewB, this]; simp
      · (repeat (first | refine s_p ?_ | refine s_c (by omega) ?_ | refine S.ld ?_ | refine S.ldB ?_ | refine S.ce ?_ | refine S.ceB ?_ | refine s_q ?_ | refine s_qc (by omega) ?_ | refine n_some ?_ | rw [List.getD_cons_zero] | rw [List.getD_cons_succ]))
        rw [show ((i : Int) + 1) = ((i + 1 : Nat) : Int) by omega]
        refine hK6 (i + 1) _ ⟨hlt, ?_, S⟩ (by omega)
        intro x hx
        rw [List.take_succ_eq_append_getElem hlt, List.mem_append] at hx
        rcases hx with hx | hx
        · exact hg x hx
        · rw [List.mem_singleton] at hx
          subst hx
          simpa using hno
    · have hge : i = l.length := by
        have : ¬ i < l.length := by simpa using hge
        omega
      rw [hge, List.take_length] at hg
      have hn : anewB t l = true := by
        have : (l.any fun x => decide (x < -1)) = false := by
          rw [Bool.eq_false_iff]
          intro hc
          obtain ⟨x, hx, hx2⟩ := List.any_eq_true.1 hc
          exact hg x hx (by simpa using hx2)
        rw [anewB, this, hB]; simp [hlen]
      have hT : anewT t l = (t.lay l, 0) := by rw [anewT, if_pos hn]
      rw [hT] at h
      (repeat (first | refine s_p ?_ | refine s_c (by omega) ?_ | refine S.ld ?_ | refine S.ldB ?_ | refine S.ce ?_ | refine S.ceB ?_ | refine s_q ?_ | refine s_qc (by omega) ?_ | refine n_some ?_ | rw [List.getD_cons_zero] | rw [List.getD_cons_succ]))
      refine c_ref06_laid (s := 32) 48 (by decide) hB S.holds hv0 hl hcap (by omega) fun v6 sn w6 e6 n6 ht6 => ?_
      obtain ⟨S, _, hf⟩ := S.tell e6 n6
      obtain ⟨p6, cap6, rfl, hrest⟩ := id ht6
      refine S.stB fun w7 S => ?_
      (repeat (first | refine s_p ?_ | refine s_c (by omega) ?_ | refine S.ld ?_ | refine S.ldB ?_ | refine S.ce ?_ | refine S.ceB ?_ | refine s_q ?_ | refine s_qc (by omega) ?_ | refine n_some ?_ | rw [List.getD_cons_zero] | rw [List.getD_cons_succ]))
      exact h _ sn _ S.ext ⟨S.holds.le (h := inferInstance), hf⟩ ht6
end Go.Proofs
end

section
namespace Go.Sh
open Go.RowKit
theorem g_TT {A B : Prop} (a : A) : gIf (.bool true) true A B := a
theorem g_FF {A B : Prop} (a : A) : gIf (.bool false) false A B := a
theorem g_TF {A B : Prop} (b : B) : gIf (.bool true) false A B := b
theorem g_FT {A B : Prop} (b : B) : gIf (.bool false) true A B := b
section
variable {w : World} {A : (List Value → World → Prop) → Prop} {Z : Value → World → Prop} {b c : Bool}
/-- 'and', 'or', whose second one is reckoned only if it must be; R: what holds behind both -/
theorem j_bandR (R : World → Prop) (h0 : b = false → R w) (hA : b = true → ∀ K : List Value → World → Prop, (∀ w', R w' → K [.bool c] w') → A K) (hZ : ∀ w', R w' → Z (.bool (b && c)) w') :
    sJoin (fun K => gIf (.bool b) true (A K) (K [undef] w)) fun s _ w' => oPick (.bool b) (s.getD 0 undef) (.bool false) fun t => Z t w' := by
  intro K hK
  cases b with
  | true => exact hA rfl K fun w' e => hK _ _ fun _ => ⟨true, rfl, by simpa using hZ w' e⟩
  | false => exact hK _ _ fun _ => ⟨false, rfl, by simpa using hZ w (h0 rfl)⟩
theorem j_borR (R : World → Prop) (h0 : b = true → R w) (hA : b = false → ∀ K : List Value → World → Prop, (∀ w', R w' → K [.bool c] w') → A K) (hZ : ∀ w', R w' → Z (.bool (b || c)) w') :
    sJoin (fun K => gIf (.bool b) false (A K) (K [undef] w)) fun s _ w' => oPick (.bool b) (.bool true) (s.getD 0 undef) fun t => Z t w' := by
  intro K hK
  cases b with
  | true => exact hK _ _ fun _ => ⟨true, rfl, by simpa using hZ w (h0 rfl)⟩
  | false => exact hA rfl K fun w' e => hK _ _ fun _ => ⟨false, rfl, by simpa using hZ w' e⟩
end
theorem g_UU {want : Bool} {A B : Prop} (b : B) : gIf undef want A B := b
section
variable {P : Program} {w : World} {t e : TypeId} {size n m : Nat} {v : Value} {xs news : List Value}
theorem Que.of_row {base : Nat} (h : w.ownsRow base e size v n xs) : Que w e size v n xs := by
  refine ⟨h.1, ?_⟩
  rcases own_blk h with ⟨rfl, rfl, rfl⟩ | ⟨g, cap, c, rfl, hb, B, h1, h2, h3, h4⟩
  · exact .inl ⟨rfl, rfl⟩
  · exact .inr ⟨g, 0, cap, c, rfl, B, h1, h2, by omega, by rw [List.drop_zero]; exact h4⟩
theorem Que.shape (h : Que w e size v n xs) : ∃ p cap, v = .slice p n cap ∧ (p = none → cap = 0) ∧ n ≤ cap ∧ xs.length = n * size ∧ Sl w p xs := by
  obtain ⟨hl, ⟨rfl, rfl⟩ | ⟨g, off, cap, c, rfl, B, h1, h2, h3, h4⟩⟩ := h
  · have hx : xs = [] := by simpa using hl
    subst hx
    exact ⟨none, 0, rfl, fun _ => rfl, Nat.le_refl _, hl, Sl.nil _ _⟩
  · refine ⟨_, cap, rfl, by simp, h1, hl, fun i v hv => ⟨g, off, rfl, ?_⟩⟩
    rw [B.cell]
    rw [← h4, List.getElem?_take] at hv
    split at hv
    · rwa [List.getElem?_drop] at hv
    · cases hv
theorem w_appendQ {K : Value → World → Prop} {ty : TypeId} {bytes : Nat} {a : Addr} {c : Nat}
    (hT : apT P t = some (e, size, bytes)) (hown : Que w e size v n xs) (hs : Sl w (some a) news) (hl : news.length = m * size) (h1 : ∀ u ∈ news, u.oneCell' = true)
    (hb : (n + m) * bytes ≤ 140737488355328)
    (h : ∀ v' w', Que w' e size v' (n + m) (xs ++ news) → ExtBut (fun k => v.ownBlock = some k) w w' → (v'.ownBlock = v.ownBlock ∨ v'.ownBlock = some w.heap.size) → K v' w') :
    opW P w (Builtin.append_ #[t, t] ty #[v, .slice (some a) m c]) K := by
  rcases hown with ⟨hxl, ⟨rfl, rfl⟩ | ⟨g, off, cap, cur, rfl, B, h2, h3, h4, h5⟩⟩
  · have hx : xs = [] := by simpa using hxl
    subst hx
    exact w_append hT (World.ownsRow_nil w 0 e size) hs hl (by simp) h1 hb (Nat.zero_le _) fun v' w' h6 h7 h8 _ => h v' w' (.of_row h6) h7 h8
  unfold apT at hT
  cases hu : P.underlying t with
  | none => rw [hu] at hT; cases hT
  | some d =>
    rw [hu] at hT
    cases d <;> first | (cases hT; done) | skip
    rename_i e'
    simp only [Option.bind_eq_some_iff] at hT
    obtain ⟨i, hi, hT⟩ := hT
    cases hz : i.zero with
    | none => rw [hz] at hT; cases hT
    | some z =>
      rw [hz] at hT
      simp only at hT
      split at hT
      · rename_i hc
        obtain ⟨hzs, hsz, hbp⟩ := hc
        simp only [Option.some.injEq, Prod.mk.injEq] at hT
        obtain ⟨rfl, rfl, rfl⟩ := hT
        have hnews : ∀ j u, news[j]? = some u → w.cell? (a.add j) = some u := fun j u hj => by obtain ⟨b, off, hp, hc⟩ := hs j u hj; cases hp; rw [addr_add]; exact hc
        have hlen : (xs ++ news).length = (n + m) * i.size := by rw [List.length_append, hxl, hl, Nat.add_mul]
        by_cases hroom : n + m ≤ cap
        · have hmul : (n + m) * i.size ≤ cap * i.size := Nat.mul_le_mul_right _ hroom
          have hfit : off + n * i.size + news.length ≤ cur.length := by rw [hl]; rw [Nat.add_mul] at hmul; omega
          have hf := run_firstCells_some (P := P) w i.size m a m c news hl hnews
          have hst := run_storeCells_at P g (off + n * i.size) e' news 0 cur.toArray w B (by simpa using hfit) h1
          simp only [Nat.add_zero] at hst
          obtain ⟨f1, f2, f3⟩ := setRow_facts B (cur.take (off + n * i.size) ++ news ++ cur.drop (off + n * i.size + news.length))
          refine ⟨_, _, by simp [Builtin.append_, run_underlying hu, sizeOf, typeInfo, hi, Builtin.lenOf, hroom, hf, Addr.add_lit, hst], h _ _ ⟨hlen, .inr ⟨g, off, cap, _, rfl, f3, hroom, h3, ?_, ?_⟩⟩ (f1.mono fun k _ hk => by cases hk; rfl) (.inl rfl)⟩
          · simp only [List.length_append, List.length_take, List.length_drop]; omega
          · rw [← hlen, List.append_assoc, List.drop_append_of_le_length (by rw [List.length_take]; omega), List.drop_take, show off + n * i.size - off = n * i.size by omega, h5, ← List.append_assoc, List.take_left']
            rfl
        · have h63 : n + m ≤ maxLen := by
            have : (n + m) * 1 ≤ (n + m) * i.bytes := Nat.mul_le_mul_left _ hbp
            simp only [maxLen]; omega
          obtain ⟨v', w', hr, ho, hg⟩ := run_append_arg_grows (P := P) w t ty e' i z i.size i.bytes hu hi hz rfl rfl hzs hsz ⟨g, off, none⟩ n cap xs hxl (fun j u hj => by
            rw [addr_add, B.cell]
            rw [← h5, List.getElem?_take] at hj
            split at hj
            · rwa [List.getElem?_drop] at hj
            · cases hj) a m c news hl hnews (by omega) h63 hb
          refine ⟨v', w', hr, h v' w' (.of_row ho) ⟨hg.os, hg.tape, hg.output, hg.size, fun k hk _ => hg.block k hk (by simp)⟩ ?_⟩
          -- a new row lies in the block that was just made
          have hr2 := run_append_grow (P := P) w t ty e' i z hu hi hz ⟨g, off, none⟩ n cap xs hxl (fun j u hj => by
            rw [addr_add, B.cell]
            rw [← h5, List.getElem?_take] at hj
            split at hj
            · rwa [List.getElem?_drop] at hj
            · cases hj) a m c news hl hnews (by omega) (by simp only [maxLen] at h63; omega) (growslice_fits (by omega) hb)
          rw [hr] at hr2
          injection hr2 with e1 e2
          rw [e1]; exact .inr rfl
      · cases hT
/-- without its first ones -/
theorem Que.drop {g off cap i : Nat} (h : Que w e size (.slice (some ⟨g, off, none⟩) n cap) n xs) (hi : i ≤ n) :
    Que w e size (.slice (if cap = i then some ⟨g, off, none⟩ else (some (⟨g, off, none⟩ : Addr)).map (·.add (i * size))) (n - i) (cap - i)) (n - i) (xs.drop (i * size)) := by
  obtain ⟨hl, ⟨h0, _⟩ | ⟨g', off', cap', c, hv, B, h1, h2, h3, h4⟩⟩ := h
  · cases h0
  cases hv
  refine ⟨by rw [List.length_drop, hl, Nat.sub_mul], .inr ?_⟩
  by_cases hc : cap = i
  · rw [if_pos hc]
    have : n - i = 0 := by omega
    refine ⟨g, off, cap - i, c, rfl, B, by omega, by omega, ?_, ?_⟩
    · have : (cap - i) * size = 0 := by rw [show cap - i = 0 by omega, Nat.zero_mul]
      omega
    · rw [this, Nat.zero_mul, List.take_zero, eq_comm, List.drop_eq_nil_iff, hl]
      exact Nat.mul_le_mul_right _ (by omega)
  · rw [if_neg hc]
    refine ⟨g, off + i * size, cap - i, c, by simp only [Option.map_some, addr_add], B, by omega, by omega, ?_, ?_⟩
    · have : i * size ≤ cap * size := Nat.mul_le_mul_right _ (by omega)
      rw [Nat.sub_mul]; omega
    · rw [← h4, List.drop_take, List.drop_drop, Nat.sub_mul]
end
/-! ### Functions with what they hold -/
theorem v_f00 {P : Program} {w : World} {f : FuncId} {K : Value → World → Prop} (he : enters P f = true) (h : oCall P f #[] w K) : oCallV P (.func (.func f) #[] #[]) #[] w K := v_func he h
theorem v_f01 {P : Program} {w : World} {f : FuncId} {K : Value → World → Prop} {c0 : Value} (he : enters P f = true) (h : oCall P f #[c0] w K) : oCallV P (.func (.func f) #[] #[c0]) #[] w K := v_func he h
theorem v_f02 {P : Program} {w : World} {f : FuncId} {K : Value → World → Prop} {c0 c1 : Value} (he : enters P f = true) (h : oCall P f #[c0, c1] w K) : oCallV P (.func (.func f) #[] #[c0, c1]) #[] w K := v_func he h
theorem v_f03 {P : Program} {w : World} {f : FuncId} {K : Value → World → Prop} {c0 c1 c2 : Value} (he : enters P f = true) (h : oCall P f #[c0, c1, c2] w K) : oCallV P (.func (.func f) #[] #[c0, c1, c2]) #[] w K := v_func he h
theorem v_f04 {P : Program} {w : World} {f : FuncId} {K : Value → World → Prop} {c0 c1 c2 c3 : Value} (he : enters P f = true) (h : oCall P f #[c0, c1, c2, c3] w K) : oCallV P (.func (.func f) #[] #[c0, c1, c2, c3]) #[] w K := v_func he h
theorem v_f10 {P : Program} {w : World} {f : FuncId} {K : Value → World → Prop} {x0 : Value} (he : enters P f = true) (h : oCall P f #[x0] w K) : oCallV P (.func (.func f) #[] #[]) #[x0] w K := v_func he h
theorem v_f11 {P : Program} {w : World} {f : FuncId} {K : Value → World → Prop} {x0 c0 : Value} (he : enters P f = true) (h : oCall P f #[x0, c0] w K) : oCallV P (.func (.func f) #[] #[c0]) #[x0] w K := v_func he h
theorem v_f12 {P : Program} {w : World} {f : FuncId} {K : Value → World → Prop} {x0 c0 c1 : Value} (he : enters P f = true) (h : oCall P f #[x0, c0, c1] w K) : oCallV P (.func (.func f) #[] #[c0, c1]) #[x0] w K := v_func he h
theorem v_f13 {P : Program} {w : World} {f : FuncId} {K : Value → World → Prop} {x0 c0 c1 c2 : Value} (he : enters P f = true) (h : oCall P f #[x0, c0, c1, c2] w K) : oCallV P (.func (.func f) #[] #[c0, c1, c2]) #[x0] w K := v_func he h
theorem v_f14 {P : Program} {w : World} {f : FuncId} {K : Value → World → Prop} {x0 c0 c1 c2 c3 : Value} (he : enters P f = true) (h : oCall P f #[x0, c0, c1, c2, c3] w K) : oCallV P (.func (.func f) #[] #[c0, c1, c2, c3]) #[x0] w K := v_func he h
theorem v_f20 {P : Program} {w : World} {f : FuncId} {K : Value → World → Prop} {x0 x1 : Value} (he : enters P f = true) (h : oCall P f #[x0, x1] w K) : oCallV P (.func (.func f) #[] #[]) #[x0, x1] w K := v_func he h
theorem v_f21 {P : Program} {w : World} {f : FuncId} {K : Value → World → Prop} {x0 x1 c0 : Value} (he : enters P f = true) (h : oCall P f #[x0, x1, c0] w K) : oCallV P (.func (.func f) #[] #[c0]) #[x0, x1] w K := v_func he h
theorem v_f22 {P : Program} {w : World} {f : FuncId} {K : Value → World → Prop} {x0 x1 c0 c1 : Value} (he : enters P f = true) (h : oCall P f #[x0, x1, c0, c1] w K) : oCallV P (.func (.func f) #[] #[c0, c1]) #[x0, x1] w K := v_func he h
theorem v_f23 {P : Program} {w : World} {f : FuncId} {K : Value → World → Prop} {x0 x1 c0 c1 c2 : Value} (he : enters P f = true) (h : oCall P f #[x0, x1, c0, c1, c2] w K) : oCallV P (.func (.func f) #[] #[c0, c1, c2]) #[x0, x1] w K := v_func he h
theorem v_f24 {P : Program} {w : World} {f : FuncId} {K : Value → World → Prop} {x0 x1 c0 c1 c2 c3 : Value} (he : enters P f = true) (h : oCall P f #[x0, x1, c0, c1, c2, c3] w K) : oCallV P (.func (.func f) #[] #[c0, c1, c2, c3]) #[x0, x1] w K := v_func he h
theorem v_f30 {P : Program} {w : World} {f : FuncId} {K : Value → World → Prop} {x0 x1 x2 : Value} (he : enters P f = true) (h : oCall P f #[x0, x1, x2] w K) : oCallV P (.func (.func f) #[] #[]) #[x0, x1, x2] w K := v_func he h
theorem v_f31 {P : Program} {w : World} {f : FuncId} {K : Value → World → Prop} {x0 x1 x2 c0 : Value} (he : enters P f = true) (h : oCall P f #[x0, x1, x2, c0] w K) : oCallV P (.func (.func f) #[] #[c0]) #[x0, x1, x2] w K := v_func he h
theorem v_f32 {P : Program} {w : World} {f : FuncId} {K : Value → World → Prop} {x0 x1 x2 c0 c1 : Value} (he : enters P f = true) (h : oCall P f #[x0, x1, x2, c0, c1] w K) : oCallV P (.func (.func f) #[] #[c0, c1]) #[x0, x1, x2] w K := v_func he h
theorem v_f33 {P : Program} {w : World} {f : FuncId} {K : Value → World → Prop} {x0 x1 x2 c0 c1 c2 : Value} (he : enters P f = true) (h : oCall P f #[x0, x1, x2, c0, c1, c2] w K) : oCallV P (.func (.func f) #[] #[c0, c1, c2]) #[x0, x1, x2] w K := v_func he h
theorem v_f34 {P : Program} {w : World} {f : FuncId} {K : Value → World → Prop} {x0 x1 x2 c0 c1 c2 c3 : Value} (he : enters P f = true) (h : oCall P f #[x0, x1, x2, c0, c1, c2, c3] w K) : oCallV P (.func (.func f) #[] #[c0, c1, c2, c3]) #[x0, x1, x2] w K := v_func he h
class QueAt (v : Value) (L : List Asr) (e : outParam TypeId) (sz n : outParam Nat) (xs : outParam (List Value)) (f : outParam (Asr → List Asr)) : Prop where
  h : ∃ p q, L = p ++ .que v e sz n xs :: q ∧ ∀ y, f y = p ++ y :: q
instance {v : Value} {e : TypeId} {sz n : Nat} {xs : List Value} {L : List Asr} : QueAt v (.que v e sz n xs :: L) e sz n xs fun y => y :: L := ⟨[], L, rfl, fun _ => rfl⟩
instance (priority := low) {v : Value} {e : TypeId} {sz n : Nat} {xs : List Value} {x : Asr} {L : List Asr} {f : Asr → List Asr} [h : QueAt v L e sz n xs f] : QueAt v (x :: L) e sz n xs fun y => x :: f y := ⟨by
  obtain ⟨p, q, h1, h2⟩ := h.h
  exact ⟨x :: p, q, by rw [h1]; rfl, fun c' => by rw [h2]; rfl⟩⟩
section
variable {P : Program} {X : Nat → Prop} {w0 w : World} {r : Gh} {L : List Asr} {t e : TypeId} {sz n m : Nat} {v : Value} {xs news : List Value} {g : Asr → List Asr}
theorem StX.que (S : StX X w0 r w L) (v : Value) [h : QueAt v L e sz n xs g] : Que w e sz v n xs := by
  obtain ⟨pp, qq, h2, h3⟩ := h.h
  exact S.has (.que v e sz n xs) (by rw [h2]; simp)
theorem StX.queS (S : StX X w0 r w L) (v : Value) [h : QueAt v L e sz n xs g] : ∃ p cap, v = .slice p n cap ∧ (p = none → cap = 0) ∧ n ≤ cap ∧ xs.length = n * sz ∧ Sl w p xs :=
  (S.que v (h := h)).shape
theorem StX.toQue (S : StX X w0 r w L) (v : Value) [h : RowAt v L e sz n xs g] : StX X w0 r w (g (.que v e sz n xs)) := by
  obtain ⟨pp, qq, h2, h3⟩ := h.h
  have hr := S.has (.row v e sz n xs) (by rw [h2]; simp)
  rw [h3]
  rw [h2] at S
  exact S.turn (x := .row v e sz n xs) (y := .que v e sz n xs) (ExtBut.refl _ _) (Que.of_row hr) fun k hk => .inl hk
theorem StX.apQ (S : StX X w0 r w L) {ty : TypeId} {by' cap : Nat} {a : Addr} [h : QueAt v L e sz n xs g] [z : ApT P t e sz by'] {K : Value → World → Prop}
    (hs : Sl w (some a) news) (k : ∀ v' w', StX X w0 r w' (g (.que v' e sz (n + m) (xs ++ news))) → K v' w')
    (hb : (n + m) * by' ≤ 140737488355328) (hl : news.length = m * sz := by simp) (h1 : ∀ u ∈ news, u.oneCell' = true := by simp [Value.oneCell']) : opW P w (Builtin.append_ #[t, t] ty #[v, .slice (some a) m cap]) K := by
  obtain ⟨pp, qq, h2, h3⟩ := h.h
  have hr := S.has (.que v e sz n xs) (by rw [h2]; simp)
  refine w_appendQ z.h hr hs hl h1 hb fun v' w' h4 h5 h6 => k v' w' ?_
  rw [h3]
  rw [h2] at S
  refine S.turn (x := .que v e sz n xs) (y := .que v' e sz (n + m) (xs ++ news)) h5 h4 fun j hj => ?_
  rw [Asr.dom] at hj
  rcases h6 with h6 | h6
  · rw [h6] at hj; exact .inl hj
  · rw [h6] at hj; cases hj; exact .inr (Nat.le_refl _)
/-- v[i:] -/
theorem StX.loQ (S : StX X w0 r w L) {e' : TypeId} {kd : IntKind} {i : Int} [h : QueAt v L e sz n xs g] [z : SlT P t e' sz] {K : Value → Prop}
    (h0 : 0 ≤ i) (hi : i ≤ n) (hn : 0 < n) (k : ∀ v', StX X w0 r w (g (.que v' e sz (n - i.toNat) (xs.drop (i.toNat * sz)))) → K v') : opP P (Instr.sliceAt t v (some (.int kd i)) none none) K := by
  obtain ⟨pp, qq, h2, h3⟩ := h.h
  have hr := S.has (.que v e sz n xs) (by rw [h2]; simp)
  have hr0 := hr
  rcases hr.2 with ⟨rfl, h4⟩ | ⟨gb, off, cap, c, rfl, _⟩
  · omega
  refine p_sliceLo z.h h0 hi (k _ ?_)
  rw [h3]
  rw [h2] at S
  refine S.turn (x := .que (.slice (some ⟨gb, off, none⟩) n cap) e sz n xs) (y := .que _ e sz _ _) (ExtBut.refl _ _) (Que.drop hr0 (by omega)) fun j hj => .inl ?_
  simp only [Asr.dom] at hj ⊢
  split at hj
  · exact hj
  · simp only [Option.map_some, addr_add] at hj; exact hj
end
/-- make([]T, n), T of one cell -/
theorem StX.mkS {P : Program} {X : Nat → Prop} {w0 w : World} {r : Gh} {L : List Asr} {t e : TypeId} {bytes : Nat} {kl : IntKind} {n : Int} {z : Value} (S : StX X w0 r w L) [hT : ApT P t e 1 bytes] [hz : ZrT P e [z]] {K : Value → World → Prop} (h0 : 0 ≤ n) (hb : (bytes : Int) * n ≤ 281474976710656)
    (h : ∀ b w', StX X w0 r w' (.cell b (List.replicate n.toNat z) e :: L) → K (.slice (some ⟨b, 0, none⟩) n.toNat n.toNat) w') : opW P w (Instr.makeSlice t (.int kl n) (.int kl n)) K :=
  w_make hT.h hz.h h0 hb fun b w' hb e _ B => h b w' (S.add e (by omega) B)
/-- a cell of one's own, wherever it stands, comes to stay -/
class Pull (b : Nat) (L : List Asr) (c : outParam (List Value)) (T : outParam TypeId) (M : outParam (List Asr)) : Prop where
  h : L.Perm (.cell b c T :: M)
instance {b : Nat} {c : List Value} {T : TypeId} {L : List Asr} : Pull b (.cell b c T :: L) c T L := ⟨.refl _⟩
instance (priority := low) {b : Nat} {c : List Value} {T : TypeId} {x : Asr} {L M : List Asr} [h : Pull b L c T M] : Pull b (x :: L) c T (x :: M) := ⟨(h.h.cons x).trans (.swap _ _ _)⟩
theorem StX.permO {X : Nat → Prop} {w0 w : World} {r : Gh} {L M : List Asr} (S : StX X w0 r w L) (h : M.Perm L) : StX X w0 r w M :=
  ⟨S.x, S.holds, fun x hx => S.has x (h.subset hx), fun x hx => S.mine x (h.subset hx), h.symm.pairwise S.apart fun hab k hb ha => hab k ha hb⟩
theorem StX.frzAt {X : Nat → Prop} {w0 w : World} {r : Gh} {L M : List Asr} (S : StX X w0 r w L) (b : Nat) {c : List Value} {T : TypeId} [h : Pull b L c T M] : StX X w0 (r.or (one b c T)) w M :=
  (S.permO h.h.symm).frz
/-- .. is no more looked at -/
theorem StX.drop {X : Nat → Prop} {w0 w : World} {r : Gh} {L M : List Asr} (S : StX X w0 r w L) (b : Nat) {c : List Value} {T : TypeId} [h : Pull b L c T M] : StX X w0 r w M :=
  (S.permO h.h.symm).tl
end Go.Sh
end

section
namespace Go.Proofs
open Go.Sh
set_option maxRecDepth 100000
set_option linter.unusedSimpArgs false

def i64D : TyD := .mk 1 false 0 0 []
def refD (m : Bool) (re : Int) (u : TyD) : TyD := .mk 4 m re 0 [u]
theorem c_law06_i64 {w : World} {K : Value → World → Prop} (h : ∀ v w', Ext w w' → TyG nothing v i64D → K v w') : oCall Tryd.prog Tryd.n_law06_i64 #[] w K := by
  refine Tryd.ok_law06_i64 ?_
  unfold Tryd.F_law06_i64
  have S := St.start (r := nothing) (w := w) (fun _ _ h => h.elim)
  refine S.al fun b2 w1 S => ?_
  (first | refine s_p ?_ | refine s_c (by omega) ?_)
  refine S.stB fun w2 S => ?_
  (repeat (first | refine s_p ?_ | refine s_c (by omega) ?_ | refine S.ld ?_ | refine S.ldB ?_ | refine S.ce ?_ | refine S.ceB ?_ | refine s_q ?_ | refine s_qc (by omega) ?_ | refine n_some ?_ | rw [List.getD_cons_zero] | rw [List.getD_cons_succ]))
  exact h _ _ S.ext ty_leaf
theorem c_law06_ref {m : Bool} {re : Int} {u : TyD} {v : Value} {w : World} {r : Gh} {K : Value → World → Prop} (hr : Holds r w) (hv : TyG r v u)
    (h : ∀ v' sn w', Ext w w' → New w sn w' → TyG (r.or sn) v' (refD m re u) → K v' w') : oCall Tryd.prog Tryd.n_law06_ref #[.bool m, .int .i64 re, v] w K := by
  refine Tryd.ok_law06_ref ?_
  unfold Tryd.F_law06_ref
  have hv0 := hv
  obtain ⟨p, cap, rfl, _⟩ := hv
  have S := St.start hr
  refine S.box fun b2 w1 S => ?_
  refine S.al fun b3 w2 S => ?_
  (repeat (first | refine s_p ?_ | refine s_c (by omega) ?_ | refine S.ld ?_ | refine S.ldB ?_ | refine S.ce ?_ | refine S.ceB ?_ | refine s_q ?_ | refine s_qc (by omega) ?_ | refine n_some ?_ | rw [List.getD_cons_zero] | rw [List.getD_cons_succ]))
  have esz := S.ext.size
  refine w_lit (e := 25) (cs := [.int .u8 u.k, .bool u.m, .int .i64 u.re, .int .i64 u.st, .slice p u.of.length cap]) (by kernel_rfl) fun b9 w9 hb9 e9 _ B9 => ?_
  have S := S.add e9 (by omega) B9
  have S := S.frz
  (first | refine s_p ?_ | refine s_c (by omega) ?_)
  refine S.stB fun w10 S => ?_
  (repeat (first | refine s_p ?_ | refine s_c (by omega) ?_ | refine S.ld ?_ | refine S.ldB ?_ | refine S.ce ?_ | refine S.ceB ?_ | refine s_q ?_ | refine s_qc (by omega) ?_ | refine n_some ?_ | rw [List.getD_cons_zero] | rw [List.getD_cons_succ]))
  refine h _ (one b9 [.int .u8 u.k, .bool u.m, .int .i64 u.re, .int .i64 u.st, .slice p u.of.length cap] 25) _ S.ext ⟨S.holds.le (h := inferInstance), ?_⟩ (ty_one hv0)
  rintro b o ⟨rfl, _⟩
  omega
end Go.Proofs
end

section
namespace Go.Proofs
open Go.Sh
set_option maxRecDepth 100000
set_option linter.unusedSimpArgs false

def awA : TyD := refD true 0 (refD false 1 i64D)
def awB : TyD := refD true 2 (refD false 3 i64D)
def awS : List UInt8 := [38, 39, 48, 32, 109, 117, 116, 32, 38, 39, 49, 32, 105, 54, 52]
theorem aw_asks : asksT awA awB = ([(0, 2), (1, 3), (3, 1)], 0) := by decide +kernel
theorem aw_text : textT awA = (awS, 0) := by decide +kernel
theorem aw_read : readT awS = (awA, 0, 0) := by rfl
theorem aw_look : lookB 0 48 awA = true := by decide +kernel
theorem aw_same : alikeT fEq awA awA = true := by decide +kernel
theorem aw_copies : copiesB awA = false := by decide +kernel
theorem c_law06_awake {w : World} {K : Value → World → Prop} (h : ∀ w', Ext w w' → K (.bool true) w') : oCall Tryd.prog Tryd.n_law06_awake #[] w K := by
  refine Tryd.ok_law06_awake ?_
  unfold Tryd.F_law06_awake
  have S := St.start (r := nothing) (w := w) (fun _ _ h => h.elim)
  refine c_law06_i64 fun v1 w1 e1 h1 => ?_
  have S := S.go e1
  refine c_law06_ref S.holds h1 fun v2 s2 w2 e2 n2 h2 => ?_
  have S := S.new e2 n2
  refine c_law06_ref S.holds h2 fun v3 s3 w3 e3 n3 h3 => ?_
  have S := S.new e3 n3
  have h3' := h3
  obtain ⟨p3, cap3, rfl, _⟩ := h3
  refine S.al fun b1 w4 S => ?_
  refine S.stB fun w5 S => ?_
  have S := S.go (Ext.drew _)
  (repeat (first | refine s_p ?_ | refine s_c (by omega) ?_ | refine S.ld ?_ | refine S.ldB ?_ | refine S.ce ?_ | refine S.ceB ?_ | refine s_q ?_ | refine s_qc (by omega) ?_ | refine n_some ?_ | rw [List.getD_cons_zero] | rw [List.getD_cons_succ]))
  refine c_law06_i64 fun v6 w6 e6 h6 => ⟨e6, ?_⟩
  have S := S.go e6
  refine c_law06_ref S.holds (h6.up (l := inferInstance)) fun v7 s7 w7 e7 n7 h7 => ⟨e7, ?_⟩
  have S := S.new e7 n7
  refine c_law06_ref S.holds h7 fun v8 s8 w8 e8 n8 h8 => ⟨e8, ?_⟩
  have S := S.new e8 n8
  have hA := h3'.up (s := ((((nothing.or s2).or s3).or s7).or s8))
  refine c_types_Asks S.holds hA h8 fun v9 w9 e9 o9 => ?_
  rw [show asksT (refD true 0 (refD false 1 i64D)) (refD true 2 (refD false 3 i64D)) = ([(0, 2), (1, 3), (3, 1)], 0) from aw_asks] at o9 ⊢
  have S := S.take e9 o9
  obtain ⟨p9, cap9, rfl, hp9, _, _, _⟩ := S.rowS v9
  (repeat (first | refine s_p ?_ | refine s_c (by omega) ?_ | refine S.ld ?_ | refine S.ldB ?_ | refine S.ce ?_ | refine S.ceB ?_ | refine s_q ?_ | refine s_qc (by omega) ?_ | refine n_some ?_ | rw [List.getD_cons_zero] | rw [List.getD_cons_succ]))
  have hI : NumsOK ((((nothing.or s2).or s3).or s7).or s8) awA := by
    intro u hu
    have hu : u = awA ∨ u = refD false 1 i64D ∨ u = i64D := by
      have e : awA.chain = [awA, refD false 1 i64D, i64D] := rfl
      rw [e] at hu; simpa using hu
    rcases hu with rfl | rfl | rfl
    · exact ⟨fun _ => itoa_ok_small (by decide) (by decide), fun _ => itoa_ok_small (by decide) (by decide)⟩
    · exact ⟨fun _ => itoa_ok_small (by decide) (by decide), fun _ => itoa_ok_small (by decide) (by decide)⟩
    · exact ⟨fun _ => itoa_ok_small (by decide) (by decide), fun _ => itoa_ok_small (by decide) (by decide)⟩
  refine c_types_Text S.holds hA hI fun w10 e10 => ?_
  rw [show textT (refD true 0 (refD false 1 i64D)) = (awS, 0) from aw_text]
  have S := S.go e10
  (repeat (first | refine s_p ?_ | refine s_c (by omega) ?_ | refine S.ld ?_ | refine S.ldB ?_ | refine S.ce ?_ | refine S.ceB ?_ | refine s_q ?_ | refine s_qc (by omega) ?_ | refine n_some ?_ | rw [List.getD_cons_zero] | rw [List.getD_cons_succ]))
  refine c_types_Read (s := awS) S.holds (by decide) fun v11 s11 w11 e11 n11 h11 _ => ?_
  rw [aw_read] at h11 ⊢
  have S := S.new e11 n11
  have h11' := h11
  obtain ⟨p11, cap11, rfl, _⟩ := h11
  (repeat (first | refine s_p ?_ | refine s_c (by omega) ?_ | refine S.ld ?_ | refine S.ldB ?_ | refine S.ce ?_ | refine S.ceB ?_ | refine s_q ?_ | refine s_qc (by omega) ?_ | refine n_some ?_ | rw [List.getD_cons_zero] | rw [List.getD_cons_succ]))
  refine S.al fun b12 w12 S => ?_
  refine S.stB fun w13 S => ?_
  (repeat (first | refine s_p ?_ | refine s_c (by omega) ?_ | refine S.ld ?_ | refine S.ldB ?_ | refine S.ce ?_ | refine S.ceB ?_ | refine s_q ?_ | refine s_qc (by omega) ?_ | refine n_some ?_ | rw [List.getD_cons_zero] | rw [List.getD_cons_succ]))
  refine c_types_Words_none S.holds hA.up fun w14 e14 => ?_
  rw [show lookB 0 48 (refD true 0 (refD false 1 i64D)) = true from aw_look, if_pos rfl]
  have S := S.go e14
  (repeat (first | refine s_p ?_ | refine s_c (by omega) ?_ | refine S.ld ?_ | refine S.ldB ?_ | refine S.ce ?_ | refine S.ceB ?_ | refine s_q ?_ | refine s_qc (by omega) ?_ | refine n_some ?_ | rw [List.getD_cons_zero] | rw [List.getD_cons_succ]))
  refine j_bandH (c := true) (fun _ K2 hK2 => ?_) ?_
  · (repeat (first | refine s_p ?_ | refine s_c (by omega) ?_ | refine S.ld ?_ | refine S.ldB ?_ | refine S.ce ?_ | refine S.ceB ?_ | refine s_q ?_ | refine s_qc (by omega) ?_ | refine n_some ?_ | rw [List.getD_cons_zero] | rw [List.getD_cons_succ]))
    exact hK2
  refine j_bandH (c := true) (fun _ K2 hK2 => ?_) ?_
  · obtain ⟨_, _, hv, _, _, _, hs⟩ := S.rowS (.slice p9 3 cap9)
    cases hv
    obtain ⟨b9, off9, rfl, _⟩ := hs.at (i := 0) (by decide)
    refine s_c ⟨by decide, by decide⟩ ?_
    refine s_ldN (n := 2) (c := [.int .i64 3, .int .i64 1]) rfl (fun j v hj => ?_) ?_
    · have hx : (cons2 [(0, 2), (1, 3), (3, 1)])[4 + j]? = some v := by
        rw [← hj]
        show ([.int .i64 0, .int .i64 2, .int .i64 1, .int .i64 3, .int .i64 3, .int .i64 1] : List Value)[4 + j]? = _
        rw [Nat.add_comm]; rfl
      obtain ⟨b, off, hp, hc⟩ := hs _ _ hx
      cases hp
      rw [← hc]; congr 2; simp; omega
    (repeat (first | refine s_p ?_ | refine s_c (by omega) ?_ | refine S.ld ?_ | refine S.ldB ?_ | refine S.ce ?_ | refine S.ceB ?_ | refine s_q ?_ | refine s_qc (by omega) ?_ | refine n_some ?_ | rw [List.getD_cons_zero] | rw [List.getD_cons_succ]))
    exact hK2
  refine j_bandH (c := true) (fun _ K2 hK2 => ?_) ?_
  · (repeat (first | refine s_p ?_ | refine s_c (by omega) ?_ | refine S.ld ?_ | refine S.ldB ?_ | refine S.ce ?_ | refine S.ceB ?_ | refine s_q ?_ | refine s_qc (by omega) ?_ | refine n_some ?_ | rw [List.getD_cons_zero] | rw [List.getD_cons_succ]))
    exact hK2
  refine j_bandH (c := true) (fun _ K2 hK2 => ?_) ?_
  · (repeat (first | refine s_p ?_ | refine s_c (by omega) ?_ | refine S.ld ?_ | refine S.ldB ?_ | refine S.ce ?_ | refine S.ceB ?_ | refine s_q ?_ | refine s_qc (by omega) ?_ | refine n_some ?_ | rw [List.getD_cons_zero] | rw [List.getD_cons_succ]))
    exact hK2
  refine j_bandH (c := true) (fun _ K2 hK2 => ?_) ?_
  · (repeat (first | refine s_p ?_ | refine s_c (by omega) ?_ | refine S.ld ?_ | refine S.ldB ?_ | refine S.ce ?_ | refine S.ceB ?_ | refine s_q ?_ | refine s_qc (by omega) ?_ | refine n_some ?_ | rw [List.getD_cons_zero] | rw [List.getD_cons_succ]))
    exact hK2
  refine j_bandH (c := true) (fun _ K2 hK2 => ?_) ?_
  · (repeat (first | refine s_p ?_ | refine s_c (by omega) ?_ | refine S.ld ?_ | refine S.ldB ?_ | refine S.ce ?_ | refine S.ceB ?_ | refine s_q ?_ | refine s_qc (by omega) ?_ | refine n_some ?_ | rw [List.getD_cons_zero] | rw [List.getD_cons_succ]))
    exact hK2
  refine j_bandE (c := true) (fun _ K2 hK2 => ?_) fun w15 e15 => ?_
  · (repeat (first | refine s_p ?_ | refine s_c (by omega) ?_ | refine S.ld ?_ | refine S.ldB ?_ | refine S.ce ?_ | refine S.ceB ?_ | refine s_q ?_ | refine s_qc (by omega) ?_ | refine n_some ?_ | rw [List.getD_cons_zero] | rw [List.getD_cons_succ]))
    refine c_types_Same S.holds (a := awA) (b := awA) h11'.up hA.up fun w16 e16 => ?_
    rw [aw_same]
    exact hK2 _ e16
  have S := S.go e15
  refine j_bandH (c := true) (fun _ K2 hK2 => ?_) ?_
  · (repeat (first | refine s_p ?_ | refine s_c (by omega) ?_ | refine S.ld ?_ | refine S.ldB ?_ | refine S.ce ?_ | refine S.ceB ?_ | refine s_q ?_ | refine s_qc (by omega) ?_ | refine n_some ?_ | rw [List.getD_cons_zero] | rw [List.getD_cons_succ]))
    exact hK2
  refine j_bandH (c := true) (fun _ K2 hK2 => ?_) ?_
  · (repeat (first | refine s_p ?_ | refine s_c (by omega) ?_ | refine S.ld ?_ | refine S.ldB ?_ | refine S.ce ?_ | refine S.ceB ?_ | refine s_q ?_ | refine s_qc (by omega) ?_ | refine n_some ?_ | rw [List.getD_cons_zero] | rw [List.getD_cons_succ]))
    exact hK2
  refine j_bandE (c := true) (fun _ K2 hK2 => ?_) fun w17 e17 => ?_
  · (repeat (first | refine s_p ?_ | refine s_c (by omega) ?_ | refine S.ld ?_ | refine S.ldB ?_ | refine S.ce ?_ | refine S.ceB ?_ | refine s_q ?_ | refine s_qc (by omega) ?_ | refine n_some ?_ | rw [List.getD_cons_zero] | rw [List.getD_cons_succ]))
    refine c_types_May_none S.holds hA.up fun w16 e16 => ?_
    rw [show lookB 0 48 (refD true 0 (refD false 1 i64D)) = true from aw_look]
    exact hK2 _ e16
  have S := S.go e17
  refine j_bandE (c := true) (fun _ K2 hK2 => ?_) fun w18 e18 => ?_
  · (repeat (first | refine s_p ?_ | refine s_c (by omega) ?_ | refine S.ld ?_ | refine S.ldB ?_ | refine S.ce ?_ | refine S.ceB ?_ | refine s_q ?_ | refine s_qc (by omega) ?_ | refine n_some ?_ | rw [List.getD_cons_zero] | rw [List.getD_cons_succ]))
    refine c_types_Copies S.holds hA.up fun w16 e16 => ?_
    rw [show copiesB (refD true 0 (refD false 1 i64D)) = false from aw_copies]
    (first | refine s_p ?_ | refine s_c (by omega) ?_)
    exact hK2 _ e16
  exact h _ (S.go e18).ext
end Go.Proofs
end

section
namespace Go.Proofs
open Go.Sh
set_option maxRecDepth 100000
set_option linter.unusedSimpArgs false

/-- a pair of a row, to be read -/
theorem pair_at {w : World} {p : Option Addr} {l : List (Int × Int)} (h : Sl w p (cons2 l)) {i : Nat} (hi : i < l.length) :
    ∃ b off, p = some ⟨b, off, none⟩ ∧ ∀ j v, ([.int .i64 l[i].1, .int .i64 l[i].2] : List Value)[j]? = some v → w.cell? ⟨b, off + i * 2 + j, none⟩ = some v := by
  have hx : ∀ (l : List (Int × Int)) (i : Nat) (hi : i < l.length) (j : Nat) (v : Value), ([.int .i64 l[i].1, .int .i64 l[i].2] : List Value)[j]? = some v → (cons2 l)[i * 2 + j]? = some v := by
    intro l
    induction l with
    | nil => intro i hi; cases hi
    | cons p l ih =>
      intro i hi j v hj
      rw [show cons2 (p :: l) = [.int .i64 p.1, .int .i64 p.2] ++ cons2 l from rfl]
      cases i with
      | zero =>
        have hj2 : j < 2 := (List.getElem?_eq_some_iff.1 hj).1
        rw [Nat.zero_mul, Nat.zero_add, List.getElem?_append_left (by simpa using hj2)]
        exact hj
      | succ i =>
        rw [List.getElem?_append_right (by simp; omega)]
        have := ih i (by simpa using hi) j v hj
        rw [← this]; congr 1; simp; omega
  have h0 := hx l i hi 0 _ rfl
  obtain ⟨b, off, rfl, _⟩ := h _ _ h0
  refine ⟨b, off, rfl, fun j v hj => ?_⟩
  obtain ⟨b', off', hp, hc⟩ := h _ _ (hx l i hi j v hj)
  cases hp
  rw [← hc, Nat.add_assoc]
/-- an element of a row of one's own is written over -/
theorem _root_.Go.Sh.StX.stRow {P : Program} {X : Nat → Prop} {w0 w : World} {r : Gh} {L : List Asr} {e t : TypeId} {sz n cap b i : Nat} {xs : List Value} {f : Asr → List Asr} {cs : Array Value} {K : World → Prop} (S : StX X w0 r w L)
    [h : RowAt (.slice (some ⟨b, 0, none⟩) n cap) L e sz n xs f] [z : SzT P t sz] (hi : i < n) (k : ∀ w', StX X w0 r w' (f (.row (.slice (some ⟨b, 0, none⟩) n cap) e sz n (xs.take (i * sz) ++ cs.toList ++ xs.drop (i * sz + sz)))) → K w')
    (hcs : cs.size = sz := by rfl) (h1 : ∀ u ∈ cs.toList, u.oneCell' = true := by simp [Value.oneCell']) : opU P w (Instr.storeAt t (.pointer (some ⟨b, i * sz, none⟩)) (.agg cs)) K := by
  obtain ⟨pp, qq, h2, h3⟩ := h.h
  have hr := S.has (.row (.slice (some ⟨b, 0, none⟩) n cap) e sz n xs) (by rw [h2]; simp)
  rcases own_blk hr with ⟨h0, _⟩ | ⟨g, cap', c, hv, hb, B, hn, hm, hc, ht⟩
  · cases h0
  cases hv
  have hle : i * sz + sz ≤ n * sz := by rw [← Nat.succ_mul]; exact Nat.mul_le_mul_right _ hi
  have hle2 : n * sz ≤ cap * sz := Nat.mul_le_mul_right _ hn
  refine w_store (v := .agg cs) (by rw [show (Value.agg cs).cells.size = sz from hcs]; exact z.h) B (by rw [show (Value.agg cs).cells.size = sz from hcs]; omega) h1 fun w' x _ B' => k w' ?_
  rw [show (Value.agg cs).cells.size = sz from hcs, show (Value.agg cs).cells = cs from rfl] at B'
  rw [h3]
  rw [h2] at S
  refine S.turn (x := .row (.slice (some ⟨b, 0, none⟩) n cap) e sz n xs) (y := .row (.slice (some ⟨b, 0, none⟩) n cap) e sz n (xs.take (i * sz) ++ cs.toList ++ xs.drop (i * sz + sz))) ⟨x.os, x.tape, x.output, x.size, fun k hk hn => x.block k hk fun he => hn (by subst he; rfl)⟩ ?_ fun k hk => .inl hk
  have hcl : cs.toList.length = sz := by simpa using hcs
  have := own_of_blk (base := 0) (size := sz) (n := n) (cap := cap) (Nat.zero_le _) B' hn hm (by simp only [List.length_append, List.length_take, List.length_drop, hcl, hc]; omega)
  have he : (c.take (i * sz) ++ cs.toList ++ c.drop (i * sz + sz)).take (n * sz) = xs.take (i * sz) ++ cs.toList ++ xs.drop (i * sz + sz) := by
    rw [← ht, List.take_take, Nat.min_eq_left (by omega), List.take_append, List.take_of_length_le (by simp only [List.length_append, List.length_take, hcl, hc]; omega), List.drop_take]
    congr 2
    simp only [List.length_append, List.length_take, hcl, hc]
    omega
  rw [he] at this
  exact this
/-- a row of one's own that is not empty begins at the head of its block -/
theorem _root_.Go.Sh.StX.row0 {X : Nat → Prop} {w0 w : World} {r : Gh} {L : List Asr} {e : TypeId} {sz n cap : Nat} {p : Option Addr} {xs : List Value} {f : Asr → List Asr} (S : StX X w0 r w L)
    (_ : True) [h : RowAt (.slice p n cap) L e sz n xs f] (hn : n ≠ 0) : ∃ b, p = some ⟨b, 0, none⟩ := by
  obtain ⟨b, cap', c, hv, _⟩ := S.rowCell (.slice p n cap) hn
  cases hv
  exact ⟨b, rfl⟩
/-- the pairs from i on stay as they were when the one at i is written over -/
theorem cons2_set : ∀ (m : List (Int × Int)) (i : Nat) (x y : Int), i < m.length → (cons2 m).take (i * 2) ++ [.int .i64 x, .int .i64 y] ++ (cons2 m).drop (i * 2 + 2) = cons2 (m.set i (x, y)) := by
  intro m
  induction m with
  | nil => intro i x y h; cases h
  | cons p m ih =>
    intro i x y h
    cases i with
    | zero => rfl
    | succ i =>
      have := ih i x y (by simpa using h)
      rw [show cons2 (p :: m) = .int .i64 p.1 :: .int .i64 p.2 :: cons2 m from rfl, show (i + 1) * 2 = i * 2 + 1 + 1 by omega, List.set_cons_succ, show cons2 (p :: m.set i (x, y)) = .int .i64 p.1 :: .int .i64 p.2 :: cons2 (m.set i (x, y)) from rfl, ← this]
      simp [show i * 2 + 1 + 1 + 2 = (i * 2 + 2) + 1 + 1 by omega]
theorem j_borX {w : World} {A : (List Value → World → Prop) → Prop} {Z : Value → World → Prop} {b : Bool} (hA : b = false → ∀ K : List Value → World → Prop, (∀ c w', Ext w w' → K [.bool c] w') → A K) (hZ : ∀ c w', Ext w w' → Z (.bool c) w') :
    sJoin (fun K => gIf (.bool b) false (A K) (K [undef] w)) fun s _ w' => oPick (.bool b) (.bool true) (s.getD 0 undef) fun t => Z t w' := by
  intro K hK
  cases b with
  | true => exact hK _ _ fun _ => ⟨true, rfl, by simpa using hZ true w (.refl w)⟩
  | false => exact hA rfl K fun c w' e => hK _ _ fun _ => ⟨false, rfl, by simpa using hZ c w' e⟩
theorem c_law06_TypesAsk {a b : TyD} {w : World} {r : Gh} {va vb : Value} {K : Value → World → Prop} (hr : Holds r w) (ha : TyG r va a) (hb : TyG r vb b)
    (h : ∀ w', Ext w w' → K (.bool true) w') : oCall Tryd.prog Tryd.n_law06_TypesAsk #[va, vb] w K := by
  refine Tryd.ok_law06_TypesAsk ?_
  unfold Tryd.F_law06_TypesAsk
  have ha0 := ha; have hb0 := hb
  obtain ⟨p, cap, rfl, _⟩ := ha
  obtain ⟨q, cap', rfl, _⟩ := hb
  have S := St.start hr
  refine S.box fun b2 w1 S => ?_
  refine S.box fun b3 w2 S => ?_
  (repeat (first | refine s_p ?_ | refine s_c (by omega) ?_ | refine S.ld ?_ | refine S.ldB ?_ | refine S.ce ?_ | refine S.ceB ?_ | refine s_q ?_ | refine s_qc (by omega) ?_ | refine n_some ?_ | rw [List.getD_cons_zero] | rw [List.getD_cons_succ]))
  refine c_law06_typeFits 60 (by decide) (by decide) (by decide) S.holds ha0 fun x w3 e3 => ?_
  have S := S.go e3
  (repeat (first | refine s_p ?_ | refine s_c (by omega) ?_ | refine S.ld ?_ | refine S.ldB ?_ | refine S.ce ?_ | refine S.ceB ?_ | refine s_q ?_ | refine s_qc (by omega) ?_ | refine n_some ?_ | rw [List.getD_cons_zero] | rw [List.getD_cons_succ]))
  refine j_borX (fun _ K2 hK2 => ?_) fun y w4 e4 => ?_
  · (repeat (first | refine s_p ?_ | refine s_c (by omega) ?_ | refine S.ld ?_ | refine S.ldB ?_ | refine S.ce ?_ | refine S.ceB ?_ | refine s_q ?_ | refine s_qc (by omega) ?_ | refine n_some ?_ | rw [List.getD_cons_zero] | rw [List.getD_cons_succ]))
    refine c_law06_typeFits 60 (by decide) (by decide) (by decide) S.holds hb0 fun x w3 e3 => ?_
    (first | refine s_p ?_ | refine s_c (by omega) ?_)
    exact hK2 _ _ e3
  have S := S.go e4
  refine c_b (fun _ => ?_) (fun _ => ?_)
  · exact c_law06_awake fun w5 e5 => h _ (S.go e5).ext
  (repeat (first | refine s_p ?_ | refine s_c (by omega) ?_ | refine S.ld ?_ | refine S.ldB ?_ | refine S.ce ?_ | refine S.ceB ?_ | refine s_q ?_ | refine s_qc (by omega) ?_ | refine n_some ?_ | rw [List.getD_cons_zero] | rw [List.getD_cons_succ]))
  refine c_types_Asks S.holds ha0 hb0 fun v5 w5 e5 o5 => ?_
  have S := S.take e5 o5
  obtain ⟨p5, cap5, rfl, hp5, hc5, _, _⟩ := S.rowS v5
  (repeat (first | refine s_p ?_ | refine s_c (by omega) ?_ | refine S.ld ?_ | refine S.ldB ?_ | refine S.ce ?_ | refine S.ceB ?_ | refine s_q ?_ | refine s_qc (by omega) ?_ | refine n_some ?_ | rw [List.getD_cons_zero] | rw [List.getD_cons_succ]))
  refine c_types_Asks S.holds ha0 hb0 fun v6 w6 e6 o6 => ?_
  have S := S.take e6 o6
  obtain ⟨p6, cap6, rfl, hp6, hc6, _, _⟩ := S.rowS v6
  (repeat (first | refine s_p ?_ | refine s_c (by omega) ?_ | refine S.ld ?_ | refine S.ldB ?_ | refine S.ce ?_ | refine S.ceB ?_ | refine s_q ?_ | refine s_qc (by omega) ?_ | refine n_some ?_ | rw [List.getD_cons_zero] | rw [List.getD_cons_succ]))
  refine c_ref06_Asks S.holds ha0 hb0 fun v7 w7 e7 o7 => ?_
  have S := S.take e7 o7
  obtain ⟨p7, cap7, rfl, hp7, hc7, _, _⟩ := S.rowS v7
  have hlen := asksT_len (a := a) (b := b)
  generalize asksT a b = R at *
  obtain ⟨l, e⟩ := R
  simp only at S hlen o5 o6 o7 hc5 hc6 hc7 ⊢
  (repeat (first | refine s_p ?_ | refine s_c (by omega) ?_ | refine S.ld ?_ | refine S.ldB ?_ | refine S.ce ?_ | refine S.ceB ?_ | refine s_q ?_ | refine s_qc (by omega) ?_ | refine n_some ?_ | rw [List.getD_cons_zero] | rw [List.getD_cons_succ]))
  refine j_borH (c := false) (fun _ K2 hK2 => ?_) ?_
  · (repeat (first | refine s_p ?_ | refine s_c (by omega) ?_ | refine S.ld ?_ | refine S.ldB ?_ | refine S.ce ?_ | refine S.ceB ?_ | refine s_q ?_ | refine s_qc (by omega) ?_ | refine n_some ?_ | rw [List.getD_cons_zero] | rw [List.getD_cons_succ]))
    simpa using hK2
  refine j_borH (c := false) (fun _ K2 hK2 => ?_) ?_
  · (repeat (first | refine s_p ?_ | refine s_c (by omega) ?_ | refine S.ld ?_ | refine S.ldB ?_ | refine S.ce ?_ | refine S.ceB ?_ | refine s_q ?_ | refine s_qc (by omega) ?_ | refine n_some ?_ | rw [List.getD_cons_zero] | rw [List.getD_cons_succ]))
    simpa using hK2
  refine j_borH (c := false) (fun _ K2 hK2 => ?_) ?_
  · (repeat (first | refine s_p ?_ | refine s_c (by omega) ?_ | refine S.ld ?_ | refine S.ldB ?_ | refine S.ce ?_ | refine S.ceB ?_ | refine s_q ?_ | refine s_qc (by omega) ?_ | refine n_some ?_ | rw [List.getD_cons_zero] | rw [List.getD_cons_succ]))
    simpa using hK2
  refine c_f (by simp) ?_
  refine l_intro (ι := Nat × List (Int × Int)) (fun i => [.int .i64 i.1])
    (fun i w' => i.1 ≤ l.length ∧ i.2.length = l.length ∧ (∀ k, i.1 ≤ k → i.2[k]? = l[k]?) ∧ StX noX w r w' [.row (.slice p7 l.length cap7) 35 2 l.length (cons2 l), .row (.slice p6 l.length cap6) 35 2 l.length (cons2 l), .row (.slice p5 l.length cap5) 35 2 l.length (cons2 i.2),
      .cell b3 (Value.agg #[.int .u8 b.k, .bool b.m, .int .i64 b.re, .int .i64 b.st, .slice q b.of.length cap']).cells.toList 25, .cell b2 (Value.agg #[.int .u8 a.k, .bool a.m, .int .i64 a.re, .int .i64 a.st, .slice p a.of.length cap]).cells.toList 25])
    (fun i => l.length - i.1) (0, l) rfl ⟨Nat.zero_le _, rfl, fun _ _ => rfl, S⟩ ?_
  clear S
  rintro ⟨i, m⟩ d w8 ⟨hi, hm, hmk, S⟩ K6 hK6
  simp only at hi hm hmk S ⊢
  rw [List.getD_cons_zero]
  (repeat (first | refine s_p ?_ | refine s_c (by omega) ?_ | refine S.ld ?_ | refine S.ldB ?_ | refine S.ce ?_ | refine S.ceB ?_ | refine s_q ?_ | refine s_qc (by omega) ?_ | refine n_some ?_ | rw [List.getD_cons_zero] | rw [List.getD_cons_succ]))
  refine c_b (fun hlt => ?_) (fun hge => ?_)
  · have hlt : i < l.length := by simpa using hlt
    have S := S.go (Ext.drew _)
    have hmi : m[i]? = l[i]? := hmk i (Nat.le_refl _)
    have hmi' : m[i]'(by omega) = l[i] := by
      rw [List.getElem?_eq_getElem (by omega), List.getElem?_eq_getElem hlt] at hmi
      exact Option.some.inj hmi
    obtain ⟨b5, rfl⟩ := S.row0 (p := p5) (n := l.length) (cap := cap5) trivial (by omega)
    obtain ⟨_, _, hv, _, _, _, h5⟩ := S.rowS (.slice (some ⟨b5, 0, none⟩) l.length cap5)
    cases hv
    obtain ⟨_, _, hv, _, _, _, h7⟩ := S.rowS (.slice p7 l.length cap7)
    cases hv
    obtain ⟨_, _, hv, h5⟩ := pair_at h5 (i := i) (by omega)
    cases hv
    obtain ⟨b7, o7, rfl, k7⟩ := pair_at h7 hlt
    rw [hmi'] at h5
    refine s_c (by omega) ?_
    refine s_ldN (n := 2) rfl (fun j v hj => by rw [Int.toNat_natCast]; exact h5 j v hj) ?_
    refine s_c (by omega) ?_
    refine s_ldN (n := 2) rfl (fun j v hj => by rw [Int.toNat_natCast]; exact k7 j v hj) ?_
    refine s_q ?_
    refine c_f (by simp) ?_
    refine p_build (cs := #[.int .i64 (-9), .int .i64 0]) (by kernel_rfl) ?_
    refine s_c (by omega) ?_
    rw [Int.toNat_natCast, Nat.zero_add]
    refine S.stRow (cap := cap5) hlt fun w9 S => ?_
    refine s_c (by omega) ?_
    rw [show ((i : Int) + 1) = ((i + 1 : Nat) : Int) by omega]
    rw [cons2_set m i _ _ (by omega)] at S
    refine hK6 (i + 1, m.set i (-9, 0)) _ ⟨hlt, by simpa using hm, fun k hk => ?_, S⟩ (by simp only; omega)
    rw [List.getElem?_set_ne (by omega)]
    exact hmk k (by omega)
  refine l_intro (ι := Nat) (fun i => [.int .i64 i])
    (fun i w' => i ≤ l.length ∧ StX noX w r w' [.row (.slice p7 l.length cap7) 35 2 l.length (cons2 l), .row (.slice p6 l.length cap6) 35 2 l.length (cons2 l), .row (.slice p5 l.length cap5) 35 2 l.length (cons2 m),
      .cell b3 (Value.agg #[.int .u8 b.k, .bool b.m, .int .i64 b.re, .int .i64 b.st, .slice q b.of.length cap']).cells.toList 25, .cell b2 (Value.agg #[.int .u8 a.k, .bool a.m, .int .i64 a.re, .int .i64 a.st, .slice p a.of.length cap]).cells.toList 25])
    (fun i => l.length - i) 0 rfl ⟨Nat.zero_le _, S⟩ ?_
  clear S hi hmk hge
  rintro i d w8 ⟨hi, S⟩ K6 hK6
  rw [List.getD_cons_zero]
  (repeat (first | refine s_p ?_ | refine s_c (by omega) ?_ | refine S.ld ?_ | refine S.ldB ?_ | refine S.ce ?_ | refine S.ceB ?_ | refine s_q ?_ | refine s_qc (by omega) ?_ | refine n_some ?_ | rw [List.getD_cons_zero] | rw [List.getD_cons_succ]))
  refine c_b (fun hlt => ?_) (fun hge => ?_)
  · have hlt : i < l.length := by simpa using hlt
    have S := S.go (Ext.drew _)
    obtain ⟨_, _, hv, _, _, _, h6⟩ := S.rowS (.slice p6 l.length cap6)
    cases hv
    obtain ⟨_, _, hv, _, _, _, h7⟩ := S.rowS (.slice p7 l.length cap7)
    cases hv
    obtain ⟨b6, o6, rfl, k6⟩ := pair_at h6 hlt
    obtain ⟨b7, o7, rfl, k7⟩ := pair_at h7 hlt
    refine s_c (by omega) ?_
    refine s_ldN (n := 2) rfl (fun j v hj => by rw [Int.toNat_natCast]; exact k6 j v hj) ?_
    refine s_c (by omega) ?_
    refine s_ldN (n := 2) rfl (fun j v hj => by rw [Int.toNat_natCast]; exact k7 j v hj) ?_
    refine s_q ?_
    refine c_f (by simp) ?_
    refine s_c (by omega) ?_
    rw [show ((i : Int) + 1) = ((i + 1 : Nat) : Int) by omega]
    exact hK6 (i + 1) _ ⟨hlt, S⟩ (by omega)
  exact c_law06_awake fun w5 e5 => h _ (S.go e5).ext
end Go.Proofs
end

section
namespace Go.Proofs
open Go.Shelf
def Tryd.lays171_ren : Go.Shelf.Ren := ⟨fun | 171 => 88 | 243 => 99 | 246 => 101 | 283 => 103 | 284 => 104 | 285 => 105 | 286 => 106 | 129 => 108 | 317 => 107 | 318 => 109 | 319 => 110 | 320 => 111 | 337 => 112 | 338 => 113 | n => n, fun | 3 => 3 | 9 => 9 | 2 => 2 | 4 => 4 | 171 => 129 | 0 => 0 | 53 => 123 | 37 => 131 | 5 => 5 | 173 => 132 | 212 => 135 | 51 => 136 | 20 => 20 | 213 => 137 | 46 => 138 | 232 => 141 | 233 => 142 | n => n, fun | 17 => 0 | 18 => 1 | 19 => 2 | n => n⟩
theorem Tryd.lays171 : Go.Proofs.LaysM.n171 Tryd.prog Tryd.lays171_ren := {
  mixed := by kernel_rfl
  f129 := Tryd.func108.trans (congrArg some (by kernel_rfl))
  f171 := Tryd.func88.trans (congrArg some (by kernel_rfl))
  f243 := Tryd.func99.trans (congrArg some (by kernel_rfl))
  f246 := Tryd.func101.trans (congrArg some (by kernel_rfl))
  f283 := Tryd.func103.trans (congrArg some (by kernel_rfl))
  f284 := Tryd.func104.trans (congrArg some (by kernel_rfl))
  f285 := Tryd.func105.trans (congrArg some (by kernel_rfl))
  f286 := Tryd.func106.trans (congrArg some (by kernel_rfl))
  f317 := Tryd.func107.trans (congrArg some (by kernel_rfl))
  f318 := Tryd.func109.trans (congrArg some (by kernel_rfl))
  f319 := Tryd.func110.trans (congrArg some (by kernel_rfl))
  f320 := Tryd.func111.trans (congrArg some (by kernel_rfl))
  f337 := Tryd.func112.trans (congrArg some (by kernel_rfl))
  f338 := Tryd.func113.trans (congrArg some (by kernel_rfl))
  t0 := Tryd.underlying0
  a0 := Tryd.isAgg0
  z0 := Tryd.sizeOf0
  v0 := Tryd.zeroValue0
  t2 := Tryd.underlying2
  a2 := Tryd.isAgg2
  z2 := Tryd.sizeOf2
  v2 := Tryd.zeroValue2
  t3 := Tryd.underlying3
  a3 := Tryd.isAgg3
  z3 := Tryd.sizeOf3
  v3 := Tryd.zeroValue3
  t4 := Tryd.underlying4
  a4 := Tryd.isAgg4
  z4 := Tryd.sizeOf4
  v4 := Tryd.zeroValue4
  t5 := Tryd.underlying5
  a5 := Tryd.isAgg5
  z5 := Tryd.sizeOf5
  v5 := Tryd.zeroValue5
  t9 := Tryd.underlying9
  a9 := Tryd.isAgg9
  z9 := Tryd.sizeOf9
  v9 := Tryd.zeroValue9
  t20 := Tryd.underlying20
  a20 := Tryd.isAgg20
  z20 := Tryd.sizeOf20
  v20 := Tryd.zeroValue20
  t37 := Tryd.underlying131
  a37 := Tryd.isAgg131
  z37 := Tryd.sizeOf131
  v37 := Tryd.zeroValue131
  t46 := Tryd.underlying138
  a46 := Tryd.isAgg138
  z46 := Tryd.sizeOf138
  v46 := Tryd.zeroValue138
  t51 := Tryd.underlying136
  a51 := Tryd.isAgg136
  z51 := Tryd.sizeOf136
  v51 := Tryd.zeroValue136
  t53 := Tryd.underlying123
  a53 := Tryd.isAgg123
  z53 := Tryd.sizeOf123
  v53 := Tryd.zeroValue123
  t171 := Tryd.underlying129
  a171 := Tryd.isAgg129
  z171 := Tryd.sizeOf129
  v171 := Tryd.zeroValue129
  t173 := Tryd.underlying132
  a173 := Tryd.isAgg132
  z173 := Tryd.sizeOf132
  v173 := Tryd.zeroValue132
  t212 := Tryd.underlying135
  a212 := Tryd.isAgg135
  z212 := Tryd.sizeOf135
  v212 := Tryd.zeroValue135
  t213 := Tryd.underlying137
  a213 := Tryd.isAgg137
  z213 := Tryd.sizeOf137
  t232 := Tryd.underlying141
  a232 := Tryd.isAgg141
  z232 := Tryd.sizeOf141
  v232 := Tryd.zeroValue141
  t233 := Tryd.underlying142
  a233 := Tryd.isAgg142
  z233 := Tryd.sizeOf142
  v233 := Tryd.zeroValue142
  g17 := by kernel_rfl
  g18 := by kernel_rfl
  g19 := by kernel_rfl
  i0 := by kernel_rfl
  i2 := by kernel_rfl
  i3 := by kernel_rfl
  i4 := by kernel_rfl
  i5 := by kernel_rfl
  i9 := by kernel_rfl
  i20 := by kernel_rfl
  i37 := by kernel_rfl
  i46 := by kernel_rfl
  i51 := by kernel_rfl
  i53 := by kernel_rfl
  i171 := by kernel_rfl
  i173 := by kernel_rfl
  i212 := by kernel_rfl
  i232 := by kernel_rfl
  i233 := by kernel_rfl
  m17 := by kernel_rfl
  m18 := by kernel_rfl
  m19 := by kernel_rfl }
end Go.Proofs
namespace Go.Proofs
open Go.Sh
set_option linter.unusedSimpArgs false
/-- the table of tens lies as it was laid -/
def TabG (r : Gh) : Prop := Ob r fun w => Lib.TabIs Tryd.prog w "internal/strconv.uint64pow10" .u64 Lib.pow10Tab
theorem TabG.up {r s : Gh} (h : TabG r) [l : Le r s] : TabG s := Ob.up h
theorem digs_eq : ∀ (f n : Nat), n < 10 ^ f → 0 < f → digsF f n = Lib.decDigits n
  | 0, _, _, h => absurd h (Nat.lt_irrefl _)
  | f + 1, n, h, _ => by
    rw [digsF, Lib.decDigits]
    by_cases h1 : n < 10
    · rw [if_pos h1, dif_pos h1]
    · rw [if_neg h1, dif_neg h1]
      have h2 : n / 10 < 10 ^ f := by
        rw [Nat.pow_succ] at h
        omega
      have h3 : 0 < f := by
        rcases Nat.eq_zero_or_pos f with rfl | h3
        · simp at h; omega
        · exact h3
      rw [digs_eq f (n / 10) h2 h3]
theorem ext_grow {w : World} {k : Nat} {os : Array Obj} : Ext w (Sort.grow (w.drewN k) os) :=
  ⟨rfl, rfl, rfl, by simp [Sort.grow, World.drewN], fun j hj => by
    show (w.heap ++ os)[j]? = _
    exact Array.getElem?_append_left hj⟩
theorem c_Itoa {r : Gh} {x : Int} (hT : TabG r) (h0 : 0 ≤ x) (h1 : x ≤ 9223372036854775807) : ItoaOK r x := by
  intro w K hr h
  refine Calls.mono (Any.strconv_Itoa Tryd.lays171 x (by omega) h1 w (hT w hr)) ?_
  rintro e w' ⟨rfl, k, os, rfl⟩
  refine ⟨_, rfl, ?_⟩
  have := h _ (ext_grow (w := w) (k := k) (os := os))
  rw [itoa, digs_eq 20 x.toNat (by omega) (by decide)] at this
  rw [Lib.itoa, if_neg (by omega)]
  exact this
theorem nums_ok {r : Gh} (hT : TabG r) {t : TyD} (h : ∀ u ∈ t.chain, u.re ≤ 9223372036854775807 ∧ u.st ≤ 9223372036854775807) : NumsOK r t := fun u hu =>
  ⟨fun h0 => c_Itoa hT h0 (h u hu).1, fun h0 => c_Itoa hT h0 (h u hu).2⟩
end Go.Proofs
end

section
namespace Go.Sh
open Go.ChangeShapes Go.WideShapes Go.ChangeAt Go.RowKit
section
variable {H : Type} {enc : TypeId × Value → H} {P : Program}
theorem same_ext {W W' : World} (e : Ext W W') {p : MemPlace} (hp : p.block < W.heap.size) : W.sameAt W' p := Below.same e hp
theorem trodAll_ext {W W' : World} (e : Ext W W') (K : Kids P (· < P.types.size)) (hz : ∀ t e, t < P.types.size → P.underlying t = some (.slice e) → 0 < P.cellsOf e) {sp : Nat → Bool} :
    ∀ {ts : List TypeId} {vs : List Value} {ds : List (DataW H)} {ps : List MemPlace}, (∀ t ∈ ts, t < P.types.size) → DataW.TrodAll enc P W 0 (fun _ => true) true ts vs ds ps → (∀ p ∈ ps, p.block < W.heap.size) → (∀ p ∈ ps, sp p.block = true) →
      DataW.TrodAll enc P W' 0 sp true ts vs ds ps
  | [], [], [], _, _, h, _, _ => h
  | _ :: _, _ :: _, _ :: _, _, hT, ⟨p, q, ⟨n, h1⟩, h2, he⟩, hl, hs =>
    ⟨p, q, ⟨n, DataW.trod_stays K (fun {t e} => hz t e) (fun h => by cases h) (hT _ (List.mem_cons.2 (Or.inl rfl))) h1 (fun x hx => same_ext e (hl x (by rw [he]; exact List.mem_append_left _ hx))) (fun x hx => hs x (by rw [he]; exact List.mem_append_left _ hx))⟩,
      trodAll_ext e K hz (fun t ht => hT t (List.mem_cons.2 (Or.inr ht))) h2 (fun x hx => hl x (by rw [he]; exact List.mem_append_right _ hx)) (fun x hx => hs x (by rw [he]; exact List.mem_append_right _ hx)), he⟩
/-- WHAT THE LAWS' ROWS ASK: true; the input reads as it did. -/
theorem post_told {f : Func} {s : ChangeSpec} {W W' : World} {args : Array Value} {ds gs : List (DataW H)} {before : List MemPlace} {tb : TypeId} {fr ho : Bool}
    (hl : laidOutB P = true) (hm : mapsRowed P = true) (hz : ((List.range P.types.size).all fun t => match P.underlying t with | some (.slice e) => decide (0 < P.cellsOf e) | _ => true) = true)
    (hts : ∀ t ∈ f.params.toList, t < P.types.size) (hv : s.vars = []) (hrt : f.resultTypes = #[tb]) (htb : P.underlying tb = some .bool)
    (hW : DataW.Whole enc P f.params.toList s.vars false W args.toList ds gs before) (hs : s.fn H (ds ++ gs) = { results := [.lit (.bool true)], args := ds }) (e : Ext W W') :
    s.post enc P f false fr ho false W args (.bool true) W' := by
  have hW' := hW
  obtain ⟨p, q, hA, hV, rfl, hfz, hnd⟩ := hW
  rw [hv] at hV
  obtain ⟨rfl, rfl⟩ := trodVars_none hV
  have hlt := hW'.lt
  refine ⟨ds, [], p ++ [], [], p, [], hW', ?_, ?_, ?_, Below.frame e _, fun h => by cases h⟩
  · rw [hs, hrt]
    exact trodAll_mk1 (shut_bool htb _)
  · rw [hs]
    exact trodAll_ext e (kids_rows hl hm) (slices_full_of P hz) hts hA (fun x hx => hlt x (by simpa using hx)) (fun x hx => by simpa using hlt x (by simpa using hx))
  · rw [hv, hs]; rfl
end
end Go.Sh
end

section
namespace Go.Sh
open Go.RowKit

mutual
/-- is it a datum of the type? -/
def Dat.ok (P : Program) : Dat → TypeId → Prop
  | .int k n, t => P.underlying t = some (.int k) ∧ (Lit.int k n).wf = true
  | .bool _, t => P.underlying t = some .bool
  | .str s, t => P.underlying t = some .string ∧ s.size ≤ maxLen
  | .agg ds, t => ∃ fs, P.underlying t = some (.struct fs) ∧ Dat.okF P ds (fs.toList.map (·.type))
  | .sl sz es, t => ∃ e, P.underlying t = some (.slice e) ∧ sz = P.cellsOf e ∧ es.length ≤ maxLen ∧ Dat.okS P es e
def Dat.okF (P : Program) : List Dat → List TypeId → Prop
  | [], ts => ts = []
  | d :: ds, ts => ∃ t r, ts = t :: r ∧ Dat.ok P d t ∧ Dat.okF P ds r
def Dat.okS (P : Program) : List Dat → TypeId → Prop
  | [], _ => True
  | d :: ds, t => Dat.ok P d t ∧ Dat.okS P ds t
end
theorem okS_of {P : Program} {t : TypeId} : ∀ {es : List Dat}, (∀ (i : Nat) (d : Dat), es[i]? = some d → d.ok P t) → Dat.okS P es t
  | [], _ => trivial
  | d :: es, h => ⟨h 0 d rfl, okS_of fun i d hi => h (i + 1) d (by simpa using hi)⟩
theorem okS_mem {P : Program} {t : TypeId} : ∀ {es : List Dat}, Dat.okS P es t → ∀ d ∈ es, d.ok P t
  | [], _, d, hd => by cases hd
  | e :: es, h, d, hd => by
    rcases List.mem_cons.1 hd with rfl | hd
    · exact h.1
    · exact okS_mem h.2 d hd
def layT (P : Program) (total : Nat) : Nat → List Field → Bool
  | off, [] => off == total
  | off, f :: fs => f.offset == off && layT P total (off + P.cellsOf f.type) fs
/-- types of numbers, texts, structs and slices, each of whose parts is among them -/
def plainS (P : Program) (ts : List TypeId) : Bool :=
  ts.all fun t => match P.underlying t with
    | some (.int _) => true
    | some .bool => true
    | some .string => true
    | some (.struct fs) => layT P (P.cellsOf t) 0 fs.toList && fs.toList.all (fun f => ts.contains f.type)
    | some (.slice e) => decide (0 < P.cellsOf e) && ts.contains e
    | _ => false
theorem choose_list {Q : Nat → Dat → Prop} : ∀ n : Nat, (∀ i, i < n → ∃ d, Q i d) → ∃ es : List Dat, es.length = n ∧ ∀ i d, es[i]? = some d → Q i d
  | 0, _ => ⟨[], rfl, fun i d h => by cases h⟩
  | n + 1, h => by
    obtain ⟨es, h1, h2⟩ := choose_list n fun i hi => h i (by omega)
    obtain ⟨d, hd⟩ := h n (by omega)
    refine ⟨es ++ [d], by simp [h1], fun i x hx => ?_⟩
    rcases Nat.lt_or_ge i es.length with hi | hi
    · rw [List.getElem?_append_left hi] at hx; exact h2 i x hx
    · rw [List.getElem?_append_right hi] at hx
      have hl := (List.getElem?_eq_some_iff.1 hx).1
      have : i = n := by simp at hl; omega
      subst this
      rw [h1, Nat.sub_self] at hx
      cases hx; exact hd
section
variable {H : Type} {enc : TypeId × Value → H} {P : Program} {W : World}
theorem rep_fields {cs : List Value} {total : Nat} (hcs : cs.length = total) : ∀ (fl : List Field) (off : Nat), layT P total off fl = true →
    (∀ f ∈ fl, ∃ d, Rep (all W) d ((cs.drop f.offset).take (P.cellsOf f.type)) ∧ d.ok P f.type) → ∃ ds, RepA (all W) ds (cs.drop off) ∧ Dat.okF P ds (fl.map (·.type))
  | [], off, hl, _ => ⟨[], by
    have : off = total := by simpa [layT] using hl
    rw [RepA, List.drop_eq_nil_iff]; omega, rfl⟩
  | f :: fl, off, hl, h => by
    simp only [layT, Bool.and_eq_true, beq_iff_eq] at hl
    obtain ⟨d, h1, h2⟩ := h f List.mem_cons_self
    obtain ⟨ds, h3, h4⟩ := rep_fields hcs fl _ hl.2 fun g hg => h g (List.mem_cons_of_mem _ hg)
    refine ⟨d :: ds, ⟨_, _, ?_, h1, h3⟩, _, _, rfl, h2, h4⟩
    rw [hl.1, ← List.drop_drop, List.take_append_drop]
theorem rep_of_trod {ts : List TypeId} (hp : plainS P ts = true) {sp : Nat → Bool} : ∀ (fuel : Nat) (t : TypeId) (cs : List Value) (x : DataW H × List MemPlace), t ∈ ts →
    DataW.trod enc P W 0 sp true fuel t cs = some x → ∃ d, Rep (all W) d cs ∧ d.ok P t
  | 0, _, _, _, _, h => by simp [DataW.trod] at h
  | fuel + 1, t, cs, x, ht, h => by
    have hpt := List.all_eq_true.1 hp t ht
    cases hu : P.underlying t with
    | none => rw [hu] at hpt; cases hpt
    | some k =>
      rw [hu] at hpt
      cases k with
      | int k => obtain ⟨n, rfl, _, hw⟩ := DataW.trod_int hu h; exact ⟨.int k n, rfl, hu, hw⟩
      | bool => obtain ⟨b, rfl, _⟩ := DataW.trod_bool hu h; exact ⟨.bool b, rfl, hu⟩
      | string => obtain ⟨s, rfl, _, hs⟩ := DataW.trod_string hu h; exact ⟨.str s, rfl, hu, hs⟩
      | struct fs =>
        simp only [Bool.and_eq_true] at hpt
        obtain ⟨xs, n, hn, _, hl, hxl, hx⟩ := DataW.trod_struct hu h
        obtain rfl : fuel = n := by omega
        obtain ⟨ds, h1, h2⟩ := rep_fields (P := P) (W := W) hl fs.toList 0 hpt.1 (fun f hf => by
          obtain ⟨i, hi, rfl⟩ := List.getElem_of_mem hf
          have hi' : i < fs.size := by simpa using hi
          have h1 := hx i fs[i] (Array.getElem?_eq_getElem hi')
          rw [List.getElem?_eq_getElem (by omega)] at h1
          have hmem : fs[i].type ∈ ts := by
            have := List.all_eq_true.1 hpt.2 _ hf
            simpa using this
          exact rep_of_trod hp fuel _ _ _ hmem h1)
        rw [List.drop_zero] at h1
        exact ⟨.agg ds, h1, fs, hu, h2⟩
      | slice e =>
        simp only [Bool.and_eq_true, decide_eq_true_eq] at hpt
        have he : e ∈ ts := by simpa using hpt.2
        rcases DataW.trod_slice hu h with ⟨rfl, _⟩ | ⟨a, len, cap, elems, rest, n, hn, rfl, _, _, hlc, hcm, hel, hget, _, _⟩
        · exact ⟨.sl (P.cellsOf e) [], ⟨none, 0, rfl, fun _ => rfl, Nat.le_refl _, trivial⟩, e, hu, rfl, Nat.zero_le _, trivial⟩
        obtain rfl : fuel = n := by omega
        have hspot : 0 < len → a.spot = none := fun h0 => by
          have h1 := hget 0 h0
          rw [List.getElem?_eq_getElem (by omega)] at h1
          obtain ⟨c, hc, _⟩ := Option.bind_eq_some_iff.1 h1
          obtain ⟨_, hcl, hcc⟩ := World.cells?_some hc
          have hcell := (hcc 0 hpt.1).trans (List.getElem?_eq_getElem (by omega))
          have := World.cell?_spot hcell
          simpa [Addr.add] using this
        obtain ⟨es, h1, h2⟩ := choose_list (Q := fun i d => d.ok P e ∧ ∃ c, c.length = P.cellsOf e ∧ CellsAt (all W) (some a) (i * P.cellsOf e) c ∧ Rep (all W) d c) len (fun i hi => by
          have h1 := hget i hi
          rw [List.getElem?_eq_getElem (by omega)] at h1
          obtain ⟨c, hc, ht⟩ := Option.bind_eq_some_iff.1 h1
          obtain ⟨_, hcl, hcc⟩ := World.cells?_some hc
          obtain ⟨d, hd, hok⟩ := rep_of_trod hp fuel e c _ he ht
          refine ⟨d, hok, c, hcl, fun j v hj => ?_, hd⟩
          have hjl := (List.getElem?_eq_some_iff.1 hj).1
          have hcell : W.cell? ((a.add (i * P.cellsOf e)).add j) = some v := (hcc j (by omega)).trans hj
          obtain ⟨b, off, sp⟩ := a
          have hsp : sp = none := hspot (by omega)
          subst hsp
          rw [addr_add', addr_add'] at hcell
          exact ⟨b, off, rfl, cell_all hcell⟩)
        refine ⟨.sl (P.cellsOf e) es, ⟨some a, cap, by rw [h1], by simp, by omega, RepS.of fun i d hi => ?_⟩, e, hu, rfl, by omega, okS_of fun i d hi => (h2 i d hi).1⟩
        rw [Nat.zero_add]; exact (h2 i d hi).2
      | _ => cases hpt
end
end Go.Sh
end

section
namespace Go.Proofs
open Go.Sh
set_option maxRecDepth 100000
set_option linter.unusedSimpArgs false
set_option linter.unusedVariables false
def inI (n : Int) : Prop := -9223372036854775808 ≤ n ∧ n ≤ 9223372036854775807
mutual
/-- the numbers of a type are of their kinds -/
def TyD.good : TyD → Prop
  | .mk k _ re st of => (0 ≤ k ∧ k ≤ 255) ∧ inI re ∧ inI st ∧ of.length ≤ Go.maxLen ∧ TyD.goods of
def TyD.goods : List TyD → Prop
  | [] => True
  | t :: l => TyD.good t ∧ TyD.goods l
end
theorem TyD.goods_mem : ∀ {l : List TyD}, TyD.goods l → ∀ t ∈ l, t.good
  | [], _, t, h => by cases h
  | x :: l, h, t, ht => by
    rcases List.mem_cons.1 ht with rfl | ht
    · exact h.1
    · exact TyD.goods_mem h.2 t ht
theorem TyD.goods_of : ∀ {l : List TyD}, (∀ t ∈ l, t.good) → TyD.goods l
  | [], _ => trivial
  | x :: l, h => ⟨h x List.mem_cons_self, TyD.goods_of fun t ht => h t (List.mem_cons_of_mem _ ht)⟩
end Go.Proofs
namespace Go.Proofs.YtajllnahceaipaaDoor.open6
open Go.Sh Go.ChangeShapes Go.WideShapes Go.ChangeAt Go.RowKit
set_option maxRecDepth 100000
set_option linter.unusedSimpArgs false
set_option linter.unusedVariables false

theorem own : ownKnob Tryd.prog.godebug = none := by kernel_rfl
theorem u3 : Tryd.prog.underlying 3 = some (.int .i64) := by kernel_rfl
theorem u4 : Tryd.prog.underlying 4 = some .bool := by kernel_rfl
theorem u9 : Tryd.prog.underlying 9 = some .string := by kernel_rfl
theorem u22 : Tryd.prog.underlying 22 = some (.int .u8) := by kernel_rfl
theorem u23 : Tryd.prog.underlying 23 = some (.slice 25) := by kernel_rfl
theorem c25 : Tryd.prog.cellsOf 25 = 5 := by kernel_rfl
noncomputable def structB (t : TypeId) (ts : List TypeId) : Bool := match Tryd.prog.underlying t with | some (.struct fs) => decide (fs.toList.map (·.type) = ts) | _ => false
theorem struct_of {t : TypeId} {ts : List TypeId} (h : structB t ts = true) : ∃ fs, Tryd.prog.underlying t = some (.struct fs) ∧ fs.toList.map (·.type) = ts := by
  unfold structB at h
  split at h
  · rename_i fs hu; exact ⟨fs, hu, of_decide_eq_true h⟩
  · cases h
theorem u25 : ∃ fs, Tryd.prog.underlying 25 = some (.struct fs) ∧ fs.toList.map (·.type) = [22, 4, 3, 3, 23] := struct_of (by kernel_rfl)
theorem laidOut : laidOutB Tryd.prog = true := by kernel_rfl
theorem rowed : mapsRowed Tryd.prog = true := by kernel_rfl
theorem full : ((List.range Tryd.prog.types.size).all fun t => match Tryd.prog.underlying t with | some (.slice e) => decide (0 < Tryd.prog.cellsOf e) | _ => true) = true := by kernel_rfl
theorem plain25 : plainS Tryd.prog [25, 22, 4, 3, 23] = true := by kernel_rfl

theorem dat_int {d : Dat} {t : TypeId} {k : IntKind} (u : Tryd.prog.underlying t = some (.int k)) (h : d.ok Tryd.prog t) : ∃ n, d = .int k n ∧ (Lit.int k n).wf = true := by
  cases d <;> simp only [Dat.ok, u] at h <;> try simp at h
  obtain ⟨rfl, h⟩ := h
  exact ⟨_, rfl, h⟩
theorem dat_bool {d : Dat} (h : d.ok Tryd.prog 4) : ∃ b, d = .bool b := by
  cases d <;> simp only [Dat.ok, u4] at h <;> try simp at h
  exact ⟨_, rfl⟩
theorem dat_str {d : Dat} (h : d.ok Tryd.prog 9) : ∃ s, d = .str s ∧ s.size ≤ maxLen := by
  cases d <;> simp only [Dat.ok, u9] at h <;> try simp at h
  exact ⟨_, rfl, h⟩
theorem dat_sl {d : Dat} {t e : TypeId} (u : Tryd.prog.underlying t = some (.slice e)) (h : d.ok Tryd.prog t) : ∃ es, d = .sl (Tryd.prog.cellsOf e) es ∧ es.length ≤ maxLen ∧ ∀ x ∈ es, x.ok Tryd.prog e := by
  cases d <;> simp only [Dat.ok, u] at h <;> try simp at h
  obtain ⟨rfl, h1, h2⟩ := h
  exact ⟨_, rfl, h1, okS_mem h2⟩
theorem dat_agg {d : Dat} {t : TypeId} {ts : List TypeId} (u : ∃ fs, Tryd.prog.underlying t = some (.struct fs) ∧ fs.toList.map (·.type) = ts) (h : d.ok Tryd.prog t) : ∃ ds, d = .agg ds ∧ Dat.okF Tryd.prog ds ts := by
  obtain ⟨fs, u, rfl⟩ := u
  cases d <;> simp only [Dat.ok, u] at h <;> try simp at h
  exact ⟨_, rfl, by simpa using h⟩
theorem okF_cons {ds : List Dat} {t : TypeId} {ts : List TypeId} (h : Dat.okF Tryd.prog ds (t :: ts)) : ∃ d r, ds = d :: r ∧ d.ok Tryd.prog t ∧ Dat.okF Tryd.prog r ts := by
  cases ds with
  | nil => cases h
  | cons d r => obtain ⟨t', r', h1, h2, h3⟩ := h; cases h1; exact ⟨d, r, rfl, h2, h3⟩
theorem okF_nil {ds : List Dat} (h : Dat.okF Tryd.prog ds []) : ds = [] := by
  cases ds with
  | nil => rfl
  | cons d r => obtain ⟨t', r', h1, _⟩ := h; cases h1
theorem wf_int {n : Int} (h : (Lit.int .i64 n).wf = true) : inI n := by
  simp only [Lit.wf, Bool.and_eq_true, decide_eq_true_eq] at h
  exact ⟨h.1, h.2⟩
theorem wf_u8 {n : Int} (h : (Lit.int .u8 n).wf = true) : 0 ≤ n ∧ n ≤ 255 := by
  simp only [Lit.wf, Bool.and_eq_true, decide_eq_true_eq] at h
  exact ⟨h.1, h.2⟩
theorem list_of {α : Type} {Q : Dat → α → Prop} : ∀ es : List Dat, (∀ d ∈ es, ∃ t, Q d t) → ∃ l : List α, l.length = es.length ∧ ∀ (i : Nat) d t, es[i]? = some d → l[i]? = some t → Q d t
  | [], _ => ⟨[], rfl, fun i d t h => by cases h⟩
  | d :: es, h => by
    obtain ⟨t, ht⟩ := h d List.mem_cons_self
    obtain ⟨l, hl, hq⟩ := list_of es fun x hx => h x (List.mem_cons_of_mem _ hx)
    refine ⟨t :: l, by simp [hl], fun i x y hx hy => ?_⟩
    cases i with
    | zero => simp at hx hy; subst hx hy; exact ht
    | succ i => exact hq i x y (by simpa using hx) (by simpa using hy)
theorem list_map {α : Type} {f : α → Dat} {G : α → Prop} : ∀ es : List Dat, (∀ d ∈ es, ∃ t, d = f t ∧ G t) → ∃ l : List α, es = l.map f ∧ ∀ t ∈ l, G t
  | [], _ => ⟨[], rfl, fun t h => by cases h⟩
  | d :: es, h => by
    obtain ⟨t, rfl, ht⟩ := h d List.mem_cons_self
    obtain ⟨l, rfl, hq⟩ := list_map es fun x hx => h x (List.mem_cons_of_mem _ hx)
    refine ⟨t :: l, rfl, fun x hx => ?_⟩
    rcases List.mem_cons.1 hx with rfl | hx
    · exact ht
    · exact hq x hx
theorem ty_of_ok : ∀ (n : Nat) (d : Dat), SizeOf.sizeOf d ≤ n → d.ok Tryd.prog 25 → ∃ t : TyD, d = t.dat ∧ t.good := by
  intro n
  induction n with
  | zero => intro d h _; cases d <;> simp at h
  | succ n ih =>
    intro d hs h
    obtain ⟨ds, rfl, e0⟩ := dat_agg u25 h
    obtain ⟨d0, ds, rfl, h0, e1⟩ := okF_cons e0
    obtain ⟨d1, ds, rfl, h1, e2⟩ := okF_cons e1
    obtain ⟨d2, ds, rfl, h2, e3⟩ := okF_cons e2
    obtain ⟨d3, ds, rfl, h3, e4⟩ := okF_cons e3
    obtain ⟨d4, ds, rfl, h4, e5⟩ := okF_cons e4
    obtain rfl := okF_nil e5
    obtain ⟨k, rfl, g0⟩ := dat_int u22 h0
    obtain ⟨m, rfl⟩ := dat_bool h1
    obtain ⟨re, rfl, g2⟩ := dat_int u3 h2
    obtain ⟨st, rfl, g3⟩ := dat_int u3 h3
    obtain ⟨es, rfl, hl, k4⟩ := dat_sl u23 h4
    obtain ⟨l, rfl, hg⟩ := list_map (f := TyD.dat) (G := TyD.good) es fun x hx => ih x (by
      have := List.sizeOf_lt_of_mem hx
      simp only [Dat.agg.sizeOf_spec, List.cons.sizeOf_spec, Dat.sl.sizeOf_spec] at hs
      omega) (k4 x hx)
    refine ⟨.mk k m re st l, ?_, wf_u8 g0, wf_int g2, wf_int g3, by simpa using hl, TyD.goods_of hg⟩
    rw [TyD.dat, TyD.dats_map, c25]
theorem ty_open {H : Type} {enc : TypeId × Value → H} {W : World} {base : Nat} {v : Value} {d : DataW H} {p : List MemPlace} (hv : Value.okWide Tryd.prog W .any base 25 v) (h : DataW.Trod enc Tryd.prog W 0 (fun _ => true) true 25 v d p) :
    ∃ t : TyD, TyG (all W) v t ∧ t.good := by
  obtain ⟨fs, hu, _⟩ := u25
  obtain ⟨cs, rfl, hsz⟩ := okWide_struct hu hv
  obtain ⟨fuel, hf⟩ := h
  obtain ⟨d, hr, hd⟩ := rep_of_trod plain25 fuel 25 _ _ (by simp) hf
  obtain ⟨t, rfl, hg⟩ := ty_of_ok _ d (Nat.le_refl _) hd
  exact ⟨t, by simpa [Value.cells] using TyG.of_rep hr, hg⟩
def cellsD : DataW Unit → List Value
  | .agg l => l.map fun
    | .lit (.int k n) => .int k n
    | _ => undef
  | _ => []
def laying (d : DataW Unit) : Obj → Obj
  | .cells _ t frozen => .cells (cellsD d).toArray t frozen
  | o => o
/-- A WORLD FOR THE WITNESSES: the settled one, the tables holding what their initialisers lay. -/
noncomputable def laidWorld (os : Os) : World :=
  { World.holding Tryd.prog os ⟨#[], #[], []⟩ with heap := (((World.holding Tryd.prog os ⟨#[], #[], []⟩).heap.modify 0 (laying Rows.laid_internal_strconv_uint64pow10)).modify 1 (laying Rows.laid_math_bits_deBruijn32tab)).modify 2 (laying Rows.laid_math_bits_deBruijn64tab) }
end Go.Proofs.YtajllnahceaipaaDoor.open6
end

section
namespace Go.Proofs
open Go.Sh
set_option maxRecDepth 100000
set_option linter.unusedSimpArgs false
set_option linter.unusedVariables false
theorem TyD.good.good_in {t : TyD} (h : t.good) : (0 ≤ t.k ∧ t.k ≤ 255) ∧ inI t.re ∧ inI t.st ∧ t.of.length ≤ maxLen ∧ ∀ u ∈ t.of, u.good := by
  cases t with | mk k m re st of => exact ⟨h.1, h.2.1, h.2.2.1, h.2.2.2.1, TyD.goods_mem h.2.2.2.2⟩
theorem good_chain : ∀ (n : Nat) (t : TyD), t.ht ≤ n → t.good → ∀ u ∈ t.chain, u.good := by
  intro n
  induction n with
  | zero => intro t h; cases t; simp [TyD.ht] at h
  | succ n ih =>
    intro t hn hg u hu
    rw [TyD.chain_eq] at hu
    rcases List.mem_cons.1 hu with rfl | hu
    · exact hg
    · cases hof : t.of with
      | nil => rw [hof] at hu; cases hu
      | cons x l =>
        have hx : x ∈ t.of := by rw [hof]; exact List.mem_cons_self
        rw [hof] at hu
        exact ih x (by have := TyD.ht_of hx; omega) (hg.good_in.2.2.2.2 x hx) u hu
theorem good_nums {r : Gh} (hT : TabG r) {t : TyD} (h : t.good) : NumsOK r t := nums_ok hT fun u hu => by
  have := (good_chain _ t (Nat.le_refl _) h u hu).good_in
  exact ⟨this.2.1.2, this.2.2.1.2⟩
/-- blocks of one's own, told, are overwritten: the rest stays -/
theorem spoilt {X : Nat → Prop} {w0 w w' : World} {r q s : Gh} {L : List Asr} (S : StX X w0 r w L) (e : ExtBut (Gh.dom s) w w') (hs : ∀ b o, s b o → r b o) (ha : Above w0 s) (hq : ∀ b o, q b o → r b o) (hd : Dis s q) : StX X w0 q w' L :=
  S.but e (fun b o hb => ⟨hq b o hb, fun ⟨o', ho⟩ => hd b o' o ho hb⟩) (fun b ⟨o, ho⟩ => ha b o ho) (fun x hx k hk ⟨o, ho⟩ => (S.mine x hx k hk).2 o (hs k o ho))
theorem c_law06_TypesTexts {t : TyD} {s : List UInt8} {w : World} {r : Gh} {v : Value} {K : Value → World → Prop} (hr : Holds r w) (hT : TabG r) (ht : TyG r v t) (hg : t.good)
    (h : ∀ w', Ext w w' → K (.bool true) w') : oCall Tryd.prog Tryd.n_law06_TypesTexts #[v, .string (bs s)] w K := by
  refine Tryd.ok_law06_TypesTexts ?_
  unfold Tryd.F_law06_TypesTexts
  have ht0 := ht
  obtain ⟨p, cap, rfl, _⟩ := ht
  have S := St.start hr
  refine S.box fun b2 w1 S => ?_
  (repeat (first | refine s_p ?_ | refine s_c (by omega) ?_ | refine S.ld ?_ | refine S.ldB ?_ | refine S.ce ?_ | refine S.ceB ?_ | refine s_q ?_ | refine s_qc (by omega) ?_ | refine n_some ?_ | rw [List.getD_cons_zero] | rw [List.getD_cons_succ]))
  refine c_law06_typeFits 60 (by decide) (by decide) (by decide) S.holds ht0 fun x w3 e3 => ?_
  have S := S.go e3
  (repeat (first | refine s_p ?_ | refine s_c (by omega) ?_ | refine S.ld ?_ | refine S.ldB ?_ | refine S.ce ?_ | refine S.ceB ?_ | refine s_q ?_ | refine s_qc (by omega) ?_ | refine n_some ?_ | rw [List.getD_cons_zero] | rw [List.getD_cons_succ]))
  refine j_borH (c := decide (8192 < s.length)) (fun _ K2 hK2 => ?_) ?_
  · (repeat (first | refine s_p ?_ | refine s_c (by omega) ?_ | refine S.ld ?_ | refine S.ldB ?_ | refine S.ce ?_ | refine S.ceB ?_ | refine s_q ?_ | refine s_qc (by omega) ?_ | refine n_some ?_ | rw [List.getD_cons_zero] | rw [List.getD_cons_succ]))
    rw [show decide ((8192 : Int) < (s.length : Int)) = decide (8192 < s.length) from decide_eq_decide.2 (by omega)]
    exact hK2
  refine c_b (fun _ => ?_) (fun hc => ?_)
  · exact c_law06_awake fun w5 e5 => h _ (S.go e5).ext
  have hs : s.length ≤ 8192 := by
    simp only [Bool.or_eq_false_iff, decide_eq_false_iff_not] at hc
    omega
  have hN := good_nums hT hg
  (repeat (first | refine s_p ?_ | refine s_c (by omega) ?_ | refine S.ld ?_ | refine S.ldB ?_ | refine S.ce ?_ | refine S.ceB ?_ | refine s_q ?_ | refine s_qc (by omega) ?_ | refine n_some ?_ | rw [List.getD_cons_zero] | rw [List.getD_cons_succ]))
  refine c_types_Text S.holds ht0 hN fun w4 e4 => ?_
  have S := S.go e4
  (repeat (first | refine s_p ?_ | refine s_c (by omega) ?_ | refine S.ld ?_ | refine S.ldB ?_ | refine S.ce ?_ | refine S.ceB ?_ | refine s_q ?_ | refine s_qc (by omega) ?_ | refine n_some ?_ | rw [List.getD_cons_zero] | rw [List.getD_cons_succ]))
  refine c_ref06_Text S.holds ht0 hN fun w5 e5 => ?_
  have S := S.go e5
  (repeat (first | refine s_p ?_ | refine s_c (by omega) ?_ | refine S.ld ?_ | refine S.ldB ?_ | refine S.ce ?_ | refine S.ceB ?_ | refine s_q ?_ | refine s_qc (by omega) ?_ | refine n_some ?_ | rw [List.getD_cons_zero] | rw [List.getD_cons_succ]))
  refine j_borH (c := false) (fun _ K2 hK2 => ?_) ?_
  · (repeat (first | refine s_p ?_ | refine s_c (by omega) ?_ | refine S.ld ?_ | refine S.ldB ?_ | refine S.ce ?_ | refine S.ceB ?_ | refine s_q ?_ | refine s_qc (by omega) ?_ | refine n_some ?_ | rw [List.getD_cons_zero] | rw [List.getD_cons_succ]))
    simpa using hK2
  refine c_f (by simp) ?_
  refine c_types_Read (s := s) S.holds (by omega) fun va sa w6 e6 n6 ha hca => ?_
  obtain ⟨S, da, aa⟩ := S.tell e6 n6
  have ha0 := ha
  obtain ⟨pa, capa, rfl, _⟩ := ha
  (repeat (first | refine s_p ?_ | refine s_c (by omega) ?_ | refine S.ld ?_ | refine S.ldB ?_ | refine S.ce ?_ | refine S.ceB ?_ | refine s_q ?_ | refine s_qc (by omega) ?_ | refine n_some ?_ | rw [List.getD_cons_zero] | rw [List.getD_cons_succ]))
  refine S.al fun b9 w7 S => ?_
  refine S.stB fun w8 S => ?_
  refine c_types_Read (s := s) S.holds (by omega) fun vb sb w9 e9 n9 hb _ => ?_
  obtain ⟨S, db, ab⟩ := S.tell e9 n9
  have hb0 := hb
  obtain ⟨pb, capb, rfl, _⟩ := hb
  (repeat (first | refine s_p ?_ | refine s_c (by omega) ?_ | refine S.ld ?_ | refine S.ldB ?_ | refine S.ce ?_ | refine S.ceB ?_ | refine s_q ?_ | refine s_qc (by omega) ?_ | refine n_some ?_ | rw [List.getD_cons_zero] | rw [List.getD_cons_succ]))
  refine S.al fun b11 w10 S => ?_
  refine S.stB fun w11 S => ?_
  refine c_ref06_Read (s := s) S.holds (by omega) fun vx sx w12 e12 n12 hx => ?_
  obtain ⟨S, dx, ax⟩ := S.tell e12 n12
  have hx0 := hx
  obtain ⟨px, capx, rfl, _⟩ := hx
  (repeat (first | refine s_p ?_ | refine s_c (by omega) ?_ | refine S.ld ?_ | refine S.ldB ?_ | refine S.ce ?_ | refine S.ceB ?_ | refine s_q ?_ | refine s_qc (by omega) ?_ | refine n_some ?_ | rw [List.getD_cons_zero] | rw [List.getD_cons_succ]))
  refine S.al fun b14 w13 S => ?_
  refine S.stB fun w14 S => ?_
  (repeat (first | refine s_p ?_ | refine s_c (by omega) ?_ | refine S.ld ?_ | refine S.ldB ?_ | refine S.ce ?_ | refine S.ceB ?_ | refine s_q ?_ | refine s_qc (by omega) ?_ | refine n_some ?_ | rw [List.getD_cons_zero] | rw [List.getD_cons_succ]))
  have hfew := hca.few
  refine j_borH (c := false) (fun _ K2 hK2 => ?_) ?_
  · (repeat (first | refine s_p ?_ | refine s_c (by omega) ?_ | refine S.ld ?_ | refine S.ldB ?_ | refine S.ce ?_ | refine S.ceB ?_ | refine s_q ?_ | refine s_qc (by omega) ?_ | refine n_some ?_ | rw [List.getD_cons_zero] | rw [List.getD_cons_succ]))
    simpa using hK2
  rw [show (decide ((readT s).2.1 ≠ (readT s).2.1) || false) = false by simp]
  refine j_borE (c := false) (fun _ K2 hK2 => ?_) fun w15 e15 => ?_
  · (repeat (first | refine s_p ?_ | refine s_c (by omega) ?_ | refine S.ld ?_ | refine S.ldB ?_ | refine S.ce ?_ | refine S.ceB ?_ | refine s_q ?_ | refine s_qc (by omega) ?_ | refine n_some ?_ | rw [List.getD_cons_zero] | rw [List.getD_cons_succ]))
    refine c_law06_equal _ (readT s).1 (Nat.le_refl _) hfew S.holds ha0.up hx0.up fun w16 e16 => ?_
    (repeat (first | refine s_p ?_ | refine s_c (by omega) ?_ | refine S.ld ?_ | refine S.ldB ?_ | refine S.ce ?_ | refine S.ceB ?_ | refine s_q ?_ | refine s_qc (by omega) ?_ | refine n_some ?_ | rw [List.getD_cons_zero] | rw [List.getD_cons_succ]))
    exact hK2 _ e16
  have S := S.go e15
  refine c_f (by simp) ?_
  (repeat (first | refine s_p ?_ | refine s_c (by omega) ?_ | refine S.ld ?_ | refine S.ldB ?_ | refine S.ce ?_ | refine S.ceB ?_ | refine s_q ?_ | refine s_qc (by omega) ?_ | refine n_some ?_ | rw [List.getD_cons_zero] | rw [List.getD_cons_succ]))
  refine c_law06_spoil hca ha0 (S.holds.le (h := inferInstance)) fun w17 e17 => ?_
  have S := spoilt (q := (r.or sb).or sx) (s := sa) S e17 (fun b o hb => .inl (.inl (.inr hb))) aa (fun b o hb => hb.elim (fun hb => hb.elim (fun hb => .inl (.inl (.inl hb))) fun hb => .inl (.inr hb)) fun hb => .inr hb)
    ((da.or (db.of (l := inferInstance))).or (dx.of (l := inferInstance)))
  (repeat (first | refine s_p ?_ | refine s_c (by omega) ?_ | refine S.ld ?_ | refine S.ldB ?_ | refine S.ce ?_ | refine S.ceB ?_ | refine s_q ?_ | refine s_qc (by omega) ?_ | refine n_some ?_ | rw [List.getD_cons_zero] | rw [List.getD_cons_succ]))
  refine c_law06_equal _ (readT s).1 (Nat.le_refl _) hfew S.holds hb0.up hx0.up fun w18 e18 => ?_
  have S := S.go e18
  refine j_bandE (c := true) (fun _ K2 hK2 => ?_) fun w19 e19 => ?_
  · exact c_law06_awake fun w20 e20 => hK2 _ e20
  exact h _ (S.go e19).ext
end Go.Proofs
end

section
namespace Go.Proofs
open Go.Sh
set_option maxRecDepth 100000
set_option linter.unusedSimpArgs false
set_option linter.unusedVariables false
/-- what a type's cells are -/
def tyCs (t : TyD) (p : Option Addr) (cap : Nat) : List Value := [.int .u8 t.k, .bool t.m, .int .i64 t.re, .int .i64 t.st, .slice p t.of.length cap]
set_option maxHeartbeats 2000000 in
theorem c_law06_TypesTurn {a b : TyD} {f : Int} {l : List Int} {p : Option Addr} {cap : Nat} {w : World} {r : Gh} {va vb : Value} {K : Value → World → Prop} (hr : Holds r w) (ha : TyG r va a) (hb : TyG r vb b) (hl : Ob r fun w => Sl w p (ints l)) (hcap : l.length ≤ cap) (hp : p = none → cap = 0)
    (h : ∀ w', Ext w w' → K (.bool true) w') : oCall Tryd.prog Tryd.n_law06_TypesTurn #[va, vb, .int .i64 f, .slice p l.length cap] w K := by
  refine Tryd.ok_law06_TypesTurn ?_
  unfold Tryd.F_law06_TypesTurn
  have ha0 := ha
  obtain ⟨pa, capa, rfl, _⟩ := ha
  have hb0 := hb
  obtain ⟨pb, capb, rfl, _⟩ := hb
  have S := St.start hr
  refine S.box fun b2 w1 S => ?_
  refine S.box fun b3 w2 S => ?_
  have S : StX noX w r w2 [.cell b3 (tyCs b pb capb) 25, .cell b2 (tyCs a pa capa) 25] := S
  refine S.ldB ?_ rfl
  refine c_law06_typeFits 60 (by decide) (by decide) (by decide) S.holds ha0 fun x w3 e3 => ?_
  have S := S.go e3
  (first | refine s_p ?_ | refine s_c (by omega) ?_)
  refine j_borX (fun _ K2 hK2 => ?_) fun x2 w4 e4 => ?_
  · refine S.ldB ?_ rfl
    refine c_law06_typeFits 60 (by decide) (by decide) (by decide) S.holds hb0 fun x w3 e3 => ?_
    (first | refine s_p ?_ | refine s_c (by omega) ?_)
    exact hK2 _ _ e3
  have S := S.go e4
  refine j_borH (c := decide (100 < l.length)) (fun _ K2 hK2 => ?_) ?_
  · (repeat (first | refine s_p ?_ | refine s_c (by omega) ?_ | refine S.ld ?_ | refine S.ldB ?_ | refine S.ce ?_ | refine S.ceB ?_ | refine s_q ?_ | refine s_qc (by omega) ?_ | refine n_some ?_ | rw [List.getD_cons_zero] | rw [List.getD_cons_succ]))
    rw [show decide ((100 : Int) < (l.length : Int)) = decide (100 < l.length) from decide_eq_decide.2 (by omega)]
    exact hK2
  refine c_b (fun _ => ?_) (fun hc => ?_)
  · exact c_law06_awake fun w5 e5 => h _ (S.go e5).ext
  have hlen : l.length ≤ 100 := by
    simp only [Bool.or_eq_false_iff, decide_eq_false_iff_not] at hc
    omega
  clear hc
  refine S.ldB ?_ rfl
  refine c_types_Own S.holds ha0 fun vx sx w5 e5 n5 hx hcx => ?_
  obtain ⟨S, dx, ax⟩ := S.tell e5 n5
  have hx0 := hx
  obtain ⟨px, capx, rfl, _⟩ := hx
  (first | refine s_p ?_ | refine s_c (by omega) ?_)
  (first | refine s_p ?_ | refine s_c (by omega) ?_)
  refine S.al fun b9 w6 S => ?_
  refine S.stB fun w7 S => ?_
  refine S.ldB (b := b2) ?_ rfl
  refine c_types_Own S.holds ha0.up fun vy sy w8 e8 n8 hy hcy => ?_
  obtain ⟨S, dy, ay⟩ := S.tell e8 n8
  have hy0 := hy
  obtain ⟨py, capy, rfl, _⟩ := hy
  (first | refine s_p ?_ | refine s_c (by omega) ?_)
  (first | refine s_p ?_ | refine s_c (by omega) ?_)
  refine S.al fun b11 w9 S => ?_
  refine S.stB fun w10 S => ?_
  generalize hT : (if isB a = true then a else zeroD) = T at hx0 hcx hy0 hcy S
  have hfew := hcx.few
  refine S.ldB (b := b2) ?_ rfl
  refine c_ref06_Is S.holds ha0.up fun w11 e11 => ?_
  have S := S.go e11
  refine j_intro (fun s w' => s = (if isB a then [.bool false] else [undef]) ∧ w' = w11) (fun K2 hK2 => ?_) ?_
  · cases hB : isB a
    · (repeat (first | (first | refine s_p ?_ | refine s_c (by omega) ?_ | refine S.ld ?_ | refine S.ldB ?_ | refine S.ce ?_ | refine S.ceB ?_ | refine s_q ?_ | refine s_qc (by omega) ?_ | refine n_some ?_ | rw [List.getD_cons_zero] | rw [List.getD_cons_succ]) | refine g_TT ?_ | refine g_FF ?_ | refine g_TF ?_ | refine g_FT ?_ | refine g_UU ?_ | refine k_pickT ?_ | refine k_pickF ?_))
      exact hK2 _ _ ⟨by first | rfl | (rw [hB] <;> rfl), rfl⟩
    · (repeat (first | (first | refine s_p ?_ | refine s_c (by omega) ?_ | refine S.ld ?_ | refine S.ldB ?_ | refine S.ce ?_ | refine S.ceB ?_ | refine s_q ?_ | refine s_qc (by omega) ?_ | refine n_some ?_ | rw [List.getD_cons_zero] | rw [List.getD_cons_succ]) | refine g_TT ?_ | refine g_FF ?_ | refine g_TF ?_ | refine g_FT ?_ | refine g_UU ?_ | refine k_pickT ?_ | refine k_pickF ?_))
      exact hK2 _ _ ⟨by first | rfl | (rw [hB] <;> rfl), rfl⟩
  rintro _ w11 ⟨rfl, rfl⟩ d
  refine j_intro (fun s w' => s = (if isB a then [.bool false] else [undef]) ∧ w' = w11) (fun K2 hK2 => ?_) ?_
  · cases hB : isB a
    · (repeat (first | (first | refine s_p ?_ | refine s_c (by omega) ?_ | refine S.ld ?_ | refine S.ldB ?_ | refine S.ce ?_ | refine S.ceB ?_ | refine s_q ?_ | refine s_qc (by omega) ?_ | refine n_some ?_ | rw [List.getD_cons_zero] | rw [List.getD_cons_succ]) | refine g_TT ?_ | refine g_FF ?_ | refine g_TF ?_ | refine g_FT ?_ | refine g_UU ?_ | refine k_pickT ?_ | refine k_pickF ?_))
      exact hK2 _ _ ⟨by first | rfl | (rw [hB] <;> rfl), rfl⟩
    · (repeat (first | (first | refine s_p ?_ | refine s_c (by omega) ?_ | refine S.ld ?_ | refine S.ldB ?_ | refine S.ce ?_ | refine S.ceB ?_ | refine s_q ?_ | refine s_qc (by omega) ?_ | refine n_some ?_ | rw [List.getD_cons_zero] | rw [List.getD_cons_succ]) | refine g_TT ?_ | refine g_FF ?_ | refine g_TF ?_ | refine g_FT ?_ | refine g_UU ?_ | refine k_pickT ?_ | refine k_pickF ?_))
      exact hK2 _ _ ⟨by first | rfl | (rw [hB] <;> rfl), rfl⟩
  rintro _ w11 ⟨rfl, rfl⟩ d
  refine j_intro (fun s w' => s = (if isB a then [.bool false] else [undef]) ∧ w' = w11) (fun K2 hK2 => ?_) ?_
  · cases hB : isB a
    · (repeat (first | (first | refine s_p ?_ | refine s_c (by omega) ?_ | refine S.ld ?_ | refine S.ldB ?_ | refine S.ce ?_ | refine S.ceB ?_ | refine s_q ?_ | refine s_qc (by omega) ?_ | refine n_some ?_ | rw [List.getD_cons_zero] | rw [List.getD_cons_succ]) | refine g_TT ?_ | refine g_FF ?_ | refine g_TF ?_ | refine g_FT ?_ | refine g_UU ?_ | refine k_pickT ?_ | refine k_pickF ?_))
      exact hK2 _ _ ⟨by first | rfl | (rw [hB] <;> rfl), rfl⟩
    · (repeat (first | (first | refine s_p ?_ | refine s_c (by omega) ?_ | refine S.ld ?_ | refine S.ldB ?_ | refine S.ce ?_ | refine S.ceB ?_ | refine s_q ?_ | refine s_qc (by omega) ?_ | refine n_some ?_ | rw [List.getD_cons_zero] | rw [List.getD_cons_succ]) | refine g_TT ?_ | refine g_FF ?_ | refine g_TF ?_ | refine g_FT ?_ | refine g_UU ?_ | refine k_pickT ?_ | refine k_pickF ?_))
      exact hK2 _ _ ⟨by first | rfl | (rw [hB] <;> rfl), rfl⟩
  rintro _ w11 ⟨rfl, rfl⟩ d
  refine j_intro (fun s w' => s = (if isB a then [.bool false] else [undef]) ∧ Ext w11 w') (fun K2 hK2 => ?_) ?_
  · cases hB : isB a
    · (repeat (first | (first | refine s_p ?_ | refine s_c (by omega) ?_ | refine S.ld ?_ | refine S.ldB ?_ | refine S.ce ?_ | refine S.ceB ?_ | refine s_q ?_ | refine s_qc (by omega) ?_ | refine n_some ?_ | rw [List.getD_cons_zero] | rw [List.getD_cons_succ]) | refine g_TT ?_ | refine g_FF ?_ | refine g_TF ?_ | refine g_FT ?_ | refine g_UU ?_ | refine k_pickT ?_ | refine k_pickF ?_))
      exact hK2 _ _ ⟨by first | rfl | (rw [hB] <;> rfl), .refl _⟩
    · rw [if_pos hB] at hT
      subst hT
      refine g_FF ?_
      (repeat (first | refine s_p ?_ | refine s_c (by omega) ?_ | refine S.ld ?_ | refine S.ldB ?_ | refine S.ce ?_ | refine S.ceB ?_ | refine s_q ?_ | refine s_qc (by omega) ?_ | refine n_some ?_ | rw [List.getD_cons_zero] | rw [List.getD_cons_succ]))
      refine c_law06_equal _ a (Nat.le_refl _) hfew S.holds hx0.up ha0.up fun w12 e12 => ?_
      (repeat (first | refine s_p ?_ | refine s_c (by omega) ?_ | refine S.ld ?_ | refine S.ldB ?_ | refine S.ce ?_ | refine S.ceB ?_ | refine s_q ?_ | refine s_qc (by omega) ?_ | refine n_some ?_ | rw [List.getD_cons_zero] | rw [List.getD_cons_succ]))
      exact hK2 _ _ ⟨by first | rfl | (rw [hB] <;> rfl), e12⟩
  rintro _ w12 ⟨rfl, e12⟩ d
  have S := S.go e12
  refine j_intro (fun s w' => s = (if isB a then [.bool false] else [undef]) ∧ w' = w12) (fun K2 hK2 => ?_) ?_
  · cases hB : isB a
    · (repeat (first | (first | refine s_p ?_ | refine s_c (by omega) ?_ | refine S.ld ?_ | refine S.ldB ?_ | refine S.ce ?_ | refine S.ceB ?_ | refine s_q ?_ | refine s_qc (by omega) ?_ | refine n_some ?_ | rw [List.getD_cons_zero] | rw [List.getD_cons_succ]) | refine g_TT ?_ | refine g_FF ?_ | refine g_TF ?_ | refine g_FT ?_ | refine g_UU ?_ | refine k_pickT ?_ | refine k_pickF ?_))
      exact hK2 _ _ ⟨by first | rfl | (rw [hB] <;> rfl), rfl⟩
    · (repeat (first | (first | refine s_p ?_ | refine s_c (by omega) ?_ | refine S.ld ?_ | refine S.ldB ?_ | refine S.ce ?_ | refine S.ceB ?_ | refine s_q ?_ | refine s_qc (by omega) ?_ | refine n_some ?_ | rw [List.getD_cons_zero] | rw [List.getD_cons_succ]) | refine g_TT ?_ | refine g_FF ?_ | refine g_TF ?_ | refine g_FT ?_ | refine g_UU ?_ | refine k_pickT ?_ | refine k_pickF ?_))
      exact hK2 _ _ ⟨by first | rfl | (rw [hB] <;> rfl), rfl⟩
  rintro _ w12 ⟨rfl, rfl⟩ d
  refine ⟨isB a, rfl, ?_⟩
  have e63 : (if isB a = true then (if isB a then [Value.bool false] else [undef]).getD 0 undef else Value.bool false) = .bool false := by cases isB a <;> rfl
  rw [e63]
  refine j_intro (fun s w' => s = [.bool (!isB a)] ∧ w' = w12) (fun K2 hK2 => ?_) ?_
  · (repeat (first | (first | refine s_p ?_ | refine s_c (by omega) ?_ | refine S.ld ?_ | refine S.ldB ?_ | refine S.ce ?_ | refine S.ceB ?_ | refine s_q ?_ | refine s_qc (by omega) ?_ | refine n_some ?_ | rw [List.getD_cons_zero] | rw [List.getD_cons_succ]) | refine g_TT ?_ | refine g_FF ?_ | refine g_TF ?_ | refine g_FT ?_ | refine g_UU ?_ | refine k_pickT ?_ | refine k_pickF ?_))
    exact hK2 _ _ ⟨rfl, rfl⟩
  rintro _ w12 ⟨rfl, rfl⟩ d
  refine j_intro (fun s w' => s = (if isB a then [undef] else [.bool false]) ∧ w' = w12) (fun K2 hK2 => ?_) ?_
  · cases hB : isB a
    · (repeat (first | (first | refine s_p ?_ | refine s_c (by omega) ?_ | refine S.ld ?_ | refine S.ldB ?_ | refine S.ce ?_ | refine S.ceB ?_ | refine s_q ?_ | refine s_qc (by omega) ?_ | refine n_some ?_ | rw [List.getD_cons_zero] | rw [List.getD_cons_succ]) | refine g_TT ?_ | refine g_FF ?_ | refine g_TF ?_ | refine g_FT ?_ | refine g_UU ?_ | refine k_pickT ?_ | refine k_pickF ?_))
      exact hK2 _ _ ⟨by first | rfl | (rw [hB] <;> rfl), rfl⟩
    · (repeat (first | (first | refine s_p ?_ | refine s_c (by omega) ?_ | refine S.ld ?_ | refine S.ldB ?_ | refine S.ce ?_ | refine S.ceB ?_ | refine s_q ?_ | refine s_qc (by omega) ?_ | refine n_some ?_ | rw [List.getD_cons_zero] | rw [List.getD_cons_succ]) | refine g_TT ?_ | refine g_FF ?_ | refine g_TF ?_ | refine g_FT ?_ | refine g_UU ?_ | refine k_pickT ?_ | refine k_pickF ?_))
      exact hK2 _ _ ⟨by first | rfl | (rw [hB] <;> rfl), rfl⟩
  rintro _ w12 ⟨rfl, rfl⟩ d
  refine j_intro (fun s w' => s = (if isB a then [undef] else [.bool false]) ∧ Ext w12 w') (fun K2 hK2 => ?_) ?_
  · cases hB : isB a
    · rw [hB] at hT
      have hT : zeroD = T := hT
      subst hT
      refine g_FF ?_
      (repeat (first | refine s_p ?_ | refine s_c (by omega) ?_ | refine S.ld ?_ | refine S.ldB ?_ | refine S.ce ?_ | refine S.ceB ?_ | refine s_q ?_ | refine s_qc (by omega) ?_ | refine n_some ?_ | rw [List.getD_cons_zero] | rw [List.getD_cons_succ]))
      refine c_law06_equal _ zeroD (Nat.le_refl _) hfew S.holds (hx0.up) (ty_leaf (r := nothing)).up fun w13 e13 => ?_
      (repeat (first | refine s_p ?_ | refine s_c (by omega) ?_ | refine S.ld ?_ | refine S.ldB ?_ | refine S.ce ?_ | refine S.ceB ?_ | refine s_q ?_ | refine s_qc (by omega) ?_ | refine n_some ?_ | rw [List.getD_cons_zero] | rw [List.getD_cons_succ]))
      exact hK2 _ _ ⟨by first | rfl | (rw [hB] <;> rfl), e13⟩
    · (repeat (first | (first | refine s_p ?_ | refine s_c (by omega) ?_ | refine S.ld ?_ | refine S.ldB ?_ | refine S.ce ?_ | refine S.ceB ?_ | refine s_q ?_ | refine s_qc (by omega) ?_ | refine n_some ?_ | rw [List.getD_cons_zero] | rw [List.getD_cons_succ]) | refine g_TT ?_ | refine g_FF ?_ | refine g_TF ?_ | refine g_FT ?_ | refine g_UU ?_ | refine k_pickT ?_ | refine k_pickF ?_))
      exact hK2 _ _ ⟨by first | rfl | (rw [hB] <;> rfl), .refl _⟩
  rintro _ w13 ⟨rfl, e13⟩ d
  have S := S.go e13
  refine j_intro (fun s w' => s = (if isB a then [undef] else [.bool false]) ∧ w' = w13) (fun K2 hK2 => ?_) ?_
  · cases hB : isB a
    · (repeat (first | (first | refine s_p ?_ | refine s_c (by omega) ?_ | refine S.ld ?_ | refine S.ldB ?_ | refine S.ce ?_ | refine S.ceB ?_ | refine s_q ?_ | refine s_qc (by omega) ?_ | refine n_some ?_ | rw [List.getD_cons_zero] | rw [List.getD_cons_succ]) | refine g_TT ?_ | refine g_FF ?_ | refine g_TF ?_ | refine g_FT ?_ | refine g_UU ?_ | refine k_pickT ?_ | refine k_pickF ?_))
      exact hK2 _ _ ⟨by first | rfl | (rw [hB] <;> rfl), rfl⟩
    · (repeat (first | (first | refine s_p ?_ | refine s_c (by omega) ?_ | refine S.ld ?_ | refine S.ldB ?_ | refine S.ce ?_ | refine S.ceB ?_ | refine s_q ?_ | refine s_qc (by omega) ?_ | refine n_some ?_ | rw [List.getD_cons_zero] | rw [List.getD_cons_succ]) | refine g_TT ?_ | refine g_FF ?_ | refine g_TF ?_ | refine g_FT ?_ | refine g_UU ?_ | refine k_pickT ?_ | refine k_pickF ?_))
      exact hK2 _ _ ⟨by first | rfl | (rw [hB] <;> rfl), rfl⟩
  rintro _ w13 ⟨rfl, rfl⟩ d
  refine j_intro (fun s w' => s = [.bool false] ∧ w' = w13) (fun K2 hK2 => ?_) ?_
  · cases hB : isB a
    · (repeat (first | (first | refine s_p ?_ | refine s_c (by omega) ?_ | refine S.ld ?_ | refine S.ldB ?_ | refine S.ce ?_ | refine S.ceB ?_ | refine s_q ?_ | refine s_qc (by omega) ?_ | refine n_some ?_ | rw [List.getD_cons_zero] | rw [List.getD_cons_succ]) | refine g_TT ?_ | refine g_FF ?_ | refine g_TF ?_ | refine g_FT ?_ | refine g_UU ?_ | refine k_pickT ?_ | refine k_pickF ?_))
      exact hK2 _ _ ⟨by first | rfl | (rw [hB] <;> rfl), rfl⟩
    · (repeat (first | (first | refine s_p ?_ | refine s_c (by omega) ?_ | refine S.ld ?_ | refine S.ldB ?_ | refine S.ce ?_ | refine S.ceB ?_ | refine s_q ?_ | refine s_qc (by omega) ?_ | refine n_some ?_ | rw [List.getD_cons_zero] | rw [List.getD_cons_succ]) | refine g_TT ?_ | refine g_FF ?_ | refine g_TF ?_ | refine g_FT ?_ | refine g_UU ?_ | refine k_pickT ?_ | refine k_pickF ?_))
      exact hK2 _ _ ⟨by first | rfl | (rw [hB] <;> rfl), rfl⟩
  rintro _ w13 ⟨rfl, rfl⟩ d
  refine k_pickF ?_
  refine c_f rfl ?_
  -- the one is written over
  refine S.ldB (b := b9) ?_ rfl
  refine c_law06_spoil hcx hx0 (S.holds.le (h := inferInstance)) fun w14 e14 => ?_
  have S := spoilt (q := r.or sy) (s := sx) S e14 (fun b o hb => .inl (.inr hb)) ax (fun b o hb => hb.elim (fun hb => .inl (.inl hb)) fun hb => .inr hb)
    (dx.or (fun b o o' h1 h2 => dy b o' o h2 (.inr h1)))
  have S := S.go (Ext.drew _)
  refine j_intro (fun s w' => s = (if isB a then [.bool false] else [undef]) ∧ Ext w14.drew w') (fun K2 hK2 => ?_) ?_
  · cases hB : isB a
    · (repeat (first | (first | refine s_p ?_ | refine s_c (by omega) ?_ | refine S.ld ?_ | refine S.ldB ?_ | refine S.ce ?_ | refine S.ceB ?_ | refine s_q ?_ | refine s_qc (by omega) ?_ | refine n_some ?_ | rw [List.getD_cons_zero] | rw [List.getD_cons_succ]) | refine g_TT ?_ | refine g_FF ?_ | refine g_TF ?_ | refine g_FT ?_ | refine g_UU ?_ | refine k_pickT ?_ | refine k_pickF ?_))
      exact hK2 _ _ ⟨by first | rfl | (rw [hB] <;> rfl), .refl _⟩
    · rw [if_pos hB] at hT
      subst hT
      refine g_TT ?_
      (repeat (first | refine s_p ?_ | refine s_c (by omega) ?_ | refine S.ld ?_ | refine S.ldB ?_ | refine S.ce ?_ | refine S.ceB ?_ | refine s_q ?_ | refine s_qc (by omega) ?_ | refine n_some ?_ | rw [List.getD_cons_zero] | rw [List.getD_cons_succ]))
      refine c_law06_equal _ a (Nat.le_refl _) hfew S.holds hy0.up ha0.up fun w12 e12 => ?_
      (repeat (first | refine s_p ?_ | refine s_c (by omega) ?_ | refine S.ld ?_ | refine S.ldB ?_ | refine S.ce ?_ | refine S.ceB ?_ | refine s_q ?_ | refine s_qc (by omega) ?_ | refine n_some ?_ | rw [List.getD_cons_zero] | rw [List.getD_cons_succ]))
      exact hK2 _ _ ⟨by first | rfl | (rw [hB] <;> rfl), e12⟩
  rintro _ w15 ⟨rfl, e15⟩ d
  have S := S.go e15
  refine ⟨isB a, rfl, ?_⟩
  rw [e63]
  refine j_borE (c := false) (fun _ K2 hK2 => ?_) fun w16 e16 => ?_
  · (repeat (first | refine s_p ?_ | refine s_c (by omega) ?_ | refine S.ld ?_ | refine S.ldB ?_ | refine S.ce ?_ | refine S.ceB ?_ | refine s_q ?_ | refine s_qc (by omega) ?_ | refine n_some ?_ | rw [List.getD_cons_zero] | rw [List.getD_cons_succ]))
    refine c_types_Alike S.holds ha0.up hb0.up fun w17 e17 => ⟨e17, ?_⟩
    have S := S.go e17
    refine c_ref06_Alike S.holds ha0.up hb0.up fun w18 e18 => ?_
    (repeat (first | refine s_p ?_ | refine s_c (by omega) ?_ | refine S.ld ?_ | refine S.ldB ?_ | refine S.ce ?_ | refine S.ceB ?_ | refine s_q ?_ | refine s_qc (by omega) ?_ | refine n_some ?_ | rw [List.getD_cons_zero] | rw [List.getD_cons_succ]))
    rw [beq_self_eq_true]
    exact hK2 _ (e17.trans e18)
  have S := S.go e16
  refine j_borE (c := false) (fun _ K2 hK2 => ?_) fun w16 e16 => ?_
  · (repeat (first | refine s_p ?_ | refine s_c (by omega) ?_ | refine S.ld ?_ | refine S.ldB ?_ | refine S.ce ?_ | refine S.ceB ?_ | refine s_q ?_ | refine s_qc (by omega) ?_ | refine n_some ?_ | rw [List.getD_cons_zero] | rw [List.getD_cons_succ]))
    refine c_types_Same S.holds ha0.up hb0.up fun w17 e17 => ⟨e17, ?_⟩
    have S := S.go e17
    refine c_ref06_Same S.holds ha0.up hb0.up fun w18 e18 => ?_
    (repeat (first | refine s_p ?_ | refine s_c (by omega) ?_ | refine S.ld ?_ | refine S.ldB ?_ | refine S.ce ?_ | refine S.ceB ?_ | refine s_q ?_ | refine s_qc (by omega) ?_ | refine n_some ?_ | rw [List.getD_cons_zero] | rw [List.getD_cons_succ]))
    rw [beq_self_eq_true]
    exact hK2 _ (e17.trans e18)
  have S := S.go e16
  refine c_f rfl ?_
  -- the regions
  refine S.ldB (b := b2) ?_ rfl
  refine c_types_Regions S.holds ha0.up fun v1 w17 e17 o17 => ?_
  obtain ⟨s1, p1, cap1, n1, nb1, rfl, _, _, hs1⟩ := row_gh o17
  have S := S.new e17 n1
  refine S.ldB (b := b2) ?_ rfl
  refine c_ref06_Regions S.holds ha0.up fun v2 w18 e18 o18 => ?_
  obtain ⟨s2, p2, cap2, n2, nb2, rfl, _, _, hs2⟩ := row_gh o18
  have S := S.new e18 n2
  (first | refine s_p ?_ | refine s_c (by omega) ?_)
  (first | refine s_p ?_ | refine s_c (by omega) ?_)
  (first | refine s_p ?_ | refine s_c (by omega) ?_)
  refine c_f (by simp) ?_
  have hrl : (regsT a).length ≤ 48 := by
    rw [regsT]; split
    · exact regs_le48 (by assumption)
    · simp
  refine l_intro (ι := Nat) (fun i => [.int .i64 i]) (fun i w' => i ≤ (regsT a).length ∧ StX noX w _ w' _) (fun i => (regsT a).length - i) 0 rfl ⟨Nat.zero_le _, S⟩ ?_
  clear S
  rintro i d w19 ⟨hi, S⟩ K6 hK6
  rw [List.getD_cons_zero]
  (first | refine s_p ?_ | refine s_c (by omega) ?_)
  (first | refine s_p ?_ | refine s_c (by omega) ?_)
  refine c_b (fun hlt => ?_) (fun hge => ?_)
  · have hlt : i < (regsT a).length := by simpa using hlt
    obtain ⟨bq1, oq1, rfl, hq1⟩ := ints_at (S.at hs1) hlt
    obtain ⟨bq2, oq2, rfl, hq2⟩ := ints_at (S.at hs2) hlt
    have S := S.go (Ext.drew _)
    (first | refine s_p ?_ | refine s_c (by omega) ?_)
    refine s_ld1 (cell_ext (by simpa using hq1) (Ext.drew _)) ?_
    (first | refine s_p ?_ | refine s_c (by omega) ?_)
    refine s_ld1 (cell_ext (by simpa using hq2) (Ext.drew _)) ?_
    (first | refine s_p ?_ | refine s_c (by omega) ?_)
    refine c_f (by simp) ?_
    (first | refine s_p ?_ | refine s_c (by omega) ?_)
    rw [show ((i : Int) + 1) = ((i + 1 : Nat) : Int) by omega]
    exact hK6 (i + 1) _ ⟨hlt, S⟩ (by omega)
  clear hge hi
  -- the numbers
  have S := S.to (r.or sy)
  refine S.ldB (b := b2) ?_ rfl
  refine c_types_Number S.holds ha0.up fun vx1 sx1 w20 e20 n20 hx1 hcx1 => ?_
  obtain ⟨S, dx1, ax1⟩ := S.tell e20 n20
  have hx10 := hx1
  obtain ⟨px1, capx1, rfl, _⟩ := hx1
  (first | refine s_p ?_ | refine s_c (by omega) ?_)
  (first | refine s_p ?_ | refine s_c (by omega) ?_)
  (first | refine s_p ?_ | refine s_c (by omega) ?_)
  refine S.stB (b := b9) fun w21 S => ?_
  refine S.ldB (b := b2) ?_ rfl
  refine c_types_Number S.holds ha0.up fun vy1 sy1 w22 e22 n22 hy1 hcy1 => ?_
  obtain ⟨S, dy1, ay1⟩ := S.tell e22 n22
  have hy10 := hy1
  obtain ⟨py1, capy1, rfl, _⟩ := hy1
  (first | refine s_p ?_ | refine s_c (by omega) ?_)
  (first | refine s_p ?_ | refine s_c (by omega) ?_)
  (first | refine s_p ?_ | refine s_c (by omega) ?_)
  refine S.stB (b := b11) fun w23 S => ?_
  refine S.ldB (b := b2) ?_ rfl
  refine c_ref06_Number S.holds ha0.up fun vz1 sz1 w24 e24 n24 hz1 => ?_
  obtain ⟨S, dz1, az1⟩ := S.tell e24 n24
  have hz10 := hz1
  obtain ⟨pz1, capz1, rfl, _⟩ := hz1
  (first | refine s_p ?_ | refine s_c (by omega) ?_)
  (first | refine s_p ?_ | refine s_c (by omega) ?_)
  (first | refine s_p ?_ | refine s_c (by omega) ?_)
  refine S.al fun b18 w25 S => ?_
  refine S.stB fun w26 S => ?_
  have hfew1 := hcx1.few
  (first | refine s_p ?_ | refine s_c (by omega) ?_)
  refine j_borH (c := false) (fun _ K2 hK2 => ?_) ?_
  · (repeat (first | refine s_p ?_ | refine s_c (by omega) ?_ | refine S.ld ?_ | refine S.ldB ?_ | refine S.ce ?_ | refine S.ceB ?_ | refine s_q ?_ | refine s_qc (by omega) ?_ | refine n_some ?_ | rw [List.getD_cons_zero] | rw [List.getD_cons_succ]))
    simpa using hK2
  rw [show (decide ((numT a f).2.1 ≠ (numT a f).2.1) || false) = false by simp]
  refine j_borE (c := false) (fun _ K2 hK2 => ?_) fun w27 e27 => ?_
  · refine S.ldB (b := b9) ?_ rfl
    refine S.ldB (b := b18) ?_ rfl
    refine c_law06_equal _ (numT a f).1 (Nat.le_refl _) hfew1 S.holds hx10.up hz10.up fun w28 e28 => ?_
    (first | refine s_p ?_ | refine s_c (by omega) ?_)
    exact hK2 _ e28
  have S := S.go e27
  refine c_f rfl ?_
  refine S.ldB (b := b9) ?_ rfl
  refine c_law06_spoil hcx1 hx10 (S.holds.le (h := inferInstance)) fun w28 e28 => ?_
  have S := spoilt (q := (r.or sy1).or sz1) (s := sx1) S e28 (fun b o hb => .inl (.inl (.inr hb))) ax1 (fun b o hb => hb.elim (fun hb => hb.elim (fun hb => .inl (.inl (.inl (.inl hb)))) fun hb => .inl (.inr hb)) fun hb => .inr hb)
    (((dx1.le (l := ⟨fun _ _ h => .inl h⟩)).or (fun b o o' h1 h2 => dy1 b o' o h2 (.inr h1))).or (fun b o o' h1 h2 => dz1 b o' o h2 (.inl (.inr h1))))
  refine S.ldB (b := b11) ?_ rfl
  refine S.ldB (b := b18) ?_ rfl
  refine c_law06_equal _ (numT a f).1 (Nat.le_refl _) hfew1 S.holds hy10.up hz10.up fun w29 e29 => ?_
  have S := S.go e29
  (first | refine s_p ?_ | refine s_c (by omega) ?_)
  refine c_f rfl ?_
  -- the regions laid anew
  have S := S.to r
  have S := S.ownNil 3 1
  refine S.ap (S.at hl) (fun v30 w30 S => ?_) (by omega) (by rw [ints_len]; omega) hp (ints_ones _)
  refine S.lit (e := 3) (cs := [.int .i64 77]) (by kernel_rfl) fun b31 w31 S => ?_
  refine S.ap (Sl.blk (S.blk b31)) (fun v32 w32 S => ?_) (by omega)
  have S := S.go (Ext.drew _)
  obtain ⟨b33, cap33, c33, rfl, hc33, hcl33, htk33, S⟩ := S.rowCell v32 (by omega)
  have S := S.frzAt b33
  have hown : Ob (one b33 c33 3) fun w => Sl w (some ⟨b33, 0, none⟩) (ints l ++ [.int .i64 77]) := fun w' k => by
    have := (Sl.blk (one_blk w' k)).take ((0 + l.length + 1) * 1)
    rw [htk33] at this
    exact this
  have hown1 : Ob (one b33 c33 3) fun w => Sl w (some ⟨b33, 0, none⟩) (ints l) := hown.mono fun w' k i v hv => k i v (by rw [List.getElem?_append_left (List.getElem?_eq_some_iff.1 hv).1]; exact hv)
  refine S.ldB (b := b2) ?_ rfl
  (first | refine s_p ?_ | refine s_c (by omega) ?_)
  (first | refine s_p ?_ | refine s_c (by omega) ?_)
  rw [Int.toNat_natCast]
  refine c_types_Anew S.holds ha0.up hown1.up (by omega) fun vx2 sx2 w34 e34 n34 hx2 hcx2 => ?_
  obtain ⟨S, dx2, ax2⟩ := S.tell e34 n34
  have hx20 := hx2
  obtain ⟨px2, capx2, rfl, _⟩ := hx2
  (first | refine s_p ?_ | refine s_c (by omega) ?_)
  (first | refine s_p ?_ | refine s_c (by omega) ?_)
  refine S.stB (b := b9) fun w35 S => ?_
  have S := S.go (Ext.drew _)
  refine S.ldB (b := b2) ?_ rfl
  (first | refine s_p ?_ | refine s_c (by omega) ?_)
  (first | refine s_p ?_ | refine s_c (by omega) ?_)
  rw [Int.toNat_natCast]
  refine c_types_Anew S.holds ha0.up hown1.up (by omega) fun vy2 sy2 w36 e36 n36 hy2 hcy2 => ?_
  obtain ⟨S, dy2, ay2⟩ := S.tell e36 n36
  have hy20 := hy2
  obtain ⟨py2, capy2, rfl, _⟩ := hy2
  (first | refine s_p ?_ | refine s_c (by omega) ?_)
  (first | refine s_p ?_ | refine s_c (by omega) ?_)
  refine S.stB (b := b11) fun w37 S => ?_
  refine S.ldB (b := b2) ?_ rfl
  refine c_ref06_Anew S.holds ha0.up hl.up (by omega) hcap fun vz2 sz2 w38 e38 n38 hz2 => ?_
  obtain ⟨S, dz2, az2⟩ := S.tell e38 n38
  have hz20 := hz2
  obtain ⟨pz2, capz2, rfl, _⟩ := hz2
  (first | refine s_p ?_ | refine s_c (by omega) ?_)
  (first | refine s_p ?_ | refine s_c (by omega) ?_)
  refine S.stB (b := b18) fun w39 S => ?_
  have hfew2 := hcx2.few
  (first | refine s_p ?_ | refine s_c (by omega) ?_)
  rw [show decide ((anewT a l).2 ≠ (anewT a l).2) = false by simp]
  refine j_borE (c := false) (fun _ K2 hK2 => ?_) fun w40 e40 => ?_
  · refine S.ldB (b := b9) ?_ rfl
    refine S.ldB (b := b18) ?_ rfl
    refine c_law06_equal _ (anewT a l).1 (Nat.le_refl _) hfew2 S.holds hx20.up hz20.up fun w41 e41 => ?_
    (first | refine s_p ?_ | refine s_c (by omega) ?_)
    exact hK2 _ e41
  have S := S.go e40
  refine c_f rfl ?_
  refine S.ldB (b := b9) ?_ rfl
  refine c_law06_spoil hcx2 hx20 (S.holds.le (h := inferInstance)) fun w42 e42 => ?_
  have S := spoilt (q := ((r.or (one b33 c33 3)).or sy2).or sz2) (s := sx2) S e42 (fun b o hb => .inl (.inl (.inr hb))) ax2
    (fun b o hb => hb.elim (fun hb => hb.elim (fun hb => .inl (.inl (.inl hb))) fun hb => .inl (.inr hb)) fun hb => .inr hb)
    ((dx2.or (fun b o o' h1 h2 => dy2 b o' o h2 (.inr h1))).or (fun b o o' h1 h2 => dz2 b o' o h2 (.inl (.inr h1))))
  refine l_intro (ι := Nat) (fun i => [.int .i64 i]) (fun i w' => i ≤ l.length ∧ StX noX w _ w' _) (fun i => l.length - i) 0 rfl ⟨Nat.zero_le _, S⟩ ?_
  clear S
  rintro i d w43 ⟨hi, S⟩ K6 hK6
  rw [List.getD_cons_zero]
  (first | refine s_p ?_ | refine s_c (by omega) ?_)
  (first | refine s_p ?_ | refine s_c (by omega) ?_)
  refine c_b (fun hlt => ?_) (fun hge => ?_)
  · have hlt : i < l.length := by simpa using hlt
    obtain ⟨bq1, oq1, hq0, hq1⟩ := ints_at (S.at hown1) hlt
    cases hq0
    obtain ⟨bq2, oq2, rfl, hq2⟩ := ints_at (S.at hl) hlt
    have S := S.go (Ext.drew _)
    (first | refine s_p ?_ | refine s_c (by omega) ?_)
    refine s_ld1 (cell_ext (by simpa using hq1) (Ext.drew _)) ?_
    (first | refine s_p ?_ | refine s_c (by omega) ?_)
    refine s_ld1 (cell_ext (by simpa using hq2) (Ext.drew _)) ?_
    (first | refine s_p ?_ | refine s_c (by omega) ?_)
    refine c_f (by simp) ?_
    (first | refine s_p ?_ | refine s_c (by omega) ?_)
    rw [show ((i : Int) + 1) = ((i + 1 : Nat) : Int) by omega]
    exact hK6 (i + 1) _ ⟨hlt, S⟩ (by omega)
  clear hge hi
  refine S.ldB (b := b11) ?_ rfl
  refine S.ldB (b := b18) ?_ rfl
  refine c_law06_equal _ (anewT a l).1 (Nat.le_refl _) hfew2 S.holds hy20.up hz20.up fun w44 e44 => ?_
  have S := S.go e44
  refine j_bandH (c := true) (fun _ K2 hK2 => ?_) ?_
  · obtain ⟨bq1, oq1, hq0, hq1⟩ := (S.at hown).at (i := l.length) (by simp [ints_len])
    cases hq0
    (first | refine s_p ?_ | refine s_c (by omega) ?_)
    (first | refine s_p ?_ | refine s_c (by omega) ?_)
    refine s_ld1 (v := .int .i64 77) ?_ ?_
    · rw [Int.toNat_natCast]
      rw [hq1]
      simp [List.getElem_append_right, ints_len]
    (first | refine s_p ?_ | refine s_c (by omega) ?_)
    exact hK2
  refine j_bandE (c := true) (fun _ K2 hK2 => ?_) fun w49 e49 => ?_
  · exact c_law06_awake fun w20 e20 => hK2 _ e20
  exact h _ (S.go e49).ext
end Go.Proofs
end

section
namespace Go.Proofs.YtajllnahceaipaaDoor.open6
open Go.Sh Go.ChangeShapes Go.WideShapes Go.ChangeAt Go.RowKit
set_option maxRecDepth 100000
theorem gTab : Tryd.prog.globalNamed "internal/strconv.uint64pow10" = some 0 := by kernel_rfl
theorem gTabType : (Tryd.prog.globals[0]?).map (·.type) = some 135 := by kernel_rfl
theorem u135 : Tryd.prog.underlying 135 = some (.array 20 123) := by kernel_rfl
theorem u123 : Tryd.prog.underlying 123 = some (.int .u64) := by kernel_rfl
theorem cells135 : Tryd.prog.cellsOf 135 = 20 := by kernel_rfl
theorem cells123 : Tryd.prog.cellsOf 123 = 1 := by kernel_rfl
theorem laidTab : (Rows.laid_internal_strconv_uint64pow10 : DataW Unit) = Lib.tabData .u64 Lib.pow10Tab := by kernel_rfl
theorem table {W : World} (h : laidMetH Tryd.prog Rows.typesTextsRow.laid W) : TabG (all W) := by
  have h0 : laidMet Tryd.prog Rows.typesTextsRow.laid W := h
  have h1 : laidMet Tryd.prog [("internal/strconv.uint64pow10", Rows.laid_internal_strconv_uint64pow10)] W := laidMet.tail (laidMet.tail h0)
  rw [laidTab] at h1
  have ht : Lib.TabIs Tryd.prog W "internal/strconv.uint64pow10" .u64 Lib.pow10Tab := Lib.tabIs_of_head (rest := []) gTab gTabType u135 u123 cells123 cells135 h1
  intro w' hw
  unfold Lib.TabIs World.var? at ht ⊢
  rw [gTab] at ht ⊢
  simp only [Option.bind] at ht ⊢
  cases ho : W.heap[0]? with
  | none => rw [ho] at ht; cases ht
  | some o => rw [hw 0 o ho]; rw [ho] at ht; exact ht
theorem str_list (s : ByteArray) : ∃ l, s = bs l := ⟨s.data.toList, by cases s; simp [bs]⟩
end Go.Proofs.YtajllnahceaipaaDoor.open6
end

section
namespace Go.Proofs
open Go.Sh
set_option maxRecDepth 100000
set_option linter.unusedSimpArgs false
set_option linter.unusedVariables false
structure StD where
  name : ByteArray
  fs : List (ByteArray × TyD)
def fdat (f : ByteArray × TyD) : Dat := .agg [.str f.1, f.2.dat]
def StD.dat (s : StD) : Dat := .agg [.str s.name, .sl 6 (s.fs.map fdat)]
def FlG (r : Gh) (p : Option Addr) (fs : List (ByteArray × TyD)) : Prop := RepS r 6 p 0 (fs.map fdat)
def StG (r : Gh) (p : Option Addr) (ss : List StD) : Prop := RepS r 2 p 0 (ss.map StD.dat)
theorem FlG.up {r s : Gh} {p : Option Addr} {fs : List (ByteArray × TyD)} (h : FlG r p fs) [l : Le r s] : FlG s p fs := RepS.up' l h
theorem StG.up {r s : Gh} {p : Option Addr} {ss : List StD} (h : StG r p ss) [l : Le r s] : StG s p ss := RepS.up' l h
theorem fl_at {r : Gh} {p : Option Addr} {fs : List (ByteArray × TyD)} (h : FlG r p fs) {k : Nat} (hk : k < fs.length) : ∃ b off c, p = some ⟨b, off, none⟩ ∧ c.length = 5 ∧
    (∀ j v, (Value.string fs[k].1 :: c)[j]? = some v → Ob r fun w => w.cell? ⟨b, off + k * 6 + j, none⟩ = some v) ∧ TyG r (.agg c.toArray) fs[k].2 := by
  obtain ⟨c, h1, h2, h3⟩ := RepS.get h (i := k) (d := fdat fs[k]) (by rw [List.getElem?_map, List.getElem?_eq_getElem hk]; rfl)
  obtain ⟨a1, b1, rfl, e1, a2, b2, rfl, e2, e3⟩ := h3
  obtain rfl : a1 = _ := e1
  obtain rfl : b2 = [] := e3
  rw [List.append_nil] at h1 h2
  obtain ⟨b, off, rfl, _⟩ := h2 0 _ rfl
  refine ⟨b, off, a2, rfl, by simpa using h1, fun j v hj => ?_, TyG.of_rep e2⟩
  obtain ⟨b', off', hp, ho⟩ := h2 j v hj
  cases hp
  rwa [Nat.zero_add] at ho
theorem st_at {r : Gh} {p : Option Addr} {ss : List StD} (h : StG r p ss) {i : Nat} (hi : i < ss.length) : ∃ b off q cap, p = some ⟨b, off, none⟩ ∧
    (Ob r fun w => w.cell? ⟨b, off + i * 2 + 1, none⟩ = some (.slice q ss[i].fs.length cap)) ∧ (q = none → cap = 0) ∧ ss[i].fs.length ≤ cap ∧ FlG r q ss[i].fs := by
  obtain ⟨c, h1, h2, h3⟩ := RepS.get h (i := i) (d := StD.dat ss[i]) (by rw [List.getElem?_map, List.getElem?_eq_getElem hi]; rfl)
  obtain ⟨a1, b1, rfl, e1, a2, b2, rfl, e2, e3⟩ := h3
  obtain rfl : a1 = _ := e1
  obtain rfl : b2 = [] := e3
  obtain ⟨q, cap, rfl, hq, hc, hf⟩ := e2
  rw [List.length_map] at hc h2
  obtain ⟨b, off, rfl, _⟩ := h2 0 _ rfl
  obtain ⟨b', off', hp, ho⟩ := h2 1 (.slice q ss[i].fs.length cap) (by rfl)
  cases hp
  rw [Nat.zero_add] at ho
  exact ⟨b, off, q, cap, rfl, ho, hq, hc, hf⟩
/-! ### What stands in what -/
/-- the types of a struct's fields -/
def tysAt (ss : List StD) (k : Int) : List TyD := match ss[k.toNat]? with | some s => s.fs.map (·.2) | none => []
/-- a struct j stands in a field of k -/
def Kid (ss : List StD) (k j : Int) : Prop := ∃ t ∈ tysAt ss k, t.k = 5 ∧ t.st = j
inductive Rch (ss : List StD) : Int → Int → Prop
  | one {k j : Int} : Kid ss k j → Rch ss k j
  | more {k j i : Int} : Rch ss k j → Kid ss j i → Rch ss k i
theorem Rch.trans {ss : List StD} {a b c : Int} (h : Rch ss a b) (k : Rch ss b c) : Rch ss a c := by
  induction k with
  | one e => exact .more h e
  | more _ e ih => exact .more ih e
/-- each field's type may be among the structs -/
def Good (ss : List StD) : Prop := ∀ k, ∀ t ∈ tysAt ss k, lookB ss.length 48 t = true
theorem look_st {n : Int} {m : Nat} {t : TyD} (h : lookB n (m + 1) t = true) (hk : t.k = 5) : 0 ≤ t.st ∧ t.st < n ∧ t.of = [] := by
  rw [lookB_succ] at h
  rw [if_neg (by omega), if_pos hk] at h
  simp only [Bool.and_eq_true, decide_eq_true_eq] at h
  exact ⟨h.1.2, h.2, List.eq_nil_of_length_eq_zero h.1.1.2⟩
theorem kid_in {ss : List StD} (hg : Good ss) {k j : Int} (h : Kid ss k j) : 0 ≤ j ∧ j < ss.length := by
  obtain ⟨t, ht, h5, rfl⟩ := h
  have := look_st (hg k t ht) h5
  exact ⟨this.1, this.2.1⟩
theorem rch_in {ss : List StD} (hg : Good ss) {k j : Int} (h : Rch ss k j) : 0 ≤ j ∧ j < ss.length := by
  cases h with
  | one h => exact kid_in hg h
  | more _ h => exact kid_in hg h
open Classical in
/-- how many structs are reached -/
noncomputable def rkS (ss : List StD) (k : Int) : Nat := (List.range ss.length).countP fun j : Nat => decide (Rch ss k (j : Int))
noncomputable def rkT (ss : List StD) (t : TyD) : Nat := if t.k = 5 then rkS ss t.st + 1 else 0
open Classical in
theorem rk_le (ss : List StD) (t : TyD) : rkT ss t ≤ ss.length + 1 := by
  unfold rkT rkS
  split
  · have := List.countP_le_length (p := fun j : Nat => decide (Rch ss t.st (j : Int))) (l := List.range ss.length)
    rw [List.length_range] at this
    omega
  · omega
theorem countP_lt {p q : Nat → Bool} : ∀ {l : List Nat}, (∀ x ∈ l, p x = true → q x = true) → (∃ x ∈ l, p x = false ∧ q x = true) → l.countP p < l.countP q
  | [], _, h => by obtain ⟨x, hx, _⟩ := h; cases hx
  | a :: l, h1, h2 => by
    rw [List.countP_cons, List.countP_cons]
    have hle : l.countP p ≤ l.countP q := List.countP_mono_left fun x hx => h1 x (List.mem_cons_of_mem _ hx)
    have ha := h1 a List.mem_cons_self
    by_cases hex : ∃ x ∈ l, p x = false ∧ q x = true
    · have := countP_lt (fun x hx => h1 x (List.mem_cons_of_mem _ hx)) hex
      cases hp : p a <;> cases hq : q a <;> simp_all <;> omega
    · obtain ⟨x, hx, hx1, hx2⟩ := h2
      rcases List.mem_cons.1 hx with rfl | hx
      · rw [hx1, hx2]; simp; omega
      · exact absurd ⟨x, hx, hx1, hx2⟩ hex
open Classical in
theorem rk_lt {ss : List StD} (hg : Good ss) (hac : ∀ k, ¬ Rch ss k k) {t u : TyD} (h5 : t.k = 5) (hu : u ∈ tysAt ss t.st) : rkT ss u < rkT ss t := by
  unfold rkT
  rw [if_pos h5]
  split
  · rename_i hu5
    have hk : Kid ss t.st u.st := ⟨u, hu, hu5, rfl⟩
    have hin := kid_in hg hk
    have := countP_lt (p := fun j : Nat => decide (Rch ss u.st (j : Int))) (q := fun j : Nat => decide (Rch ss t.st (j : Int))) (l := List.range ss.length)
      (fun x _ hx => decide_eq_true (Rch.trans (.one hk) (of_decide_eq_true hx)))
      ⟨u.st.toNat, List.mem_range.2 (by omega), decide_eq_false (by rw [Int.toNat_of_nonneg hin.1]; exact hac _), decide_eq_true (by rw [Int.toNat_of_nonneg hin.1]; exact .one hk)⟩
    unfold rkS
    omega
  · omega
/-! ### Words, drops -/
def wsum : List Nat → Nat
  | [] => 0
  | x :: l => x + wsum l
theorem wsum_append : ∀ (a b : List Nat), wsum (a ++ b) = wsum a + wsum b
  | [], b => by simp [wsum]
  | x :: a, b => by simp only [List.cons_append, wsum, wsum_append a b]; omega
def wF (ss : List StD) : Nat → TyD → Nat
  | 0, _ => 1
  | m + 1, t => if t.k = 5 then wsum ((tysAt ss t.st).map (wF ss m)) else 1
theorem wF_eq {ss : List StD} (hg : Good ss) (hac : ∀ k, ¬ Rch ss k k) : ∀ (m n : Nat) (t : TyD), rkT ss t ≤ m → rkT ss t ≤ n → wF ss m t = wF ss n t := by
  intro m
  induction m with
  | zero =>
    intro n t h1 _
    have h5 : ¬ t.k = 5 := fun h => by unfold rkT at h1; rw [if_pos h] at h1; omega
    cases n with
    | zero => rfl
    | succ n => rw [wF, wF, if_neg h5]
  | succ m ih =>
    intro n t h1 h2
    cases n with
    | zero =>
      have h5 : ¬ t.k = 5 := fun h => by unfold rkT at h2; rw [if_pos h] at h2; omega
      rw [wF, wF, if_neg h5]
    | succ n =>
      rw [wF, wF]
      split
      · rename_i h5
        congr 1
        apply List.map_congr_left
        intro u hu
        have := rk_lt hg hac h5 hu
        exact ih n u (by omega) (by omega)
      · rfl
def dF (ss : List StD) : Nat → TyD → Bool
  | 0, t => decide (t.k = 3)
  | m + 1, t => if t.k = 5 then (tysAt ss t.st).any (dF ss m) else decide (t.k = 3)
theorem dF_eq {ss : List StD} (hg : Good ss) (hac : ∀ k, ¬ Rch ss k k) : ∀ (m n : Nat) (t : TyD), rkT ss t ≤ m → rkT ss t ≤ n → dF ss m t = dF ss n t := by
  intro m
  induction m with
  | zero =>
    intro n t h1 _
    have h5 : ¬ t.k = 5 := fun h => by unfold rkT at h1; rw [if_pos h] at h1; omega
    cases n with
    | zero => rfl
    | succ n => rw [dF, dF, if_neg h5]
  | succ m ih =>
    intro n t h1 h2
    cases n with
    | zero =>
      have h5 : ¬ t.k = 5 := fun h => by unfold rkT at h2; rw [if_pos h] at h2; omega
      rw [dF, dF, if_neg h5]
    | succ n =>
      rw [dF, dF]
      split
      · rename_i h5
        have : ∀ l : List TyD, (∀ u ∈ l, u ∈ tysAt ss t.st) → l.any (dF ss m) = l.any (dF ss n) := by
          intro l
          induction l with
          | nil => intro _; rfl
          | cons u l ihl =>
            intro hl
            have hu := rk_lt hg hac h5 (hl u List.mem_cons_self)
            rw [List.any_cons, List.any_cons, ih n u (by omega) (by omega), ihl fun x hx => hl x (List.mem_cons_of_mem _ hx)]
        exact this _ fun u hu => hu
      · rfl
/-- the first number of which something is so -/
def fstB (n : Nat) (p : Nat → Bool) : Nat := ((List.range n).find? p).getD n
theorem fstB_none {n : Nat} {p : Nat → Bool} (h : ∀ j, j < n → p j = false) : fstB n p = n := by
  rw [fstB, List.find?_eq_none.2 (by intro x hx; rw [h x (List.mem_range.1 hx)]; decide)]; rfl
theorem fstB_some {n i : Nat} {p : Nat → Bool} (hi : i < n) (hp : p i = true) (h : ∀ j, j < i → p j = false) : fstB n p = i := by
  have : (List.range n).find? p = some i := by
    rw [List.find?_range_eq_some]
    exact ⟨hp, List.mem_range.2 hi, fun j hj => by rw [h j hj]; rfl⟩
  rw [fstB, this]; rfl
theorem fstB_lt {n : Nat} {p : Nat → Bool} (h : ¬ fstB n p < n) : ∀ j, j < n → p j = false := by
  intro j hj
  by_cases hp : ∀ j, j < n → p j = false
  · exact hp j hj
  · exfalso
    apply h
    unfold fstB
    cases hf : (List.range n).find? p with
    | none =>
      exfalso; apply hp
      intro j hj
      have := List.find?_eq_none.1 hf j (List.mem_range.2 hj)
      simpa using this
    | some x => exact List.mem_range.1 (List.mem_of_find?_eq_some hf)
def bad1 (ss : List StD) (k : Nat) : Bool :=
  (decide ((tysAt ss k).length < 1) || decide (8 < (tysAt ss k).length)) || (tysAt ss k).any fun t => !lookB ss.length 48 t || decide (0 < t.regs.length)
open Classical in
noncomputable def bad2 (ss : List StD) (k : Nat) : Bool := decide (Rch ss k k)
def bad3 (ss : List StD) (k : Nat) : Bool := decide (16 < wF ss 40 (.mk 5 false 0 k []))
/-- what Structs tells -/
noncomputable def structsT (ss : List StD) : Int × Int :=
  if 32 < ss.length then (32, 2)
  else if fstB ss.length (bad1 ss) < ss.length then (fstB ss.length (bad1 ss), 2)
  else if fstB ss.length (bad2 ss) < ss.length then (fstB ss.length (bad2 ss), 2)
  else if fstB ss.length (bad3 ss) < ss.length then (fstB ss.length (bad3 ss), 2)
  else (0, 0)
theorem tysAt_eq {ss : List StD} {i : Nat} (hi : i < ss.length) : tysAt ss i = ss[i].fs.map (·.2) := by
  rw [tysAt, Int.toNat_natCast, List.getElem?_eq_getElem hi]
theorem tysAt_len {ss : List StD} {i : Nat} (hi : i < ss.length) : (tysAt ss i).length = ss[i].fs.length := by
  rw [tysAt_eq hi, List.length_map]
theorem tysAt_out {ss : List StD} {k : Int} (h : ¬ k.toNat < ss.length) : tysAt ss k = [] := by
  rw [tysAt, List.getElem?_eq_none (by omega)]
theorem good_of {ss : List StD} (h : ∀ k, k < ss.length → bad1 ss k = false) : Good ss := by
  intro k t ht
  by_cases hk : k.toNat < ss.length
  · have := h k.toNat hk
    have e : tysAt ss (k.toNat : Int) = tysAt ss k := by rw [tysAt, tysAt, Int.toNat_natCast]
    rw [bad1, e, Bool.or_eq_false_iff] at this
    have := List.any_eq_false.1 this.2 t ht
    simp only [Bool.or_eq_true, Bool.not_eq_true', not_or] at this
    simpa using this.1
  · rw [tysAt_out hk] at ht; cases ht
theorem acyc_of {ss : List StD} (hg : Good ss) (h : ∀ k, k < ss.length → bad2 ss k = false) : ∀ k, ¬ Rch ss k k := by
  intro k hk
  have hin := rch_in hg hk
  have := h k.toNat (by omega)
  rw [bad2, decide_eq_false_iff_not, Int.toNat_of_nonneg hin.1] at this
  exact this hk
/-- all is well with the structs -/
theorem structs_ok {ss : List StD} (h : (structsT ss).2 = 0) : ss.length ≤ 32 ∧ (∀ k, k < ss.length → bad1 ss k = false) ∧ Good ss ∧ (∀ k, ¬ Rch ss k k) ∧ (∀ k, k < ss.length → bad3 ss k = false) ∧ structsT ss = (0, 0) := by
  unfold structsT at h ⊢
  split at h
  · cases h
  split at h
  · cases h
  split at h
  · cases h
  split at h
  · cases h
  rename_i h1 h2 h3 h4
  have g := good_of (fstB_lt h2)
  refine ⟨by omega, fstB_lt h2, g, acyc_of g (fstB_lt h3), fstB_lt h4, ?_⟩
  rw [if_neg h1, if_neg h2, if_neg h3, if_neg h4]
def mayT (ss : List StD) (t : TyD) (ok : Bool) : Bool := ok && lookB ss.length 48 t
end Go.Proofs
end
