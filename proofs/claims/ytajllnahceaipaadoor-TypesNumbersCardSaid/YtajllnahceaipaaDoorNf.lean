/-
  Contracts: the document's reader of types' texts: reference, kind.
  Contracts: the document's reader of types' texts: Read.
  Contracts: equal (of what is alike), spoil.
  Contracts: a type's nodes as one's own cells; own, Own.
  Contracts: walk that turns regions; Number, Anew.
  Contracts: Anew of types.
  Contracts: laid, Number, Anew of the document's answer.
  Structs as data; what stands in what: the plain laws.
  A slice of one's own that need not begin where its block does: a queue.
  Contracts: words, endless, first of package types.
  Contracts: Structs, May, Words, Drops of package types.
  Contracts: the document's answer: plain, endless, words, Structs, May, Words, Drops, Copies.
-/
import Derived.Test.YtajllnahceaipaaDoorNe
import Derived.Test.YtajllnahceaipaaDoorNb
import Derived.ArgAppend

section
namespace Go.Proofs
open Go.Sh
set_option maxRecDepth 100000
set_option linter.unusedSimpArgs false
/-- the walk's own cells, in another order -/
theorem _root_.Go.Sh.StX.perm {X : Nat → Prop} {w0 w : World} {r : Gh} {L M : List Asr} (S : StX X w0 r w L) (hp : L.Perm M) : StX X w0 r w M :=
  ⟨S.x, S.holds, fun z hz => S.has z (hp.mem_iff.2 hz), fun z hz => S.mine z (hp.mem_iff.2 hz), (List.Perm.pairwise_iff (fun h k h1 h2 => h k h2 h1) hp).1 S.apart⟩
theorem Out.ret {α : Type} {st : Bool} {a : Nat} {v : α} : Out st a (a, some v) a st v := by
  cases st
  · exact ⟨rfl, rfl, rfl⟩
  · exact ⟨rfl, rfl⟩
theorem Out.cut {α : Type} {st : Bool} {a : Nat} {x : Rd' α} {v : α} (h : st = false → x = (a, none)) : Out st a x a true v := by
  cases st
  · exact .no (h rfl)
  · exact .stuck
theorem Out.as {α : Type} {st st' : Bool} {a a' : Nat} {x y : Rd' α} {v : α} (h : Out st a x a' st' v) (e : st = false → y = x) : Out st a y a' st' v := by
  cases st
  · rw [e rfl]; exact h
  · exact h
/-- the byte comes: which, and the reader may take it -/
theorem cm_take {s : List UInt8} {a : Nat} {c : UInt8} (h : cmB s a [c] = true) : a < s.length ∧ tkR s [c] a = (a + 1, some ()) ∧ ∀ d, cmB s a [d] = decide (c = d) := by
  have hlt : a < s.length := by
    by_cases hl : a < s.length
    · exact hl
    · rw [cmB, prefB, List.drop_eq_nil_of_le (by omega)] at h; simp at h
  have hcm : ∀ d, cmB s a [d] = decide (s[a] = d) := by
    intro d
    rw [cmB, prefB, List.drop_eq_getElem_cons hlt]
    have h1 : decide ((([d] : List UInt8).length : Int) ≤ ((s[a] :: s.drop (a + 1)).length : Int)) = true := by simp; omega
    rw [h1, Bool.true_and, show (s[a] :: s.drop (a + 1)).take ([d] : List UInt8).length = [s[a]] from rfl]
    by_cases h2 : s[a] = d
    · simp [h2]
    · simp [h2]
  have hc : s[a] = c := by rw [hcm] at h; simpa using h
  refine ⟨hlt, ?_, fun d => by rw [hcm, hc]⟩
  have hb : byteAt s a = (c.toNat : Int) := by rw [byteAt, List.getD_eq_getElem?_getD, List.getElem?_eq_getElem hlt, ← hc]; rfl
  rw [tkR, takeR, if_neg (by simp [hb]; omega)]
  rfl
theorem nx_is {s : List UInt8} {a : Nat} {st : Bool} (c : UInt8) {n : Int} (hn : n = (c.toNat : Int)) (hc : c ≠ 0) : decide (nxB s a st = n) = (!st && cmB s a [c]) := by
  rw [hn]; exact nx_eq hc
/-- the contract of kind, so deep -/
def KindQ (s : List UInt8) (rd : Nat → Rd' TyD) (left : Nat) : Prop :=
  ∀ {X : Nat → Prop} {w0 w : World} {r : Gh} {L : List Asr} {rb a : Nat} {st : Bool} {K : Value → World → Prop}, StX X w0 r w (rqC rb s a st :: L) → a ≤ s.length → s.length ≤ 1000000000 →
  (∀ t v sn a' st' w', Out st a (rd a) a' st' t → a' ≤ s.length → StX X w0 (r.or sn) w' (rqC rb s a' st' :: L) → (∀ b o, sn b o → w.heap.size ≤ b) → TyG sn v t → K v w') →
  oCall Tryd.prog Tryd.n_ref06_reader_kind #[rdP rb, .int .i64 (left : Int)] w K
section
variable {X : Nat → Prop} {w0 w : World} {r : Gh} {L : List Asr} {rb : Nat} {s p : List UInt8} {a : Nat} {K : Value → World → Prop}
abbrev t5C (b5 : Nat) (m : Bool) (re : Int) : Asr := .cell b5 [.int .u8 4, .bool m, .int .i64 re, .int .i64 0, .slice none 0 0] 25
abbrev t4C (b4 : Nat) : Asr := .cell b4 [.int .u8 0, .bool false, .int .i64 0, .int .i64 0, .slice none 0 0] 25
theorem c_q_reference {n : Nat} {rec : Nat → Rd' TyD} (hkind : KindQ s rec n) (hn : n ≤ 1000) (S : StX X w0 r w (rqC rb s a false :: L)) (_ : a ≤ s.length) (hs : s.length ≤ 1000000000) (hc0 : cmB s a [38] = true)
    (h : ∀ t v sn a' st' w', Out false a (refS s rec (n + 1) a) a' st' t → a' ≤ s.length → StX X w0 (r.or sn) w' (rqC rb s a' st' :: L) → (∀ b o, sn b o → w.heap.size ≤ b) → TyG sn v t → K v w') :
    oCall Tryd.prog Tryd.n_ref06_reader_reference #[rdP rb, .int .i64 ((n + 1 : Nat) : Int)] w K := by
  obtain ⟨ha, e0, _⟩ := cm_take hc0
  refine Tryd.ok_ref06_reader_reference ?_
  unfold Tryd.F_ref06_reader_reference
  refine S.alM fun b4 w1 hb4 _ S => ?_
  refine p_build (cs := #[.int .u8 4, .bool false, .int .i64 (-1), .int .i64 0, .slice none 0 0]) (by kernel_rfl) ?_
  refine S.al fun b5 w2 S => ?_
  refine S.stB fun w3 S => ?_
  (repeat (first | refine s_p ?_ | refine s_c (by omega) ?_ | refine S.ld ?_ | refine S.ldB ?_ | refine S.ce ?_ | refine S.ceB ?_ | refine s_q ?_ | refine s_qc (by omega) ?_ | refine n_some ?_ | rw [List.getD_cons_zero] | rw [List.getD_cons_succ]))
  refine S.st fun w4 S => ?_
  have S : StX X w0 r w4 (t5C b5 false (-1) :: t4C b4 :: rqC rb s (a + 1) false :: L) := S
  refine j_intro (fun _ w' => ∃ a2 st2 re, Out false (a + 1) (rgR s (a + 1)) a2 st2 re ∧ a2 ≤ s.length ∧ -1 ≤ re ∧ StX X w0 r w' (rqC rb s a2 st2 :: t5C b5 false re :: t4C b4 :: L)) (fun K2 hK2 => ?_) ?_
  · have S : StX X w0 r w4 (rqC rb s (a + 1) false :: t5C b5 false (-1) :: t4C b4 :: L) := S.perm (by
      refine (List.Perm.cons _ (.swap _ _ _)).trans ?_
      exact .swap _ _ _)
    refine c_q_next S fun w5 S => ?_
    (repeat (first | refine s_p ?_ | refine s_c (by omega) ?_ | refine S.ld ?_ | refine S.ldB ?_ | refine S.ce ?_ | refine S.ceB ?_ | refine s_q ?_ | refine s_qc (by omega) ?_ | refine n_some ?_ | rw [List.getD_cons_zero] | rw [List.getD_cons_succ]))
    rw [nx_is 39 (n := 39) (by decide) (by decide)]
    refine c_b (fun hc => ?_) (fun hc => ?_)
    · have hc : cmB s (a + 1) [39] = true := by simpa using hc
      obtain ⟨ha1, e1, _⟩ := cm_take hc
      (repeat (first | refine s_p ?_ | refine s_c (by omega) ?_ | refine S.ld ?_ | refine S.ldB ?_ | refine S.ce ?_ | refine S.ceB ?_ | refine s_q ?_ | refine s_qc (by omega) ?_ | refine n_some ?_ | rw [List.getD_cons_zero] | rw [List.getD_cons_succ]))
      refine S.st fun w6 S => ?_
      have S : StX X w0 r w6 (rqC rb s (a + 1 + 1) false :: t5C b5 false (-1) :: t4C b4 :: L) := S
      refine c_q_number S ha1 hs (by decide) (by decide) fun a3 st3 re w7 ha3 h0 _ S o3 => ?_
      (first | refine s_p ?_ | refine s_c (by omega) ?_)
      refine S.st fun w8 S => ?_
      refine c_q_word S ha3 hs (by decide) fun a4 st4 w9 ha4 S o4 => ?_
      refine hK2 [] _ ⟨a4, st4, re, ?_, ha4, by omega, S⟩
      rw [rgR, if_pos hc]
      exact (Out.ok e1).bd (o3.bd (o4.bd .ret))
    · have hc : cmB s (a + 1) [39] = false := by simpa using hc
      refine hK2 [] _ ⟨a + 1, false, -1, ?_, ha, Int.le_refl _, S⟩
      rw [rgR, if_neg (by rw [hc]; simp)]
      exact .ret
  rintro _ w5 ⟨a2, st2, re, o2, ha2, hre, S⟩ d5
  refine j_intro (fun _ w' => ∃ a3 st3 m, Out st2 a2 (mtR s a2) a3 st3 m ∧ a3 ≤ s.length ∧ StX X w0 r w' (rqC rb s a3 st3 :: t5C b5 m re :: t4C b4 :: L)) (fun K2 hK2 => ?_) ?_
  · refine c_q_next S fun w6 S => ?_
    (repeat (first | refine s_p ?_ | refine s_c (by omega) ?_ | refine S.ld ?_ | refine S.ldB ?_ | refine S.ce ?_ | refine S.ceB ?_ | refine s_q ?_ | refine s_qc (by omega) ?_ | refine n_some ?_ | rw [List.getD_cons_zero] | rw [List.getD_cons_succ]))
    rw [nx_is 109 (n := 109) (by decide) (by decide)]
    refine c_b (fun hc => ?_) (fun hc => ?_)
    · have hcc : st2 = false ∧ cmB s a2 [109] = true := by simpa using hc
      clear hc
      obtain ⟨rfl, hc⟩ := hcc
      refine c_q_word S ha2 hs (by decide) fun a3 st3 w7 ha3 S o3 => ?_
      (first | refine s_p ?_ | refine s_c (by omega) ?_)
      refine S.st fun w8 S => ?_
      refine hK2 [] _ ⟨a3, st3, true, ?_, ha3, S⟩
      rw [mtR, if_pos hc]
      exact o3.bd .ret
    · refine hK2 [] _ ⟨a2, st2, false, ?_, ha2, S⟩
      refine Out.ret.as fun hst => ?_
      rw [mtR, if_neg (by rw [hst] at hc; simpa using hc)]
  rintro _ w6 ⟨a3, st3, m, o3, ha3, S⟩ d6
  have hfin : ∀ {a' st'} {u : TyD}, Out st3 a3 (bd (brR s (n + 1) re m a3) fun _ a => bd (rec a) fun u a => (a, some (.mk 4 m re 0 [u]))) a' st' u → Out false a (refS s rec (n + 1) a) a' st' u := by
    intro a' st' u o
    rw [refS]
    exact (Out.ok e0).bd (o2.bd (o3.bd o))
  refine j_intro (fun _ w' => ∃ a4 st4, Out st3 a3 (brR s (n + 1) re m a3) a4 st4 () ∧ a4 ≤ s.length ∧ StX X w0 r w' (rqC rb s a4 st4 :: t5C b5 m re :: t4C b4 :: L)) (fun K2 hK2 => ?_) ?_
  · (repeat (first | refine s_p ?_ | refine s_c (by omega) ?_ | refine S.ld ?_ | refine S.ldB ?_ | refine S.ce ?_ | refine S.ceB ?_ | refine s_q ?_ | refine s_qc (by omega) ?_ | refine n_some ?_ | rw [List.getD_cons_zero] | rw [List.getD_cons_succ]))
    refine j_bandH (c := !m) (fun _ K3 hK3 => ?_) ?_
    · (repeat (first | refine s_p ?_ | refine s_c (by omega) ?_ | refine S.ld ?_ | refine S.ldB ?_ | refine S.ce ?_ | refine S.ceB ?_ | refine s_q ?_ | refine s_qc (by omega) ?_ | refine n_some ?_ | rw [List.getD_cons_zero] | rw [List.getD_cons_succ]))
      exact hK3
    generalize hbare : (decide (re < 0) && !m) = bare at *
    refine c_b (fun hb => ?_) (fun hb => ?_)
    · subst hb
      refine c_q_next S fun w7 S => ?_
      (repeat (first | refine s_p ?_ | refine s_c (by omega) ?_ | refine S.ld ?_ | refine S.ldB ?_ | refine S.ce ?_ | refine S.ceB ?_ | refine s_q ?_ | refine s_qc (by omega) ?_ | refine n_some ?_ | rw [List.getD_cons_zero] | rw [List.getD_cons_succ]))
      rw [nx_is 38 (n := 38) (by decide) (by decide)]
      refine c_b (fun hc1 => ?_) (fun hc1 => ?_)
      · have hcc : st3 = false ∧ cmB s a3 [38] = true := by simpa using hc1
        clear hc1
        obtain ⟨rfl, hc1⟩ := hcc
        (repeat (first | refine s_p ?_ | refine s_c (by omega) ?_ | refine S.ld ?_ | refine S.ldB ?_ | refine S.ce ?_ | refine S.ceB ?_ | refine s_q ?_ | refine s_qc (by omega) ?_ | refine n_some ?_ | rw [List.getD_cons_zero] | rw [List.getD_cons_succ]))
        refine S.st fun w8 S => ?_
        (repeat (first | refine s_p ?_ | refine s_c (by omega) ?_ | refine S.ld ?_ | refine S.ldB ?_ | refine S.ce ?_ | refine S.ceB ?_ | refine s_q ?_ | refine s_qc (by omega) ?_ | refine n_some ?_ | rw [List.getD_cons_zero] | rw [List.getD_cons_succ]))
        refine S.stB fun w9 S => ?_
        (repeat (first | refine s_p ?_ | refine s_c (by omega) ?_ | refine S.ld ?_ | refine S.ldB ?_ | refine S.ce ?_ | refine S.ceB ?_ | refine s_q ?_ | refine s_qc (by omega) ?_ | refine n_some ?_ | rw [List.getD_cons_zero] | rw [List.getD_cons_succ]))
        refine h (.mk 4 m re 0 []) _ nothing a3 true _ (hfin (Out.bd (u := ()) (.no ?_) .stuck)) ha3 (S.d1.d1.to (r.or nothing)) (fun _ _ h => h.elim) ty_leaf
        rw [brR, hbare, hc1]; rfl
      refine c_q_next S fun w8 S => ?_
      (repeat (first | refine s_p ?_ | refine s_c (by omega) ?_ | refine S.ld ?_ | refine S.ldB ?_ | refine S.ce ?_ | refine S.ceB ?_ | refine s_q ?_ | refine s_qc (by omega) ?_ | refine n_some ?_ | rw [List.getD_cons_zero] | rw [List.getD_cons_succ]))
      rw [nx_is 32 (n := 32) (by decide) (by decide)]
      refine j_bandH (c := decide (2 < n + 1)) (fun _ K3 hK3 => ?_) ?_
      · (first | refine s_p ?_ | refine s_c (by omega) ?_)
        rw [show decide ((2 : Int) < ((n + 1 : Nat) : Int)) = decide (2 < n + 1) from decide_eq_decide.2 (by omega)]
        exact hK3
      have hbr : st3 = false → brR s (n + 1) re m a3 = if cmB s a3 [32] && decide (2 < n + 1) then bd (tkR s [32] a3) fun _ a => if !cmB s a [38] then (a, none) else (a, some ()) else (a3, some ()) := by
        intro hst
        rw [hst] at hc1
        rw [brR, hbare, Bool.true_and, Bool.true_and, if_neg (by simpa using hc1)]
      refine c_b (fun hc2 => ?_) (fun hc2 => ?_)
      · simp only [Bool.and_eq_true, Bool.not_eq_true'] at hc2
        obtain ⟨⟨rfl, hc2⟩, hn2⟩ := hc2
        have hbr := hbr rfl
        rw [hc2, hn2, Bool.true_and, if_pos rfl] at hbr
        obtain ⟨ha4, e4, _⟩ := cm_take hc2
        rw [e4] at hbr
        (repeat (first | refine s_p ?_ | refine s_c (by omega) ?_ | refine S.ld ?_ | refine S.ldB ?_ | refine S.ce ?_ | refine S.ceB ?_ | refine s_q ?_ | refine s_qc (by omega) ?_ | refine n_some ?_ | rw [List.getD_cons_zero] | rw [List.getD_cons_succ]))
        refine S.st fun w9 S => ?_
        have S : StX X w0 r w9 (rqC rb s (a3 + 1) false :: t5C b5 m re :: t4C b4 :: L) := S
        refine c_q_next S fun w10 S => ?_
        (repeat (first | refine s_p ?_ | refine s_c (by omega) ?_ | refine S.ld ?_ | refine S.ldB ?_ | refine S.ce ?_ | refine S.ceB ?_ | refine s_q ?_ | refine s_qc (by omega) ?_ | refine n_some ?_ | rw [List.getD_cons_zero] | rw [List.getD_cons_succ]))
        have hne : decide (nxB s (a3 + 1) false ≠ 38) = !cmB s (a3 + 1) [38] := by
          have := nx_is (s := s) (a := a3 + 1) (st := false) 38 (n := 38) (by decide) (by decide)
          rw [decide_not, this]; simp
        rw [hne]
        refine c_b (fun hc3 => ?_) (fun hc3 => ?_)
        · (repeat (first | refine s_p ?_ | refine s_c (by omega) ?_ | refine S.ld ?_ | refine S.ldB ?_ | refine S.ce ?_ | refine S.ceB ?_ | refine s_q ?_ | refine s_qc (by omega) ?_ | refine n_some ?_ | rw [List.getD_cons_zero] | rw [List.getD_cons_succ]))
          refine S.st fun w11 S => ?_
          (repeat (first | refine s_p ?_ | refine s_c (by omega) ?_ | refine S.ld ?_ | refine S.ldB ?_ | refine S.ce ?_ | refine S.ceB ?_ | refine s_q ?_ | refine s_qc (by omega) ?_ | refine n_some ?_ | rw [List.getD_cons_zero] | rw [List.getD_cons_succ]))
          refine S.stB fun w12 S => ?_
          (repeat (first | refine s_p ?_ | refine s_c (by omega) ?_ | refine S.ld ?_ | refine S.ldB ?_ | refine S.ce ?_ | refine S.ceB ?_ | refine s_q ?_ | refine s_qc (by omega) ?_ | refine n_some ?_ | rw [List.getD_cons_zero] | rw [List.getD_cons_succ]))
          refine h (.mk 4 m re 0 []) _ nothing (a3 + 1) true _ (hfin (Out.bd (u := ()) (.no ?_) .stuck)) ha4 (S.d1.d1.to (r.or nothing)) (fun _ _ h => h.elim) ty_leaf
          rw [hbr]; simp only [bd]; rw [if_pos hc3]
        · refine hK2 [] _ ⟨a3 + 1, false, .ok ?_, ha4, S⟩
          rw [hbr]; simp only [bd]; rw [if_neg (by rw [hc3]; simp)]
      · refine hK2 [] _ ⟨a3, st3, Out.ret.as fun hst => ?_, ha3, S⟩
        rw [hbr hst, if_neg (by rw [hst] at hc2; simpa using hc2)]
    · subst hb
      refine hK2 [] _ ⟨a3, st3, Out.ret.as fun hst => ?_, ha3, S⟩
      rw [brR, hbare]; simp
  rintro _ w7 ⟨a4, st4, o4, ha4, S⟩ d7
  (first | refine s_p ?_ | refine s_c (by omega) ?_)
  rw [show ((n + 1 : Nat) : Int) - 1 = (n : Int) by omega]
  have hb47 : b4 < w7.heap.size := Asr.lt (x := t4C b4) (S.has _ (by simp)) rfl
  refine hkind S ha4 hs (fun u v sn a5 st5 w8 o5 ha5 S hf hty => ?_)
  have hty0 := hty
  obtain ⟨p9, cap9, rfl, _⟩ := hty
  refine w_lit (e := 25) (cs := [.int .u8 u.k, .bool u.m, .int .i64 u.re, .int .i64 u.st, .slice p9 u.of.length cap9]) (by kernel_rfl) fun b9 w9 hb9 e9 _ B9 => ?_
  have hb4' : b4 < w8.heap.size := Asr.lt (x := t4C b4) (S.has _ (by simp)) rfl
  have S := S.add e9 (by omega) B9
  have S := S.frz
  (first | refine s_p ?_ | refine s_c (by omega) ?_)
  refine S.st fun w10 S => ?_
  (repeat (first | refine s_p ?_ | refine s_c (by omega) ?_ | refine S.ld ?_ | refine S.ldB ?_ | refine S.ce ?_ | refine S.ceB ?_ | refine s_q ?_ | refine s_qc (by omega) ?_ | refine n_some ?_ | rw [List.getD_cons_zero] | rw [List.getD_cons_succ]))
  refine S.stB fun w11 S => ?_
  (repeat (first | refine s_p ?_ | refine s_c (by omega) ?_ | refine S.ld ?_ | refine S.ldB ?_ | refine S.ce ?_ | refine S.ceB ?_ | refine s_q ?_ | refine s_qc (by omega) ?_ | refine n_some ?_ | rw [List.getD_cons_zero] | rw [List.getD_cons_succ]))
  have S := S.d1.d1.to (r.or (sn.or (one b9 [.int .u8 u.k, .bool u.m, .int .i64 u.re, .int .i64 u.st, .slice p9 u.of.length cap9] 25)))
  refine h (.mk 4 m re 0 [u]) _ (sn.or (one b9 [.int .u8 u.k, .bool u.m, .int .i64 u.re, .int .i64 u.st, .slice p9 u.of.length cap9] 25)) a5 st5 _ (hfin (o4.bd (o5.bd .ret))) ha5 S (fun b o hbo => ?_) (ty_one hty0)
  rcases hbo with hbo | ⟨rfl, _⟩
  · have := hf b o hbo; omega
  · omega
theorem kindq_step {rec : Nat → Rd' TyD} {left : Nat} (hl : left ≤ 1000) (hrec : 1 < left → ∃ m, left = m + 1 ∧ KindQ s rec m) : KindQ s (kindS s rec left) left := by
  intro X w0 w r L rb a st K S ha hs h
  refine Tryd.ok_ref06_reader_kind ?_
  unfold Tryd.F_ref06_reader_kind
  refine S.alM fun b4 w1 hb4 _ S => ?_
  have S := S.swap
  refine c_q_next S fun w2 S => ?_
  (repeat (first | refine s_p ?_ | refine s_c (by omega) ?_ | refine S.ld ?_ | refine S.ldB ?_ | refine S.ce ?_ | refine S.ceB ?_ | refine s_q ?_ | refine s_qc (by omega) ?_ | refine n_some ?_ | rw [List.getD_cons_zero] | rw [List.getD_cons_succ]))
  rw [nx_is 105 (n := 105) (by decide) (by decide)]
  refine c_b (fun hc => ?_) (fun hc1 => ?_)
  · have hcc : st = false ∧ cmB s a [105] = true := by simpa using hc
    clear hc
    obtain ⟨rfl, hc⟩ := hcc
    refine c_q_word S ha hs (by decide) fun a1 st1 w3 ha1 S o1 => ?_
    refine p_build (cs := #[.int .u8 1, .bool false, .int .i64 0, .int .i64 0, .slice none 0 0]) (by kernel_rfl) ?_
    refine S.stB fun w4 S => ?_
    (repeat (first | refine s_p ?_ | refine s_c (by omega) ?_ | refine S.ld ?_ | refine S.ldB ?_ | refine S.ce ?_ | refine S.ceB ?_ | refine s_q ?_ | refine s_qc (by omega) ?_ | refine n_some ?_ | rw [List.getD_cons_zero] | rw [List.getD_cons_succ]))
    refine h (.mk 1 false 0 0 []) _ nothing a1 st1 _ ?_ ha1 (S.d1.to (r.or nothing)) (fun _ _ h => h.elim) ty_leaf
    rw [kindS, if_pos hc]
    exact o1.bd .ret
  (repeat (first | refine s_p ?_ | refine s_c (by omega) ?_ | refine S.ld ?_ | refine S.ldB ?_ | refine S.ce ?_ | refine S.ceB ?_ | refine s_q ?_ | refine s_qc (by omega) ?_ | refine n_some ?_ | rw [List.getD_cons_zero] | rw [List.getD_cons_succ]))
  rw [nx_is 35 (n := 35) (by decide) (by decide)]
  refine c_b (fun hc => ?_) (fun hc2 => ?_)
  · have hcc : st = false ∧ cmB s a [35] = true := by simpa using hc
    clear hc
    obtain ⟨rfl, hc⟩ := hcc
    obtain ⟨ha1, e1, hd⟩ := cm_take hc
    (repeat (first | refine s_p ?_ | refine s_c (by omega) ?_ | refine S.ld ?_ | refine S.ldB ?_ | refine S.ce ?_ | refine S.ceB ?_ | refine s_q ?_ | refine s_qc (by omega) ?_ | refine n_some ?_ | rw [List.getD_cons_zero] | rw [List.getD_cons_succ]))
    refine S.st fun w3 S => ?_
    have S : StX X w0 r w3 (rqC rb s (a + 1) false :: t4C b4 :: L) := S
    refine c_q_number S ha1 hs (by decide) (by decide) fun a2 st2 n w4 ha2 h0 _ S o2 => ?_
    refine p_build (cs := #[.int .u8 5, .bool false, .int .i64 0, .int .i64 n, .slice none 0 0]) (by kernel_rfl) ?_
    refine S.stB fun w5 S => ?_
    (repeat (first | refine s_p ?_ | refine s_c (by omega) ?_ | refine S.ld ?_ | refine S.ldB ?_ | refine S.ce ?_ | refine S.ceB ?_ | refine s_q ?_ | refine s_qc (by omega) ?_ | refine n_some ?_ | rw [List.getD_cons_zero] | rw [List.getD_cons_succ]))
    refine h (.mk 5 false 0 n []) _ nothing a2 st2 _ ?_ ha2 (S.d1.to (r.or nothing)) (fun _ _ h => h.elim) ty_leaf
    rw [kindS, if_neg (by rw [hd]; decide), if_neg (by rw [hd]; decide), if_pos hc]
    exact (Out.ok e1).bd (o2.bd .ret)
  (repeat (first | refine s_p ?_ | refine s_c (by omega) ?_ | refine S.ld ?_ | refine S.ldB ?_ | refine S.ce ?_ | refine S.ceB ?_ | refine s_q ?_ | refine s_qc (by omega) ?_ | refine n_some ?_ | rw [List.getD_cons_zero] | rw [List.getD_cons_succ]))
  rw [nx_is 98 (n := 98) (by decide) (by decide)]
  refine c_b (fun hc => ?_) (fun hc3 => ?_)
  · have hcc : st = false ∧ cmB s a [98] = true := by simpa using hc
    clear hc
    obtain ⟨rfl, hc⟩ := hcc
    obtain ⟨_, _, hd⟩ := cm_take hc
    refine c_q_word S ha hs (by decide) fun a1 st1 w3 ha1 S o1 => ?_
    refine p_build (cs := #[.int .u8 2, .bool false, .int .i64 0, .int .i64 0, .slice none 0 0]) (by kernel_rfl) ?_
    refine S.stB fun w4 S => ?_
    (repeat (first | refine s_p ?_ | refine s_c (by omega) ?_ | refine S.ld ?_ | refine S.ldB ?_ | refine S.ce ?_ | refine S.ceB ?_ | refine s_q ?_ | refine s_qc (by omega) ?_ | refine n_some ?_ | rw [List.getD_cons_zero] | rw [List.getD_cons_succ]))
    refine h (.mk 2 false 0 0 []) _ nothing a1 st1 _ ?_ ha1 (S.d1.to (r.or nothing)) (fun _ _ h => h.elim) ty_leaf
    rw [kindS, if_neg (by rw [hd]; decide), if_pos hc]
    exact o1.bd .ret
  (repeat (first | refine s_p ?_ | refine s_c (by omega) ?_ | refine S.ld ?_ | refine S.ldB ?_ | refine S.ce ?_ | refine S.ceB ?_ | refine s_q ?_ | refine s_qc (by omega) ?_ | refine n_some ?_ | rw [List.getD_cons_zero] | rw [List.getD_cons_succ]))
  rw [nx_is 66 (n := 66) (by decide) (by decide)]
  refine c_b (fun hc => ?_) (fun hc4 => ?_)
  · have hcc : st = false ∧ cmB s a [66] = true := by simpa using hc
    clear hc
    obtain ⟨rfl, hc⟩ := hcc
    obtain ⟨_, _, hd⟩ := cm_take hc
    (first | refine s_p ?_ | refine s_c (by omega) ?_)
    refine c_if (fun hlt => ?_) (fun hge => ?_)
    · (repeat (first | refine s_p ?_ | refine s_c (by omega) ?_ | refine S.ld ?_ | refine S.ldB ?_ | refine S.ce ?_ | refine S.ceB ?_ | refine s_q ?_ | refine s_qc (by omega) ?_ | refine n_some ?_ | rw [List.getD_cons_zero] | rw [List.getD_cons_succ]))
      refine S.st fun w3 S => ?_
      refine p_build (cs := #[.int .u8 0, .bool false, .int .i64 0, .int .i64 0, .slice none 0 0]) (by kernel_rfl) ?_
      refine S.stB fun w4 S => ?_
      (repeat (first | refine s_p ?_ | refine s_c (by omega) ?_ | refine S.ld ?_ | refine S.ldB ?_ | refine S.ce ?_ | refine S.ceB ?_ | refine s_q ?_ | refine s_qc (by omega) ?_ | refine n_some ?_ | rw [List.getD_cons_zero] | rw [List.getD_cons_succ]))
      refine h (.mk 0 false 0 0 []) _ nothing a true _ (.no ?_) ha (S.d1.to (r.or nothing)) (fun _ _ h => h.elim) ty_leaf
      rw [kindS, if_neg (by rw [hd]; decide), if_neg (by rw [hd]; decide), if_neg (by rw [hd]; decide), if_neg (by simp; omega), if_neg (by simp; omega)]
    obtain ⟨m, rfl, hkind⟩ := hrec (by omega)
    have hR : kindS s rec (m + 1) a = bd (tkR s [66, 111, 120, 60] a) fun _ a => bd (rec a) fun u a => bd (tkR s [62] a) fun _ a => (a, some (.mk 3 false 0 0 [u])) := by
      rw [kindS, if_neg (by rw [hd]; decide), if_neg (by rw [hd]; decide), if_neg (by rw [hd]; decide), if_pos (by rw [hc]; simp; omega)]
    rw [hR] at h
    refine c_q_word S ha hs (by decide) fun a1 st1 w6 ha1 S o1 => ?_
    (first | refine s_p ?_ | refine s_c (by omega) ?_)
    rw [show ((m + 1 : Nat) : Int) - 1 = (m : Int) by omega]
    have hb46 : b4 < w6.heap.size := Asr.lt (x := t4C b4) (S.has _ (by simp)) rfl
    refine hkind S ha1 hs (fun u v sn a2 st2 w7 o2 ha2 S hf hty => ?_)
    have hty0 := hty
    obtain ⟨p9, cap9, rfl, _⟩ := hty
    refine w_lit (e := 25) (cs := [.int .u8 u.k, .bool u.m, .int .i64 u.re, .int .i64 u.st, .slice p9 u.of.length cap9]) (by kernel_rfl) fun b9 w9 hb9 e9 _ B9 => ?_
    have hb47 : b4 < w7.heap.size := Asr.lt (x := t4C b4) (S.has _ (by simp)) rfl
    have S := S.add e9 (by omega) B9
    have S := S.frz
    refine p_build (cs := #[.int .u8 3, .bool false, .int .i64 0, .int .i64 0, .slice (some ⟨b9, 0, none⟩) 1 1]) (by kernel_rfl) ?_
    refine S.al fun b6 w10 S => ?_
    have S := S.swap
    refine S.stB fun w11 S => ?_
    refine c_q_word S ha2 hs (by decide) fun a3 st3 w12 ha3 S o3 => ?_
    (repeat (first | refine s_p ?_ | refine s_c (by omega) ?_ | refine S.ld ?_ | refine S.ldB ?_ | refine S.ce ?_ | refine S.ceB ?_ | refine s_q ?_ | refine s_qc (by omega) ?_ | refine n_some ?_ | rw [List.getD_cons_zero] | rw [List.getD_cons_succ]))
    refine S.stB fun w13 S => ?_
    (repeat (first | refine s_p ?_ | refine s_c (by omega) ?_ | refine S.ld ?_ | refine S.ldB ?_ | refine S.ce ?_ | refine S.ceB ?_ | refine s_q ?_ | refine s_qc (by omega) ?_ | refine n_some ?_ | rw [List.getD_cons_zero] | rw [List.getD_cons_succ]))
    have S := S.d1.d1.to (r.or (sn.or (one b9 [.int .u8 u.k, .bool u.m, .int .i64 u.re, .int .i64 u.st, .slice p9 u.of.length cap9] 25)))
    refine h (.mk 3 false 0 0 [u]) _ (sn.or (one b9 [.int .u8 u.k, .bool u.m, .int .i64 u.re, .int .i64 u.st, .slice p9 u.of.length cap9] 25)) a3 st3 _ (o1.bd (o2.bd (o3.bd .ret))) ha3 S (fun b o hbo => ?_) (ty_one hty0)
    rcases hbo with hbo | ⟨rfl, _⟩
    · have := hf b o hbo; omega
    · omega
  (repeat (first | refine s_p ?_ | refine s_c (by omega) ?_ | refine S.ld ?_ | refine S.ldB ?_ | refine S.ce ?_ | refine S.ceB ?_ | refine s_q ?_ | refine s_qc (by omega) ?_ | refine n_some ?_ | rw [List.getD_cons_zero] | rw [List.getD_cons_succ]))
  rw [nx_is 38 (n := 38) (by decide) (by decide)]
  refine c_b (fun hc => ?_) (fun hc5 => ?_)
  · have hcc : st = false ∧ cmB s a [38] = true := by simpa using hc
    clear hc
    obtain ⟨rfl, hc⟩ := hcc
    obtain ⟨_, _, hd⟩ := cm_take hc
    have hR : kindS s rec left a = if 1 < left then refS s rec left a else (a, none) := by
      rw [kindS, if_neg (by rw [hd]; decide), if_neg (by rw [hd]; decide), if_neg (by rw [hd]; decide), if_neg (by rw [hd]; simp), hc, Bool.true_and]
      by_cases h1 : 1 < left <;> simp [h1]
    rw [hR] at h
    (first | refine s_p ?_ | refine s_c (by omega) ?_)
    refine c_if (fun hlt => ?_) (fun hge => ?_)
    · (repeat (first | refine s_p ?_ | refine s_c (by omega) ?_ | refine S.ld ?_ | refine S.ldB ?_ | refine S.ce ?_ | refine S.ceB ?_ | refine s_q ?_ | refine s_qc (by omega) ?_ | refine n_some ?_ | rw [List.getD_cons_zero] | rw [List.getD_cons_succ]))
      refine S.st fun w3 S => ?_
      refine p_build (cs := #[.int .u8 0, .bool false, .int .i64 0, .int .i64 0, .slice none 0 0]) (by kernel_rfl) ?_
      refine S.stB fun w4 S => ?_
      (repeat (first | refine s_p ?_ | refine s_c (by omega) ?_ | refine S.ld ?_ | refine S.ldB ?_ | refine S.ce ?_ | refine S.ceB ?_ | refine s_q ?_ | refine s_qc (by omega) ?_ | refine n_some ?_ | rw [List.getD_cons_zero] | rw [List.getD_cons_succ]))
      refine h (.mk 0 false 0 0 []) _ nothing a true _ (.no ?_) ha (S.d1.to (r.or nothing)) (fun _ _ h => h.elim) ty_leaf
      rw [if_neg (by omega)]
    obtain ⟨m, rfl, hkind⟩ := hrec (by omega)
    rw [if_pos (by omega)] at h
    have hb46 : b4 < w2.heap.size := Asr.lt (x := t4C b4) (S.has _ (by simp)) rfl
    refine c_q_reference hkind (by omega) S ha hs hc (fun u v sn a2 st2 w7 o2 ha2 S hf hty => ?_)
    have hty0 := hty
    obtain ⟨p9, cap9, rfl, _⟩ := hty
    refine S.stB fun w8 S => ?_
    (repeat (first | refine s_p ?_ | refine s_c (by omega) ?_ | refine S.ld ?_ | refine S.ldB ?_ | refine S.ce ?_ | refine S.ceB ?_ | refine s_q ?_ | refine s_qc (by omega) ?_ | refine n_some ?_ | rw [List.getD_cons_zero] | rw [List.getD_cons_succ]))
    exact h u _ sn a2 st2 _ o2 ha2 S.d1 (fun b o hbo => by have := hf b o hbo; omega) hty0
  · (repeat (first | refine s_p ?_ | refine s_c (by omega) ?_ | refine S.ld ?_ | refine S.ldB ?_ | refine S.ce ?_ | refine S.ceB ?_ | refine s_q ?_ | refine s_qc (by omega) ?_ | refine n_some ?_ | rw [List.getD_cons_zero] | rw [List.getD_cons_succ]))
    refine S.st fun w3 S => ?_
    refine p_build (cs := #[.int .u8 0, .bool false, .int .i64 0, .int .i64 0, .slice none 0 0]) (by kernel_rfl) ?_
    refine S.stB fun w4 S => ?_
    (repeat (first | refine s_p ?_ | refine s_c (by omega) ?_ | refine S.ld ?_ | refine S.ldB ?_ | refine S.ce ?_ | refine S.ceB ?_ | refine s_q ?_ | refine s_qc (by omega) ?_ | refine n_some ?_ | rw [List.getD_cons_zero] | rw [List.getD_cons_succ]))
    refine h (.mk 0 false 0 0 []) _ nothing a true _ (.cut fun hst => ?_) ha (S.d1.to (r.or nothing)) (fun _ _ h => h.elim) ty_leaf
    rw [hst] at hc1 hc2 hc3 hc4 hc5
    simp only [Bool.not_false, Bool.true_and] at hc1 hc2 hc3 hc4 hc5
    rw [kindS, hc1, hc2, hc3, hc4, hc5]; rfl
theorem c_q_kind (s : List UInt8) : ∀ n, n ≤ 1000 → KindQ s (kindR s n) n := by
  intro n
  induction n with
  | zero => intro _; exact kindq_step (by decide) fun h => absurd h (by decide)
  | succ n ih => intro hn; exact kindq_step hn fun _ => ⟨n, rfl, ih (by omega)⟩
end
end Go.Proofs
end

section
namespace Go.Proofs
open Go.Sh
set_option maxRecDepth 100000
set_option linter.unusedSimpArgs false
set_option linter.unusedVariables false
theorem out_read {s : List UInt8} {a : Nat} {st : Bool} {t : TyD} (o : Out false 0 (kindR s 48 0) a st t) :
    readT s = if st || decide ((a : Int) < s.length) then (zeroD, (a : Int), 60) else (t, 0, 0) := by
  rw [readT]
  revert o
  generalize kindR s 48 0 = x
  obtain ⟨a1, o1⟩ := x
  cases o1 with
  | none =>
    rintro ⟨rfl, rfl⟩
    simp
  | some u =>
    rintro ⟨rfl, rfl, rfl⟩
    simp only [Bool.false_or, decide_eq_true_eq]
theorem c_ref06_Read {s : List UInt8} {w : World} {r : Gh} {K : Value → World → Prop} (hr : Holds r w) (hs : s.length ≤ 1000000000)
    (h : ∀ v sn w', Ext w w' → New w sn w' → TyG sn v (readT s).1 → K (.tuple #[v, .int .i64 (readT s).2.1, .int .i64 (readT s).2.2]) w') :
    oCall Tryd.prog Tryd.n_ref06_Read #[.string (bs s)] w K := by
  refine Tryd.ok_ref06_Read ?_
  unfold Tryd.F_ref06_Read
  have S := St.start hr
  refine S.al fun b2 w1 S => ?_
  refine p_build (cs := #[.string (bs s), .int .i64 0, .bool false]) (by kernel_rfl) ?_
  refine S.box fun rb w2 S => ?_
  have esz := S.ext.size
  have S : StX noX w r w2 (rqC rb s 0 false :: .cell b2 [.int .u8 0, .bool false, .int .i64 0, .int .i64 0, .slice none 0 0] 25 :: []) := S
  refine c_q_kind s 48 (by decide) S (Nat.zero_le _) hs fun t v sn a st w3 o ha S hf hty => ?_
  have hT := out_read o
  have hty0 := hty
  obtain ⟨p9, cap9, rfl, _⟩ := hty
  refine S.al fun b6 w4 S => ?_
  refine S.stB fun w5 S => ?_
  (repeat (first | refine s_p ?_ | refine s_c (by omega) ?_ | refine S.ld ?_ | refine S.ldB ?_ | refine S.ce ?_ | refine S.ceB ?_ | refine s_q ?_ | refine s_qc (by omega) ?_ | refine n_some ?_ | rw [List.getD_cons_zero] | rw [List.getD_cons_succ]))
  refine j_borH (c := decide ((a : Int) < s.length)) (fun _ K2 hK2 => ?_) ?_
  · (repeat (first | refine s_p ?_ | refine s_c (by omega) ?_ | refine S.ld ?_ | refine S.ldB ?_ | refine S.ce ?_ | refine S.ceB ?_ | refine s_q ?_ | refine s_qc (by omega) ?_ | refine n_some ?_ | rw [List.getD_cons_zero] | rw [List.getD_cons_succ]))
    exact hK2
  refine c_b (fun hc => ?_) (fun hc => ?_)
  · rw [if_pos hc] at hT
    rw [hT] at h
    refine p_build (cs := #[.int .u8 0, .bool false, .int .i64 0, .int .i64 0, .slice none 0 0]) (by kernel_rfl) ?_
    have S := S.go (Ext.drew _)
    (repeat (first | refine s_p ?_ | refine s_c (by omega) ?_ | refine S.ld ?_ | refine S.ldB ?_ | refine S.ce ?_ | refine S.ceB ?_ | refine s_q ?_ | refine s_qc (by omega) ?_ | refine n_some ?_ | rw [List.getD_cons_zero] | rw [List.getD_cons_succ]))
    refine ⟨?_, ?_⟩
    · refine w_q ?_
      (repeat (first | refine s_p ?_ | refine s_c (by omega) ?_ | refine S.ld ?_ | refine S.ldB ?_ | refine S.ce ?_ | refine S.ceB ?_ | refine s_q ?_ | refine s_qc (by omega) ?_ | refine n_some ?_ | rw [List.getD_cons_zero] | rw [List.getD_cons_succ]))
      refine S.stB fun w6 S => ?_
      (repeat (first | refine s_p ?_ | refine s_c (by omega) ?_ | refine S.ld ?_ | refine S.ldB ?_ | refine S.ce ?_ | refine S.ceB ?_ | refine s_q ?_ | refine s_qc (by omega) ?_ | refine n_some ?_ | rw [List.getD_cons_zero] | rw [List.getD_cons_succ]))
      exact h _ nothing _ S.ext New.nothing ty_leaf
    · refine S.stB fun w6 S => ?_
      refine w_q ?_
      (repeat (first | refine s_p ?_ | refine s_c (by omega) ?_ | refine S.ld ?_ | refine S.ldB ?_ | refine S.ce ?_ | refine S.ceB ?_ | refine s_q ?_ | refine s_qc (by omega) ?_ | refine n_some ?_ | rw [List.getD_cons_zero] | rw [List.getD_cons_succ]))
      exact h _ nothing _ S.ext New.nothing ty_leaf
  · rw [hc, if_neg (by simp)] at hT
    rw [hT] at h
    (repeat (first | refine s_p ?_ | refine s_c (by omega) ?_ | refine S.ld ?_ | refine S.ldB ?_ | refine S.ce ?_ | refine S.ceB ?_ | refine s_q ?_ | refine s_qc (by omega) ?_ | refine n_some ?_ | rw [List.getD_cons_zero] | rw [List.getD_cons_succ]))
    refine S.stB fun w6 S => ?_
    (repeat (first | refine s_p ?_ | refine s_c (by omega) ?_ | refine S.ld ?_ | refine S.ldB ?_ | refine S.ce ?_ | refine S.ceB ?_ | refine s_q ?_ | refine s_qc (by omega) ?_ | refine n_some ?_ | rw [List.getD_cons_zero] | rw [List.getD_cons_succ]))
    exact h _ sn _ S.ext ⟨S.holds.le (h := inferInstance), fun b o hb => Nat.le_trans esz (hf b o hb)⟩ hty0
end Go.Proofs
end

section
namespace Go.Proofs
open Go.Sh
set_option maxRecDepth 100000
set_option linter.unusedSimpArgs false
set_option linter.unusedVariables false
mutual
/-- no list of a type is longer than three -/
def TyD.few : TyD → Prop
  | .mk _ _ _ _ of => of.length ≤ 3 ∧ TyD.fews of
def TyD.fews : List TyD → Prop
  | [] => True
  | t :: l => TyD.few t ∧ TyD.fews l
end
theorem TyD.fews_mem : ∀ {l : List TyD}, TyD.fews l → ∀ t ∈ l, t.few
  | [], _, t, h => by cases h
  | x :: l, h, t, ht => by
    rcases List.mem_cons.1 ht with rfl | ht
    · exact h.1
    · exact TyD.fews_mem h.2 t ht
theorem TyD.few_of {t : TyD} (h : t.few) : t.of.length ≤ 3 ∧ ∀ u ∈ t.of, u.few := by
  cases t with | mk k m re st of => exact ⟨h.1, TyD.fews_mem h.2⟩
theorem ChnG.few {sn : Gh} {v : Value} {t : TyD} (h : ChnG sn v t) : t.few := by
  induction h with
  | nil => exact ⟨Nat.zero_le _, trivial⟩
  | one _ _ _ _ ih => exact ⟨by simp, ih, trivial⟩
theorem c_law06_equal : ∀ (n : Nat) (t : TyD), t.ht ≤ n → t.few → ∀ {w : World} {r : Gh} {va vb : Value} {K : Value → World → Prop}, Holds r w → TyG r va t → TyG r vb t →
    (∀ w', Ext w w' → K (.bool true) w') → oCall Tryd.prog Tryd.n_law06_equal #[va, vb] w K := by
  intro n
  induction n with
  | zero => intro t h; cases t; simp [TyD.ht] at h
  | succ n ih =>
    intro t hn hf w r va vb K hr ha hb h
    obtain ⟨hlen, hfs⟩ := TyD.few_of hf
    obtain ⟨p, cap, rfl, _, _, hra⟩ := ha
    obtain ⟨q, cap', rfl, _, _, hrb⟩ := hb
    refine Tryd.ok_law06_equal ?_
    unfold Tryd.F_law06_equal
    have S := St.start hr
    refine S.box fun b2 w1 S => ?_
    refine S.box fun b3 w2 S => ?_
    (repeat (first | refine s_p ?_ | refine s_c (by omega) ?_ | refine S.ld ?_ | refine S.ldB ?_ | refine S.ce ?_ | refine S.ceB ?_ | refine s_q ?_ | refine s_qc (by omega) ?_ | refine n_some ?_ | rw [List.getD_cons_zero] | rw [List.getD_cons_succ]))
    refine j_borH (c := false) (fun _ K2 hK2 => ?_) ?_
    · (repeat (first | refine s_p ?_ | refine s_c (by omega) ?_ | refine S.ld ?_ | refine S.ldB ?_ | refine S.ce ?_ | refine S.ceB ?_ | refine s_q ?_ | refine s_qc (by omega) ?_ | refine n_some ?_ | rw [List.getD_cons_zero] | rw [List.getD_cons_succ]))
      simpa using hK2
    refine j_borH (c := false) (fun _ K2 hK2 => ?_) ?_
    · (repeat (first | refine s_p ?_ | refine s_c (by omega) ?_ | refine S.ld ?_ | refine S.ldB ?_ | refine S.ce ?_ | refine S.ceB ?_ | refine s_q ?_ | refine s_qc (by omega) ?_ | refine n_some ?_ | rw [List.getD_cons_zero] | rw [List.getD_cons_succ]))
      simpa using hK2
    refine j_borH (c := false) (fun _ K2 hK2 => ?_) ?_
    · (repeat (first | refine s_p ?_ | refine s_c (by omega) ?_ | refine S.ld ?_ | refine S.ldB ?_ | refine S.ce ?_ | refine S.ceB ?_ | refine s_q ?_ | refine s_qc (by omega) ?_ | refine n_some ?_ | rw [List.getD_cons_zero] | rw [List.getD_cons_succ]))
      simpa using hK2
    refine j_borH (c := false) (fun _ K2 hK2 => ?_) ?_
    · (repeat (first | refine s_p ?_ | refine s_c (by omega) ?_ | refine S.ld ?_ | refine S.ldB ?_ | refine S.ce ?_ | refine S.ceB ?_ | refine s_q ?_ | refine s_qc (by omega) ?_ | refine n_some ?_ | rw [List.getD_cons_zero] | rw [List.getD_cons_succ]))
      simpa using hK2
    refine c_f (by simp) ?_
    refine l_intro (ι := Nat) (fun i => [.int .i64 i]) (fun i w' => i ≤ t.of.length ∧ StX noX w r w' [.cell b3 (Value.agg #[.int .u8 t.k, .bool t.m, .int .i64 t.re, .int .i64 t.st, .slice q t.of.length cap']).cells.toList 25, .cell b2 (Value.agg #[.int .u8 t.k, .bool t.m, .int .i64 t.re, .int .i64 t.st, .slice p t.of.length cap]).cells.toList 25])
      (fun i => t.of.length - i) 0 rfl ⟨Nat.zero_le _, S⟩ ?_
    clear S
    rintro i d w3 ⟨hi, S⟩ K6 hK6
    rw [List.getD_cons_zero]
    (repeat (first | refine s_p ?_ | refine s_c (by omega) ?_ | refine S.ld ?_ | refine S.ldB ?_ | refine S.ce ?_ | refine S.ceB ?_ | refine s_q ?_ | refine s_qc (by omega) ?_ | refine n_some ?_ | rw [List.getD_cons_zero] | rw [List.getD_cons_succ]))
    refine c_b (fun hlt => ?_) (fun hge => h _ S.ext)
    have hlt : i < t.of.length := by simpa using hlt
    have S := S.go (Ext.drew _)
    obtain ⟨ba, oa, ca, rfl, hca1, hca2, hca3⟩ := ty_elem S hra hlt
    obtain ⟨bb, ob, cb, rfl, hcb1, hcb2, hcb3⟩ := ty_elem S hrb hlt
    (repeat (first | refine s_p ?_ | refine s_c (by omega) ?_ | refine S.ld ?_ | refine S.ldB ?_ | refine S.ce ?_ | refine S.ceB ?_ | refine s_q ?_ | refine s_qc (by omega) ?_ | refine n_some ?_ | rw [List.getD_cons_zero] | rw [List.getD_cons_succ]))
    refine s_ldN (n := 5) hca1 (fun j v hj => by rw [Int.toNat_natCast]; exact hca2 j v hj) ?_
    (repeat (first | refine s_p ?_ | refine s_c (by omega) ?_ | refine S.ld ?_ | refine S.ldB ?_ | refine S.ce ?_ | refine S.ceB ?_ | refine s_q ?_ | refine s_qc (by omega) ?_ | refine n_some ?_ | rw [List.getD_cons_zero] | rw [List.getD_cons_succ]))
    refine s_ldN (n := 5) hcb1 (fun j v hj => by rw [Int.toNat_natCast]; exact hcb2 j v hj) ?_
    refine ih (t.of[i]) (by have := TyD.ht_of (List.getElem_mem hlt); omega) (hfs _ (List.getElem_mem hlt)) S.holds hca3 hcb3 fun w4 e4 => ?_
    have S := S.go e4
    (repeat (first | refine s_p ?_ | refine s_c (by omega) ?_ | refine S.ld ?_ | refine S.ldB ?_ | refine S.ce ?_ | refine S.ceB ?_ | refine s_q ?_ | refine s_qc (by omega) ?_ | refine n_some ?_ | rw [List.getD_cons_zero] | rw [List.getD_cons_succ]))
    rw [show ((i : Int) + 1) = ((i + 1 : Nat) : Int) by omega]
    exact hK6 (i + 1) _ ⟨hlt, S⟩ (by omega)
/-- blocks that may turn turn, none of them one's own -/
theorem _root_.Go.Sh.StX.butX {X Y : Nat → Prop} {w0 w w' : World} {r q : Gh} {L : List Asr} (S : StX X w0 r w L) (e : ExtBut Y w w') (hq : ∀ b o, q b o → r b o ∧ ¬ Y b) (hX : ∀ b, Y b → w0.heap.size ≤ b ∨ X b)
    (hL : ∀ x ∈ L, ∀ k, x.dom k → ¬ Y k) : StX X w0 q w' L :=
  ⟨S.x.but e hX, fun b o hb => (e.block b (S.holds.lt (hq b o hb).1) (hq b o hb).2).trans (S.holds b o (hq b o hb).1),
    fun x hx => Asr.keep (S.has x hx) fun k hk => e.block k (Asr.lt (S.has x hx) hk) (hL x hx k hk), fun x hx k hk => ⟨(S.mine x hx k hk).1, fun o ho => (S.mine x hx k hk).2 o (hq k o ho).1⟩, S.apart⟩
def Gh.dom (r : Gh) (b : Nat) : Prop := ∃ o, r b o
theorem c_law06_spoil {sn : Gh} {v : Value} {t : TyD} (hch : ChnG sn v t) : ∀ {w : World} {K : Value → World → Prop}, TyG sn v t → Holds sn w →
    (∀ w', ExtBut (Gh.dom sn) w w' → K (.tuple #[]) w') → oCall Tryd.prog Tryd.n_law06_spoil #[v] w K := by
  induction hch with
  | nil =>
    intro w K ht hr h
    obtain ⟨p, cap, rfl, _, _, _⟩ := ht
    refine Tryd.ok_law06_spoil ?_
    unfold Tryd.F_law06_spoil
    have S := St.start hr
    refine S.box fun b2 w1 S => ?_
    refine l_intro (ι := Unit) (fun _ => [.int .i64 0]) (fun _ w' => w' = w1) (fun _ => 0) () rfl rfl ?_
    rintro ⟨⟩ d w5 rfl K6 hK6
    rw [List.getD_cons_zero]
    (repeat (first | refine s_p ?_ | refine s_c (by omega) ?_ | refine S.ld ?_ | refine S.ldB ?_ | refine S.ce ?_ | refine S.ceB ?_ | refine s_q ?_ | refine s_qc (by omega) ?_ | refine n_some ?_ | rw [List.getD_cons_zero] | rw [List.getD_cons_succ]))
    refine c_f rfl ?_
    exact h _ (.of_ext S.ext)
  | @one sn b c k re st m u no hc hty _ ih =>
    intro w K ht hr h
    refine Tryd.ok_law06_spoil ?_
    unfold Tryd.F_law06_spoil
    have B : Blk w b c 25 := hr b _ (.inr ⟨rfl, rfl⟩)
    have S : StX (Gh.dom (sn.or (one b c 25))) w sn w [.cell b c 25] :=
      ⟨.refl _ _, fun b o hb => hr b o (.inl hb), fun x hx => by rw [List.mem_singleton.1 hx]; exact B, fun x hx k hk => by
        rw [List.mem_singleton.1 hx] at hk
        obtain rfl : k = b := hk
        exact ⟨.inr ⟨_, .inr ⟨rfl, rfl⟩⟩, no⟩, List.pairwise_singleton _ _⟩
    refine S.box fun b1 w1 S => ?_
    refine l_intro (ι := Bool × Gh × List Value) (fun i => [.int .i64 (if i.1 then 1 else 0)]) (fun i w' => (i.1 = false → i.2.1 = sn ∧ i.2.2 = c) ∧ StX (Gh.dom (sn.or (one b c 25))) w i.2.1 w' [.cell b1 (Value.agg #[.int .u8 k, .bool m, .int .i64 re, .int .i64 st, .slice (some ⟨b, 0, none⟩) 1 1]).cells.toList 25, .cell b i.2.2 25])
      (fun i => if i.1 then 0 else 1) (false, sn, c) rfl ⟨fun _ => ⟨rfl, rfl⟩, S⟩ ?_
    clear S
    rintro ⟨i, q, c'⟩ d w5 ⟨hi, S⟩ K6 hK6
    simp only at hi S ⊢
    rw [List.getD_cons_zero]
    cases i with
    | true =>
      (repeat (first | refine s_p ?_ | refine s_c (by omega) ?_ | refine S.ld ?_ | refine S.ldB ?_ | refine S.ce ?_ | refine S.ceB ?_ | refine s_q ?_ | refine s_qc (by omega) ?_ | refine n_some ?_ | rw [List.getD_cons_zero] | rw [List.getD_cons_succ]))
      refine c_f (by simp) ?_
      exact h _ S.x
    | false =>
      obtain ⟨rfl, rfl⟩ := hi rfl
      rw [show (if false = true then (1 : Int) else 0) = 0 from rfl]
      (repeat (first | refine s_p ?_ | refine s_c (by omega) ?_ | refine S.ld ?_ | refine S.ldB ?_ | refine S.ce ?_ | refine S.ceB ?_ | refine s_q ?_ | refine s_qc (by omega) ?_ | refine n_some ?_ | rw [List.getD_cons_zero] | rw [List.getD_cons_succ]))
      refine S.ldB (b := b) ?_ hc
      refine ih hty S.holds fun w6 e6 => ?_
      have S := S.butX (q := nothing) e6 (fun _ _ h => h.elim) (fun k hk => .inr (by obtain ⟨o, ho⟩ := hk; exact ⟨o, .inl ho⟩)) (fun x hx k hk hy => by obtain ⟨o, ho⟩ := hy; exact (S.mine x hx k hk).2 o ho)
      (repeat (first | refine s_p ?_ | refine s_c (by omega) ?_ | refine S.ld ?_ | refine S.ldB ?_ | refine S.ce ?_ | refine S.ceB ?_ | refine s_q ?_ | refine s_qc (by omega) ?_ | refine n_some ?_ | rw [List.getD_cons_zero] | rw [List.getD_cons_succ]))
      refine S.stB (b := b) (hl := hc) fun w7 S => ?_
      (repeat (first | refine s_p ?_ | refine s_c (by omega) ?_ | refine S.ld ?_ | refine S.ldB ?_ | refine S.ce ?_ | refine S.ceB ?_ | refine s_q ?_ | refine s_qc (by omega) ?_ | refine n_some ?_ | rw [List.getD_cons_zero] | rw [List.getD_cons_succ]))
      exact hK6 (true, nothing, [.int .u8 9, .bool false, .int .i64 0, .int .i64 0, .slice none 0 0]) _ ⟨(fun h => by cases h), S⟩ (by simp)
end Go.Proofs
end

section
namespace Go.Proofs
open Go.Sh
set_option maxRecDepth 100000
set_option linter.unusedSimpArgs false
set_option linter.unusedVariables false
/-- a type whose nodes below the topmost one are one's own cells -/
inductive ChnL : List Value → TyD → List Asr → Prop
  | nil {k re st : Int} {m : Bool} : ChnL [.int .u8 k, .bool m, .int .i64 re, .int .i64 st, .slice none 0 0] (.mk k m re st []) []
  | one {b : Nat} {c : List Value} {k re st : Int} {m : Bool} {u : TyD} {L : List Asr} (h : ChnL c u L) :
    ChnL [.int .u8 k, .bool m, .int .i64 re, .int .i64 st, .slice (some ⟨b, 0, none⟩) 1 1] (.mk k m re st [u]) (.cell b c 25 :: L)
theorem ChnL.len {c : List Value} {t : TyD} {L : List Asr} (h : ChnL c t L) : c.length = 5 := by cases h <;> rfl
theorem ChnL.ones {c : List Value} {t : TyD} {L : List Asr} (h : ChnL c t L) : ∀ u ∈ c, u.oneCell' = true := by
  cases h <;> simp [Value.oneCell']
/-- they are told as data that stays -/
theorem ChnL.frz {X : Nat → Prop} {w0 w : World} {c : List Value} {t : TyD} {N : List Asr} (h : ChnL c t N) : ∀ {r : Gh} {L : List Asr}, StX X w0 r w (N ++ L) →
    ∃ sn, StX X w0 (r.or sn) w L ∧ TyG sn (.agg c.toArray) t ∧ ChnG sn (.agg c.toArray) t ∧ (∀ b o, sn b o → w0.heap.size ≤ b ∨ X b) := by
  induction h with
  | nil =>
    intro r L S
    exact ⟨nothing, S.to _, ty_leaf, .nil, fun _ _ h => h.elim⟩
  | @one b c k re st m u N hu ih =>
    intro r L S
    have S : StX X w0 r w (N ++ (.cell b c 25 :: L)) := S.perm List.perm_middle.symm
    obtain ⟨sn, S, ht, hg, hf⟩ := ih S
    have hm := S.mine (.cell b c 25) (by simp) b rfl
    have S := S.frz
    refine ⟨sn.or (Go.Sh.one b c 25), S.to _, ty_one ht, .one (fun o ho => hm.2 o (.inr ho)) hu.len ht hg, fun b' o ho => ?_⟩
    rcases ho with ho | ⟨rfl, _⟩
    · exact hf b' o ho
    · exact hm.1
section
variable {X : Nat → Prop} {w0 w : World} {r : Gh} {L : List Asr}
theorem c_types_own {s : Int} : ∀ (n : Nat) {t : TyD} {w : World} {r : Gh} {L : List Asr} {v : Value} {K : Value → World → Prop}, n ≤ 1000 → lookB s n t = true → StX X w0 r w L → TyG r v t →
    (∀ c N w', ChnL c t N → StX X w0 r w' (N ++ L) → K (.agg c.toArray) w') → oCall Tryd.prog Tryd.n_types_own #[v] w K := by
  intro n
  induction n with
  | zero => intro t w r L v K _ h; cases h
  | succ n ih =>
    intro t w r L v K hn hl S hv h
    refine Tryd.ok_types_own ?_
    unfold Tryd.F_types_own
    obtain ⟨p, cap, rfl, _, _, hof⟩ := hv
    refine S.box fun b1 w1 S => ?_
    have S : StX X w0 r w1 (.cell b1 [.int .u8 t.k, .bool t.m, .int .i64 t.re, .int .i64 t.st, .slice p t.of.length cap] 25 :: L) := S
    refine S.al fun b2 w2 S => ?_
    refine j_intro (fun _ w' => ∃ q m N, ChnL [.int .u8 t.k, .bool t.m, .int .i64 t.re, .int .i64 t.st, .slice q m m] t N ∧ StX X w0 r w' (N ++ (.cell b2 [.int .u8 0, .bool false, .int .i64 0, .int .i64 0, .slice none 0 0] 25 :: .cell b1 [.int .u8 t.k, .bool t.m, .int .i64 t.re, .int .i64 t.st, .slice q m m] 25 :: L))) (fun K2 hK2 => ?_) ?_
    · have he : t = .mk t.k t.m t.re t.st t.of := by cases t; rfl
      (repeat (first | refine s_p ?_ | refine s_c (by omega) ?_ | refine S.ld ?_ | refine S.ldB ?_ | refine S.ce ?_ | refine S.ceB ?_ | refine s_q ?_ | refine s_qc (by omega) ?_ | refine n_some ?_ | rw [List.getD_cons_zero] | rw [List.getD_cons_succ]))
      rcases look_cases hl with ⟨ho, _⟩ | ⟨u, ho, hu, _⟩
      · refine c_f (by rw [ho]; rfl) ?_
        (repeat (first | refine s_p ?_ | refine s_c (by omega) ?_ | refine S.ld ?_ | refine S.ldB ?_ | refine S.ce ?_ | refine S.ceB ?_ | refine s_q ?_ | refine s_qc (by omega) ?_ | refine n_some ?_ | rw [List.getD_cons_zero] | rw [List.getD_cons_succ]))
        refine S.st fun w3 S => ?_
        refine hK2 [] _ ⟨none, 0, [], ?_, S⟩
        have : ChnL [.int .u8 t.k, .bool t.m, .int .i64 t.re, .int .i64 t.st, .slice none 0 0] (.mk t.k t.m t.re t.st []) [] := .nil
        rw [ho] at he
        rw [← he] at this
        exact this
      · have hlen : t.of.length = 1 := by rw [ho]; rfl
        obtain ⟨ba, oa, rfl, c, hc, hcell, ht⟩ := NdG.of hof (i := 0) (by omega)
        have ht : TyG r (.agg c.toArray) u := by simpa [ho] using ht
        refine c_t (by rw [hlen]; rfl) ?_
        (repeat (first | refine s_p ?_ | refine s_c (by omega) ?_ | refine S.ld ?_ | refine S.ldB ?_ | refine S.ce ?_ | refine S.ceB ?_ | refine s_q ?_ | refine s_qc (by omega) ?_ | refine n_some ?_ | rw [List.getD_cons_zero] | rw [List.getD_cons_succ]))
        refine s_ldN (n := 5) hc (fun j v hj => by simpa using S.at (hcell j v hj)) ?_
        refine ih (by omega) hu S ht fun c' N w3 hch S => ?_
        refine S.lit (e := 25) (cs := c') (by
          cases hch <;> kernel_rfl) fun b9 w4 S => ?_
        have S : StX X w0 r w4 (.cell b1 [.int .u8 t.k, .bool t.m, .int .i64 t.re, .int .i64 t.st, .slice (some ⟨ba, oa, none⟩) t.of.length cap] 25 :: (.cell b9 c' 25 :: N ++ (.cell b2 [.int .u8 0, .bool false, .int .i64 0, .int .i64 0, .slice none 0 0] 25 :: L))) := S.perm (by
          refine (List.Perm.cons _ ?_).trans (.swap _ _ _)
          refine (List.perm_append_comm_assoc N [_] _).trans ?_
          refine (List.Perm.append_left [_] ((List.perm_append_comm_assoc N [_] _))).trans ?_
          refine (List.Perm.swap _ _ _).trans ?_
          refine List.Perm.cons _ ?_
          exact (List.perm_append_comm_assoc [_] N L))
        (repeat (first | refine s_p ?_ | refine s_c (by omega) ?_ | refine S.ld ?_ | refine S.ldB ?_ | refine S.ce ?_ | refine S.ceB ?_ | refine s_q ?_ | refine s_qc (by omega) ?_ | refine n_some ?_ | rw [List.getD_cons_zero] | rw [List.getD_cons_succ]))
        refine S.st fun w5 S => ?_
        have hch' : ChnL [.int .u8 t.k, .bool t.m, .int .i64 t.re, .int .i64 t.st, .slice (some ⟨b9, 0, none⟩) 1 1] (.mk t.k t.m t.re t.st [u]) (.cell b9 c' 25 :: N) := .one hch
        rw [ho] at he
        rw [← he] at hch'
        refine hK2 [] _ ⟨_, _, _, hch', S.perm ?_⟩
        have := List.perm_middle (a := Asr.cell b1 [.int .u8 t.k, .bool t.m, .int .i64 t.re, .int .i64 t.st, .slice (some ⟨b9, 0, none⟩) 1 1] 25) (l₁ := .cell b9 c' 25 :: N ++ [.cell b2 [.int .u8 0, .bool false, .int .i64 0, .int .i64 0, .slice none 0 0] 25]) (l₂ := L)
        simpa using this.symm
    rintro _ w6 ⟨q, m, N, hch, S⟩ d6
    have S : StX X w0 r w6 (.cell b2 [.int .u8 0, .bool false, .int .i64 0, .int .i64 0, .slice none 0 0] 25 :: .cell b1 [.int .u8 t.k, .bool t.m, .int .i64 t.re, .int .i64 t.st, .slice q m m] 25 :: (N ++ L)) := S.perm (by
      refine (List.perm_append_comm_assoc N [_] _).trans ?_
      exact List.Perm.cons _ (List.perm_append_comm_assoc N [_] _))
    (repeat (first | refine s_p ?_ | refine s_c (by omega) ?_ | refine S.ld ?_ | refine S.ldB ?_ | refine S.ce ?_ | refine S.ceB ?_ | refine s_q ?_ | refine s_qc (by omega) ?_ | refine n_some ?_ | rw [List.getD_cons_zero] | rw [List.getD_cons_succ]))
    refine S.stB fun w7 S => ?_
    (repeat (first | refine s_p ?_ | refine s_c (by omega) ?_ | refine S.ld ?_ | refine S.ldB ?_ | refine S.ce ?_ | refine S.ceB ?_ | refine s_q ?_ | refine s_qc (by omega) ?_ | refine n_some ?_ | rw [List.getD_cons_zero] | rw [List.getD_cons_succ]))
    exact h _ N _ hch S.tl.tl
theorem c_types_Own {t : TyD} {w : World} {r : Gh} {v : Value} {K : Value → World → Prop} (hr : Holds r w) (hv : TyG r v t)
    (h : ∀ v' sn w', Ext w w' → New w sn w' → TyG sn v' (if isB t then t else zeroD) → ChnG sn v' (if isB t then t else zeroD) → K (.tuple #[v', .int .i64 (if isB t then 0 else 2)]) w') : oCall Tryd.prog Tryd.n_types_Own #[v] w K := by
  refine Tryd.ok_types_Own ?_
  unfold Tryd.F_types_Own
  have hv0 := hv
  obtain ⟨p, cap, rfl, _⟩ := hv
  have S := St.start hr
  refine S.box fun b1 w1 S => ?_
  refine S.al fun b2 w2 S => ?_
  (repeat (first | refine s_p ?_ | refine s_c (by omega) ?_ | refine S.ld ?_ | refine S.ldB ?_ | refine S.ce ?_ | refine S.ceB ?_ | refine s_q ?_ | refine s_qc (by omega) ?_ | refine n_some ?_ | rw [List.getD_cons_zero] | rw [List.getD_cons_succ]))
  refine c_types_may S.holds hv0 fun w3 e3 => ?_
  have S := S.go e3
  (repeat (first | refine s_p ?_ | refine s_c (by omega) ?_ | refine S.ld ?_ | refine S.ldB ?_ | refine S.ce ?_ | refine S.ceB ?_ | refine s_q ?_ | refine s_qc (by omega) ?_ | refine n_some ?_ | rw [List.getD_cons_zero] | rw [List.getD_cons_succ]))
  refine c_b (fun hn => ?_) (fun hn => ?_)
  · have hn : isB t = false := by simpa using hn
    rw [hn] at h
    refine p_build (cs := #[.int .u8 0, .bool false, .int .i64 0, .int .i64 0, .slice none 0 0]) (by kernel_rfl) ?_
    refine S.stB fun w4 S => ?_
    (repeat (first | refine s_p ?_ | refine s_c (by omega) ?_ | refine S.ld ?_ | refine S.ldB ?_ | refine S.ce ?_ | refine S.ceB ?_ | refine s_q ?_ | refine s_qc (by omega) ?_ | refine n_some ?_ | rw [List.getD_cons_zero] | rw [List.getD_cons_succ]))
    exact h _ nothing _ S.ext New.nothing ty_leaf .nil
  · have hn : isB t = true := by simpa using hn
    rw [hn] at h
    (repeat (first | refine s_p ?_ | refine s_c (by omega) ?_ | refine S.ld ?_ | refine S.ldB ?_ | refine S.ce ?_ | refine S.ceB ?_ | refine s_q ?_ | refine s_qc (by omega) ?_ | refine n_some ?_ | rw [List.getD_cons_zero] | rw [List.getD_cons_succ]))
    refine c_types_own 48 (by decide) hn S hv0 fun c N w4 hch S => ?_
    obtain ⟨sn, S, ht, hg, hf⟩ := hch.frz S
    have hl := hch.len
    have hone := hch.ones
    refine S.stB (cs := c.toArray) (fun w5 S => ?_) rfl (by simpa using hl) (by simpa using hone)
    refine S.ceB ?_ hl
    exact h _ sn _ S.ext ⟨S.holds.le (h := inferInstance), fun b o hb => (hf b o hb).elim id fun h => h.elim⟩ ht hg
end
end Go.Proofs
end

section
namespace Go.Proofs
open Go.Sh
set_option maxRecDepth 100000
set_option linter.unusedSimpArgs false
set_option linter.unusedVariables false
mutual
/-- a type with regions, in order -/
def TyD.lay : List Int → TyD → TyD
  | l, .mk k m re st of => .mk k m (if k = 4 then l.headD 0 else re) st (TyD.lays (if k = 4 then l.tail else l) of)
def TyD.lays : List Int → List TyD → List TyD
  | _, [] => []
  | l, t :: r => TyD.lay l t :: TyD.lays l r
end
theorem chn_cases {c : List Value} {t : TyD} {N : List Asr} (h : ChnL c t N) :
    (t.of = [] ∧ N = [] ∧ c = [.int .u8 t.k, .bool t.m, .int .i64 t.re, .int .i64 t.st, .slice none 0 0]) ∨
    ∃ b cu u N', t.of = [u] ∧ N = .cell b cu 25 :: N' ∧ c = [.int .u8 t.k, .bool t.m, .int .i64 t.re, .int .i64 t.st, .slice (some ⟨b, 0, none⟩) 1 1] ∧ ChnL cu u N' := by
  cases h with
  | nil => exact .inl ⟨rfl, rfl, rfl⟩
  | one h => exact .inr ⟨_, _, _, _, rfl, rfl, rfl, h⟩
theorem lay_nil {t : TyD} {l : List Int} (h : t.of = []) : t.lay l = .mk t.k t.m (if t.k = 4 then l.headD 0 else t.re) t.st [] := by
  cases t with | mk k m re st of => cases h; rfl
theorem lay_one {t u : TyD} {l : List Int} (h : t.of = [u]) : t.lay l = .mk t.k t.m (if t.k = 4 then l.headD 0 else t.re) t.st [u.lay (if t.k = 4 then l.tail else l)] := by
  cases t with | mk k m re st of => cases h; rfl
theorem regs_nil {t : TyD} (h : t.of = []) : t.regs = if t.k = 4 then [t.re] else [] := by
  rw [TyD.regs_eq, h]; simp [TyD.chains, TyD.regsL]
theorem regs_one {t u : TyD} (h : t.of = [u]) : t.regs = (if t.k = 4 then [t.re] else []) ++ u.regs := by
  rw [TyD.regs_eq, h]; rfl
theorem perm_in {α : Type} (a b : α) (C D M : List α) : (a :: (C ++ ((b :: D) ++ M))).Perm (b :: (C ++ (D ++ (a :: M)))) := by
  have h1 : (C ++ ((b :: D) ++ M)).Perm (b :: (C ++ (D ++ M))) := List.perm_middle
  have h2 : (a :: (C ++ (D ++ M))).Perm (C ++ (D ++ (a :: M))) := by
    rw [← List.append_assoc, ← List.append_assoc]; exact List.perm_middle.symm
  exact ((h1.cons a).trans (.swap _ _ _)).trans (h2.cons b)
theorem c_types_walk {s : Int} {fv : Value} {l : List Int} {Lc : Nat → List Asr} {X : Nat → Prop} {w0 : World} {r : Gh}
    (hf : ∀ (i : Nat) (hi : i < l.length) {b : Nat} {k re st : Int} {m : Bool} {v : Value} {M : List Asr} {w : World} {K : Value → World → Prop}, StX X w0 r w (.cell b [.int .u8 k, .bool m, .int .i64 re, .int .i64 st, v] 25 :: (Lc i ++ M)) →
      (∀ w', StX X w0 r w' (.cell b [.int .u8 k, .bool m, .int .i64 l[i], .int .i64 st, v] 25 :: (Lc (i + 1) ++ M)) → K (.tuple #[]) w') → oCallV Tryd.prog fv #[.pointer (some ⟨b, 0, none⟩)] w K) :
    ∀ (n : Nat) {t : TyD} {c : List Value} {N : List Asr} {b i : Nat} {M : List Asr} {w : World} {K : Value → World → Prop}, lookB s n t = true → ChnL c t N → i + t.regs.length ≤ l.length →
      StX X w0 r w (.cell b c 25 :: (Lc i ++ (N ++ M))) →
      (∀ c' N' w', ChnL c' (t.lay (l.drop i)) N' → StX X w0 r w' (.cell b c' 25 :: (Lc (i + t.regs.length) ++ (N' ++ M))) → K (.tuple #[]) w') →
      oCall Tryd.prog Tryd.n_types_walk #[.pointer (some ⟨b, 0, none⟩), fv] w K := by
  intro n
  induction n with
  | zero => intro t c N b i M w K h; cases h
  | succ n ih =>
    intro t c N b i M w K hl hch hi S h
    refine Tryd.ok_types_walk ?_
    unfold Tryd.F_types_walk
    obtain ⟨q, len, hce⟩ : ∃ q len, c = [.int .u8 t.k, .bool t.m, .int .i64 t.re, .int .i64 t.st, .slice q len len] := by
      rcases chn_cases hch with ⟨_, _, hc⟩ | ⟨_, _, _, _, _, _, hc, _⟩
      · exact ⟨_, _, hc⟩
      · exact ⟨_, _, hc⟩
    subst hce
    have hhead : ∀ j, i = j → j < l.length → (l.drop i).headD 0 = l.getD j 0 := by
      intro j hj hlt
      subst hj
      rw [List.drop_eq_getElem_cons hlt, List.headD_cons, List.getD_eq_getElem?_getD, List.getElem?_eq_getElem hlt]; rfl
    refine j_intro (fun _ w' => StX X w0 r w' (.cell b [.int .u8 t.k, .bool t.m, .int .i64 (if t.k = 4 then (l.drop i).headD 0 else t.re), .int .i64 t.st, .slice q len len] 25 :: (Lc (if t.k = 4 then i + 1 else i) ++ (N ++ M)))) (fun K2 hK2 => ?_) ?_
    · (repeat (first | refine s_p ?_ | refine s_c (by omega) ?_ | refine S.ld ?_ | refine S.ldB ?_ | refine S.ce ?_ | refine S.ceB ?_ | refine s_q ?_ | refine s_qc (by omega) ?_ | refine n_some ?_ | rw [List.getD_cons_zero] | rw [List.getD_cons_succ]))
      refine c_if (fun h4 => ?_) (fun h4 => ?_)
      · have h4 : t.k = 4 := by omega
        have hlt : i < l.length := by
          have : 0 < t.regs.length := by
            rw [TyD.regs_eq, if_pos h4]; simp
          omega
        refine hf i hlt S fun w1 S => ?_
        refine hK2 [] _ ?_
        rw [if_pos h4, if_pos h4, hhead i rfl hlt, List.getD_eq_getElem?_getD, List.getElem?_eq_getElem hlt]
        exact S
      · have h4 : ¬ t.k = 4 := by omega
        refine hK2 [] _ ?_
        rw [if_neg h4, if_neg h4]
        exact S
    clear S
    rintro _ w1 S d1
    (repeat (first | refine s_p ?_ | refine s_c (by omega) ?_ | refine S.ld ?_ | refine S.ldB ?_ | refine S.ce ?_ | refine S.ceB ?_ | refine s_q ?_ | refine s_qc (by omega) ?_ | refine n_some ?_ | rw [List.getD_cons_zero] | rw [List.getD_cons_succ]))
    rcases chn_cases hch with ⟨ho, rfl, hc⟩ | ⟨b', cu, u, N', ho, rfl, hc, hu⟩
    · injection hc with _ hc; injection hc with _ hc; injection hc with _ hc; injection hc with _ hc; injection hc with hc _
      cases hc
      (repeat (first | refine s_p ?_ | refine s_c (by omega) ?_ | refine S.ld ?_ | refine S.ldB ?_ | refine S.ce ?_ | refine S.ceB ?_ | refine s_q ?_ | refine s_qc (by omega) ?_ | refine n_some ?_ | rw [List.getD_cons_zero] | rw [List.getD_cons_succ]))
      have e1 : i + t.regs.length = if t.k = 4 then i + 1 else i := by
        rw [regs_nil ho]; split <;> rfl
      refine h _ [] w1 ?_ (by rw [e1]; exact S)
      rw [lay_nil ho]
      exact .nil
    · injection hc with _ hc; injection hc with _ hc; injection hc with _ hc; injection hc with _ hc; injection hc with hc _
      cases hc
      (repeat (first | refine s_p ?_ | refine s_c (by omega) ?_ | refine S.ld ?_ | refine S.ldB ?_ | refine S.ce ?_ | refine S.ceB ?_ | refine s_q ?_ | refine s_qc (by omega) ?_ | refine n_some ?_ | rw [List.getD_cons_zero] | rw [List.getD_cons_succ]))
      have hlu : lookB s n u = true := by
        rcases look_cases hl with ⟨hx, _⟩ | ⟨y, hy, hly, _⟩
        · rw [ho] at hx; cases hx
        · rw [ho] at hy; cases hy; exact hly
      have hreg := congrArg List.length (regs_one ho)
      rw [List.length_append] at hreg
      have hk4 : (if t.k = 4 then [t.re] else ([] : List Int)).length = if t.k = 4 then 1 else 0 := by split <;> rfl
      rw [hk4] at hreg
      have e1 : i + t.regs.length = (if t.k = 4 then i + 1 else i) + u.regs.length := by
        rw [hreg]; split <;> omega
      have e2 : l.drop (if t.k = 4 then i + 1 else i) = if t.k = 4 then (l.drop i).tail else l.drop i := by
        split
        · rw [List.tail_drop]
        · rfl
      have S' : StX X w0 r w1 (.cell b' cu 25 :: (Lc (if t.k = 4 then i + 1 else i) ++ (N' ++ (.cell b [.int .u8 t.k, .bool t.m, .int .i64 (if t.k = 4 then (l.drop i).headD 0 else t.re), .int .i64 t.st, .slice (some ⟨b', 0, none⟩) 1 1] 25 :: M)))) := S.perm (perm_in _ _ _ _ _)
      refine c_t (by simp) ?_
      (repeat (first | refine s_p ?_ | refine s_c (by omega) ?_ | refine S.ld ?_ | refine S.ldB ?_ | refine S.ce ?_ | refine S.ceB ?_ | refine s_q ?_ | refine s_qc (by omega) ?_ | refine n_some ?_ | rw [List.getD_cons_zero] | rw [List.getD_cons_succ]))
      refine ih (i := if t.k = 4 then i + 1 else i) hlu hu (by omega) S' fun c' N'' w2 hch' S => ?_
      rw [e2] at hch'
      have hone := ChnL.one (b := b') (k := t.k) (re := if t.k = 4 then (l.drop i).headD 0 else t.re) (st := t.st) (m := t.m) hch'
      rw [← lay_one ho] at hone
      refine h _ _ w2 hone ?_
      rw [e1]
      exact S.perm (perm_in _ _ _ _ _).symm
/-- numbers one behind the other -/
def upTo (f : Int) (n : Nat) : List Int := (List.range n).map fun i => f + (i : Nat)
theorem upTo_len {f : Int} {n : Nat} : (upTo f n).length = n := by rw [upTo, List.length_map, List.length_range]
theorem upTo_at {f : Int} {n i : Nat} (h : i < (upTo f n).length) : (upTo f n)[i] = f + (i : Nat) := by simp [upTo]
def numB (t : TyD) (f : Int) : Bool := isB t && (decide (0 ≤ f) && decide (f ≤ 512))
def numT (t : TyD) (f : Int) : TyD × Int × Int := if numB t f then (t.lay (upTo f t.regs.length), f + t.regs.length, 0) else (zeroD, 0, 2)
theorem regs_le48 {t : TyD} (h : isB t = true) : t.regs.length ≤ 48 := by
  have h1 := chain_len 48 (look_ht h)
  rw [TyD.regs, TyD.regsL, List.length_map]
  exact Nat.le_trans (List.length_filter_le _ _) h1
theorem c_types_Number {t : TyD} {f : Int} {w : World} {r : Gh} {v : Value} {K : Value → World → Prop} (hr : Holds r w) (hv : TyG r v t)
    (h : ∀ v' sn w', Ext w w' → New w sn w' → TyG sn v' (numT t f).1 → ChnG sn v' (numT t f).1 → K (.tuple #[v', .int .i64 (numT t f).2.1, .int .i64 (numT t f).2.2]) w') : oCall Tryd.prog Tryd.n_types_Number #[v, .int .i64 f] w K := by
  refine Tryd.ok_types_Number ?_
  unfold Tryd.F_types_Number
  have hv0 := hv
  obtain ⟨p, cap, rfl, _⟩ := hv
  have S := St.start hr
  refine S.box fun b2 w1 S => ?_
  refine S.box fun b3 w2 S => ?_
  refine S.al fun b4 w3 S => ?_
  (repeat (first | refine s_p ?_ | refine s_c (by omega) ?_ | refine S.ld ?_ | refine S.ldB ?_ | refine S.ce ?_ | refine S.ceB ?_ | refine s_q ?_ | refine s_qc (by omega) ?_ | refine n_some ?_ | rw [List.getD_cons_zero] | rw [List.getD_cons_succ]))
  refine c_types_may S.holds hv0 fun w4 e4 => ?_
  have S := S.go e4
  (repeat (first | refine s_p ?_ | refine s_c (by omega) ?_ | refine S.ld ?_ | refine S.ldB ?_ | refine S.ce ?_ | refine S.ceB ?_ | refine s_q ?_ | refine s_qc (by omega) ?_ | refine n_some ?_ | rw [List.getD_cons_zero] | rw [List.getD_cons_succ]))
  refine j_borH (c := decide (f < 0)) (fun _ K2 hK2 => ?_) ?_
  · (repeat (first | refine s_p ?_ | refine s_c (by omega) ?_ | refine S.ld ?_ | refine S.ldB ?_ | refine S.ce ?_ | refine S.ceB ?_ | refine s_q ?_ | refine s_qc (by omega) ?_ | refine n_some ?_ | rw [List.getD_cons_zero] | rw [List.getD_cons_succ]))
    exact hK2
  refine j_borH (c := decide (512 < f)) (fun _ K2 hK2 => ?_) ?_
  · (repeat (first | refine s_p ?_ | refine s_c (by omega) ?_ | refine S.ld ?_ | refine S.ldB ?_ | refine S.ce ?_ | refine S.ceB ?_ | refine s_q ?_ | refine s_qc (by omega) ?_ | refine n_some ?_ | rw [List.getD_cons_zero] | rw [List.getD_cons_succ]))
    exact hK2
  have hnb : ((!isB t || decide (f < 0)) || decide (512 < f)) = !numB t f := by
    rw [numB]
    cases isB t
    · simp
    · simp only [Bool.not_true, Bool.false_or, Bool.true_and, Bool.not_and, ← decide_not]
      congr 1 <;> exact decide_eq_decide.2 (by omega)
  rw [hnb]
  refine c_b (fun hn => ?_) (fun hn => ?_)
  · have hn : numB t f = false := by simpa using hn
    have hT : numT t f = (zeroD, 0, 2) := by rw [numT, hn]; rfl
    rw [hT] at h
    refine p_build (cs := #[.int .u8 0, .bool false, .int .i64 0, .int .i64 0, .slice none 0 0]) (by kernel_rfl) ?_
    refine S.stB fun w5 S => ?_
    (repeat (first | refine s_p ?_ | refine s_c (by omega) ?_ | refine S.ld ?_ | refine S.ldB ?_ | refine S.ce ?_ | refine S.ceB ?_ | refine s_q ?_ | refine s_qc (by omega) ?_ | refine n_some ?_ | rw [List.getD_cons_zero] | rw [List.getD_cons_succ]))
    exact h _ nothing _ S.ext New.nothing ty_leaf .nil
  · have hn : numB t f = true := by simpa using hn
    have hT : numT t f = (t.lay (upTo f t.regs.length), f + t.regs.length, 0) := by rw [numT, if_pos hn]
    rw [hT] at h
    rw [numB, Bool.and_eq_true, Bool.and_eq_true, decide_eq_true_eq, decide_eq_true_eq] at hn
    obtain ⟨hB, hf0, hf1⟩ := hn
    have hrl := regs_le48 hB
    (repeat (first | refine s_p ?_ | refine s_c (by omega) ?_ | refine S.ld ?_ | refine S.ldB ?_ | refine S.ce ?_ | refine S.ceB ?_ | refine s_q ?_ | refine s_qc (by omega) ?_ | refine n_some ?_ | rw [List.getD_cons_zero] | rw [List.getD_cons_succ]))
    refine c_types_own 48 (by decide) hB S hv0 fun c N w5 hch S => ?_
    have S : StX noX w r w5 (.cell b2 [.int .u8 t.k, .bool t.m, .int .i64 t.re, .int .i64 t.st, .slice p t.of.length cap] 25 :: ([.cell b3 [.int .i64 f] 3] ++ (N ++ [.cell b4 [.int .u8 0, .bool false, .int .i64 0, .int .i64 0, .slice none 0 0] 25]))) := S.perm (by
      refine (List.Perm.append_left N (List.Perm.swap _ _ _ |>.trans (List.Perm.cons _ (List.Perm.swap _ _ _)))).trans ?_
      refine (List.Perm.append_left N (List.Perm.swap _ _ _)).trans ?_
      refine List.perm_middle.trans (List.Perm.cons _ ?_)
      refine List.perm_middle.trans ?_
      exact List.Perm.refl _)
    have hl := hch.len
    have hone := hch.ones
    refine S.stB (b := b2) (cs := c.toArray) (fun w6 S => ?_) rfl (by simpa using hl) (by simpa using hone)
    (first | refine s_p ?_ | refine s_c (by omega) ?_)
    refine c_types_walk (s := 32) (l := upTo f t.regs.length) (Lc := fun i => [.cell b3 [.int .i64 (f + (i : Nat))] 3]) ?_ 48 (i := 0) hB hch (by rw [upTo_len]; omega) (M := [.cell b4 [.int .u8 0, .bool false, .int .i64 0, .int .i64 0, .slice none 0 0] 25]) (by simpa using S) fun c' N' w7 hch' S => ?_
    · intro i hi b k re st m v M w K S h
      refine v_func (by kernel_rfl) ?_
      refine Tryd.ok_types_Number_1 (t0 := .pointer (some ⟨b, 0, none⟩)) (t1 := .pointer (some ⟨b3, 0, none⟩)) ?_
      unfold Tryd.F_types_Number_1
      rw [upTo_len] at hi
      have S : StX noX _ r _ (.cell b [.int .u8 k, .bool m, .int .i64 re, .int .i64 st, v] 25 :: .cell b3 [.int .i64 (f + (i : Nat))] 3 :: M) := S
      (repeat (first | refine s_p ?_ | refine s_c (by omega) ?_ | refine S.ld ?_ | refine S.ldB ?_ | refine S.ce ?_ | refine S.ceB ?_ | refine s_q ?_ | refine s_qc (by omega) ?_ | refine n_some ?_ | rw [List.getD_cons_zero] | rw [List.getD_cons_succ]))
      refine S.st fun w1 S => ?_
      (repeat (first | refine s_p ?_ | refine s_c (by omega) ?_ | refine S.ld ?_ | refine S.ldB ?_ | refine S.ce ?_ | refine S.ceB ?_ | refine s_q ?_ | refine s_qc (by omega) ?_ | refine n_some ?_ | rw [List.getD_cons_zero] | rw [List.getD_cons_succ]))
      refine S.st fun w2 S => ?_
      refine h _ ?_
      rw [upTo_at]
      rw [show f + (i : Nat) + 1 = f + ((i + 1 : Nat) : Int) by omega] at S
      exact S
    rw [List.drop_zero] at hch'
    rw [Nat.zero_add] at S
    have S : StX noX w r w7 (.cell b2 c' 25 :: .cell b3 [.int .i64 (f + (t.regs.length : Nat))] 3 :: .cell b4 [.int .u8 0, .bool false, .int .i64 0, .int .i64 0, .slice none 0 0] 25 :: N') := S.perm (by
      refine List.Perm.cons _ (List.Perm.cons _ ?_)
      show (N' ++ [_]).Perm ([_] ++ N')
      exact List.perm_append_comm)
    have hl' := hch'.len
    have hone' := hch'.ones
    have S := S.go (Ext.drew _)
    refine S.ldB (b := b2) ?_ hl'
    have fin : ∀ {w8 : World}, StX noX w r w8 (.cell b2 c' 25 :: .cell b3 [.int .i64 (f + (t.regs.length : Nat))] 3 :: .cell b4 c' 25 :: N') → K (.tuple #[.agg c'.toArray, .int .i64 (f + (t.regs.length : Nat)), .int .i64 0]) w8 := by
      intro w8 S
      have S : StX noX w r w8 (N' ++ []) := by rw [List.append_nil]; exact S.tl.tl.tl
      obtain ⟨sn, S, ht, hg, hf⟩ := hch'.frz S
      exact h _ sn _ S.ext ⟨S.holds.le (h := inferInstance), fun b o hb => (hf b o hb).elim id fun h => h.elim⟩ ht hg
    refine ⟨?_, ?_⟩
    · refine w_qE ?_
      (repeat (first | refine s_p ?_ | refine s_c (by omega) ?_ | refine S.ld ?_ | refine S.ldB ?_ | refine S.ce ?_ | refine S.ceB ?_ | refine s_q ?_ | refine s_qc (by omega) ?_ | refine n_some ?_ | rw [List.getD_cons_zero] | rw [List.getD_cons_succ]))
      refine S.stB (b := b4) (cs := c'.toArray) (fun w8 S => ?_) rfl (by simpa using hl') (by simpa using hone')
      refine S.ceB (b := b4) ?_ hl'
      exact fin S
    · refine S.stB (b := b4) (cs := c'.toArray) (fun w8 S => ?_) rfl (by simpa using hl') (by simpa using hone')
      refine w_qE ?_
      (repeat (first | refine s_p ?_ | refine s_c (by omega) ?_ | refine S.ld ?_ | refine S.ldB ?_ | refine S.ce ?_ | refine S.ceB ?_ | refine s_q ?_ | refine s_qc (by omega) ?_ | refine n_some ?_ | rw [List.getD_cons_zero] | rw [List.getD_cons_succ]))
      refine S.ceB (b := b4) ?_ hl'
      exact fin S
end Go.Proofs
end

section
namespace Go.Proofs
open Go.Sh
set_option maxRecDepth 100000
set_option linter.unusedSimpArgs false
set_option linter.unusedVariables false
def anewB (t : TyD) (l : List Int) : Bool := (isB t && decide (t.regs.length = l.length)) && !(l.any fun x => decide (x < -1))
def anewT (t : TyD) (l : List Int) : TyD × Int := if anewB t l then (t.lay l, 0) else (zeroD, 2)
theorem hf_less (x : Int) (w : World) (K : Value → World → Prop) (hk : K (.bool (decide (x < -1))) w) : oCallV Tryd.prog (.func (.func Tryd.n_types_Anew_1) #[] #[]) #[.int .i64 x] w K := by
  refine v_func (by kernel_rfl) ?_
  refine Tryd.ok_types_Anew_1 (t0 := .int .i64 x) ?_
  unfold Tryd.F_types_Anew_1
  (first | refine s_p ?_ | refine s_c (by omega) ?_)
  exact hk
theorem ints_at {w : World} {p : Option Addr} {l : List Int} (h : Sl w p (ints l)) {i : Nat} (hi : i < l.length) : ∃ b off, p = some ⟨b, off, none⟩ ∧ w.cell? ⟨b, off + i, none⟩ = some (.int .i64 l[i]) := by
  obtain ⟨b, off, hp, hc⟩ := h.at (i := i) (by rw [ints_len]; exact hi)
  refine ⟨b, off, hp, ?_⟩
  rw [hc]; simp [ints]
theorem c_types_Anew {t : TyD} {l : List Int} {p : Option Addr} {cap : Nat} {w : World} {r : Gh} {v : Value} {K : Value → World → Prop} (hr : Holds r w) (hv : TyG r v t) (hl : Ob r fun w => Sl w p (ints l)) (hb : l.length ≤ 1000)
    (h : ∀ v' sn w', Ext w w' → New w sn w' → TyG sn v' (anewT t l).1 → ChnG sn v' (anewT t l).1 → K (.tuple #[v', .int .i64 (anewT t l).2]) w') : oCall Tryd.prog Tryd.n_types_Anew #[v, .slice p l.length cap] w K := by
  refine Tryd.ok_types_Anew ?_
  unfold Tryd.F_types_Anew
  have hv0 := hv
  obtain ⟨p1, cap1, rfl, _⟩ := hv
  have S := St.start hr
  refine S.box fun b2 w1 S => ?_
  refine S.box fun b3 w2 S => ?_
  refine S.al fun b4 w3 S => ?_
  have S := S.go (Ext.drew _)
  (repeat (first | refine s_p ?_ | refine s_c (by omega) ?_ | refine S.ld ?_ | refine S.ldB ?_ | refine S.ce ?_ | refine S.ceB ?_ | refine s_q ?_ | refine s_qc (by omega) ?_ | refine n_some ?_ | rw [List.getD_cons_zero] | rw [List.getD_cons_succ]))
  refine c_types_may S.holds hv0 fun w4 e4 => ?_
  have S := S.go e4
  (repeat (first | refine s_p ?_ | refine s_c (by omega) ?_ | refine S.ld ?_ | refine S.ldB ?_ | refine S.ce ?_ | refine S.ceB ?_ | refine s_q ?_ | refine s_qc (by omega) ?_ | refine n_some ?_ | rw [List.getD_cons_zero] | rw [List.getD_cons_succ]))
  refine j_borE (c := decide (t.regs.length ≠ l.length)) (fun hB K2 hK2 => ?_) fun w9 e9 => ?_
  · have hB : isB t = true := by simpa using hB
    (repeat (first | refine s_p ?_ | refine s_c (by omega) ?_ | refine S.ld ?_ | refine S.ldB ?_ | refine S.ce ?_ | refine S.ceB ?_ | refine s_q ?_ | refine s_qc (by omega) ?_ | refine n_some ?_ | rw [List.getD_cons_zero] | rw [List.getD_cons_succ]))
    refine c_types_Regions S.holds hv0 fun v5 w5 e5 o5 => ⟨e5, ?_⟩
    obtain ⟨p5, cap5, rfl, _⟩ := own_shape o5
    (repeat (first | refine s_p ?_ | refine s_c (by omega) ?_ | refine S.ld ?_ | refine S.ldB ?_ | refine S.ce ?_ | refine S.ceB ?_ | refine s_q ?_ | refine s_qc (by omega) ?_ | refine n_some ?_ | rw [List.getD_cons_zero] | rw [List.getD_cons_succ]))
    have := hK2 _ e5
    rw [regsT, if_pos hB]
    have e1 : decide (((t.regs.length : Nat) : Int) ≠ ((l.length : Nat) : Int)) = decide (t.regs.length ≠ l.length) := decide_eq_decide.2 (by omega)
    rw [e1]; exact this
  have S := S.go e9
  refine j_borH (c := l.any fun x => decide (x < -1)) (fun _ K2 hK2 => ?_) ?_
  · (repeat (first | refine s_p ?_ | refine s_c (by omega) ?_ | refine S.ld ?_ | refine S.ldB ?_ | refine S.ce ?_ | refine S.ceB ?_ | refine s_q ?_ | refine s_qc (by omega) ?_ | refine n_some ?_ | rw [List.getD_cons_zero] | rw [List.getD_cons_succ]))
    refine c_ContainsFunc_int (f := fun x => decide (x < -1)) hf_less (S.at hl) (by omega) ?_
    exact hK2
  have hnb : ((!isB t || decide (t.regs.length ≠ l.length)) || l.any fun x => decide (x < -1)) = !anewB t l := by
    rw [anewB]
    cases isB t <;> cases l.any (fun x => decide (x < -1)) <;> simp
  rw [hnb]
  refine c_b (fun hn => ?_) (fun hn => ?_)
  · have hn : anewB t l = false := by simpa using hn
    have hT : anewT t l = (zeroD, 2) := by rw [anewT, hn]; rfl
    rw [hT] at h
    refine p_build (cs := #[.int .u8 0, .bool false, .int .i64 0, .int .i64 0, .slice none 0 0]) (by kernel_rfl) ?_
    refine S.stB fun w5 S => ?_
    (repeat (first | refine s_p ?_ | refine s_c (by omega) ?_ | refine S.ld ?_ | refine S.ldB ?_ | refine S.ce ?_ | refine S.ceB ?_ | refine s_q ?_ | refine s_qc (by omega) ?_ | refine n_some ?_ | rw [List.getD_cons_zero] | rw [List.getD_cons_succ]))
    exact h _ nothing _ S.ext New.nothing ty_leaf .nil
  · have hn : anewB t l = true := by simpa using hn
    have hT : anewT t l = (t.lay l, 0) := by rw [anewT, if_pos hn]
    rw [hT] at h
    rw [anewB, Bool.and_eq_true, Bool.and_eq_true, decide_eq_true_eq] at hn
    obtain ⟨⟨hB, hlen⟩, _⟩ := hn
    (repeat (first | refine s_p ?_ | refine s_c (by omega) ?_ | refine S.ld ?_ | refine S.ldB ?_ | refine S.ce ?_ | refine S.ceB ?_ | refine s_q ?_ | refine s_qc (by omega) ?_ | refine n_some ?_ | rw [List.getD_cons_zero] | rw [List.getD_cons_succ]))
    refine c_types_own 48 (by decide) hB S hv0 fun c N w5 hch S => ?_
    have S : StX noX w r w5 (.cell b2 [.int .u8 t.k, .bool t.m, .int .i64 t.re, .int .i64 t.st, .slice p1 t.of.length cap1] 25 :: ([.cell b3 [.slice p l.length cap] 68] ++ (N ++ [.cell b4 [.int .u8 0, .bool false, .int .i64 0, .int .i64 0, .slice none 0 0] 25]))) := S.perm (by
      refine (List.Perm.append_left N (List.Perm.swap _ _ _ |>.trans (List.Perm.cons _ (List.Perm.swap _ _ _)))).trans ?_
      refine (List.Perm.append_left N (List.Perm.swap _ _ _)).trans ?_
      refine List.perm_middle.trans (List.Perm.cons _ ?_)
      refine List.perm_middle.trans ?_
      exact List.Perm.refl _)
    have hcl := hch.len
    have hone := hch.ones
    refine S.stB (b := b2) (cs := c.toArray) (fun w6 S => ?_) rfl (by simpa using hcl) (by simpa using hone)
    refine S.al fun b6 w7 S => ?_
    refine S.st (b := b6) fun w8 S => ?_
    (first | refine s_p ?_ | refine s_c (by omega) ?_)
    have S : StX noX w r w8 (.cell b2 c 25 :: ([.cell b6 [.int .i64 ((0 : Nat) : Int)] 3, .cell b3 [.slice p l.length cap] 68] ++ (N ++ [.cell b4 [.int .u8 0, .bool false, .int .i64 0, .int .i64 0, .slice none 0 0] 25]))) := S.perm (List.Perm.swap _ _ _)
    refine c_types_walk (s := 32) (l := l) (Lc := fun i => [.cell b6 [.int .i64 (i : Nat)] 3, .cell b3 [.slice p l.length cap] 68]) ?_ 48 (i := 0) hB hch (by omega) (M := [.cell b4 [.int .u8 0, .bool false, .int .i64 0, .int .i64 0, .slice none 0 0] 25]) S fun c' N' w9 hch' S => ?_
    · intro i hi b k re st m v M w K S h
      refine v_func (by kernel_rfl) ?_
      refine Tryd.ok_types_Anew_2 (t0 := .pointer (some ⟨b, 0, none⟩)) (t1 := .pointer (some ⟨b3, 0, none⟩)) (t2 := .pointer (some ⟨b6, 0, none⟩)) ?_
      unfold Tryd.F_types_Anew_2
      have S : StX noX _ r _ (.cell b [.int .u8 k, .bool m, .int .i64 re, .int .i64 st, v] 25 :: .cell b6 [.int .i64 (i : Nat)] 3 :: .cell b3 [.slice p l.length cap] 68 :: M) := S
      obtain ⟨bp, op, rfl, hcell⟩ := ints_at (S.at hl) hi
      (repeat (first | refine s_p ?_ | refine s_c (by omega) ?_ | refine S.ld ?_ | refine S.ldB ?_ | refine S.ce ?_ | refine S.ceB ?_ | refine s_q ?_ | refine s_qc (by omega) ?_ | refine n_some ?_ | rw [List.getD_cons_zero] | rw [List.getD_cons_succ]))
      refine s_ld1 (by simpa using hcell) ?_
      (repeat (first | refine s_p ?_ | refine s_c (by omega) ?_ | refine S.ld ?_ | refine S.ldB ?_ | refine S.ce ?_ | refine S.ceB ?_ | refine s_q ?_ | refine s_qc (by omega) ?_ | refine n_some ?_ | rw [List.getD_cons_zero] | rw [List.getD_cons_succ]))
      refine S.st fun w1 S => ?_
      (repeat (first | refine s_p ?_ | refine s_c (by omega) ?_ | refine S.ld ?_ | refine S.ldB ?_ | refine S.ce ?_ | refine S.ceB ?_ | refine s_q ?_ | refine s_qc (by omega) ?_ | refine n_some ?_ | rw [List.getD_cons_zero] | rw [List.getD_cons_succ]))
      refine S.st (b := b6) fun w2 S => ?_
      refine h _ ?_
      rw [show ((i : Nat) : Int) + 1 = ((i + 1 : Nat) : Int) by omega] at S
      exact S
    rw [List.drop_zero] at hch'
    have S : StX noX w r w9 (.cell b2 c' 25 :: .cell b4 [.int .u8 0, .bool false, .int .i64 0, .int .i64 0, .slice none 0 0] 25 :: N') := (S.less (fun _ _ h => h) (.cons_cons _ (List.sublist_append_right _ _))).perm (by
      refine List.Perm.cons _ ?_
      show (N' ++ [_]).Perm ([_] ++ N')
      exact List.perm_append_comm)
    have hl' := hch'.len
    have hone' := hch'.ones
    refine S.ldB (b := b2) ?_ hl'
    refine S.stB (b := b4) (cs := c'.toArray) (fun w8 S => ?_) rfl (by simpa using hl') (by simpa using hone')
    refine S.ceB (b := b4) ?_ hl'
    have S : StX noX w r w8 (N' ++ []) := by rw [List.append_nil]; exact S.tl.tl
    obtain ⟨sn, S, ht, hg, hf⟩ := hch'.frz S
    exact h _ sn _ S.ext ⟨S.holds.le (h := inferInstance), fun b o hb => (hf b o hb).elim id fun h => h.elim⟩ ht hg
end Go.Proofs
end

section
namespace Go.Proofs
open Go.Sh
set_option maxRecDepth 100000
set_option linter.unusedSimpArgs false
set_option linter.unusedVariables false
theorem _root_.Go.Sh.Holds.inAll {r : Gh} {w : World} (h : Holds r w) : Le r (all w) := ⟨fun b o hb => h b o hb⟩
theorem sl_tail {w : World} {p : Option Addr} {vs : List Value} {cap : Nat} (h : Sl w p vs) (hc : vs.length ≤ cap) : Sl w (if cap = 1 then p else p.map (·.add (1 * 1))) vs.tail := fun i v hv => by
  rw [← List.drop_one, List.getElem?_drop] at hv
  by_cases h1 : cap = 1
  · have := (List.getElem?_eq_some_iff.1 hv).1
    omega
  · rw [if_neg h1]
    obtain ⟨b, off, rfl, hcell⟩ := h _ v hv
    refine ⟨b, off + 1, ?_, ?_⟩
    · simp only [Option.map_some, addr_add, Nat.mul_one]
    · rw [Nat.add_assoc]; exact hcell
theorem c_ref06_laid {s : Int} : ∀ (n : Nat) {t : TyD} {l : List Int} {p : Option Addr} {cap : Nat} {w : World} {r : Gh} {v : Value} {K : Value → World → Prop}, n ≤ 1000 → lookB s n t = true → Holds r w → TyG r v t →
    (Ob r fun w => Sl w p (ints l)) → l.length ≤ cap → t.regs.length ≤ l.length → (∀ v' sn w', Ext w w' → New w sn w' → TyG sn v' (t.lay l) → K v' w') → oCall Tryd.prog Tryd.n_ref06_laid #[v, .slice p l.length cap] w K := by
  intro n
  induction n with
  | zero => intro t l p cap w r v K _ h; cases h
  | succ n ih =>
    intro t l p cap w r v K hn hl hr hv hsl hcap hreg h
    refine Tryd.ok_ref06_laid ?_
    unfold Tryd.F_ref06_laid
    have hv0 := hv
    obtain ⟨p1, cap1, rfl, hp1, hcap1, hof⟩ := hv
    have S := St.start hr
    refine S.box fun b2 w1 S => ?_
    refine S.al fun b4 w2 S => ?_
    have S : StX noX w r w2 [.cell b4 [.int .u8 0, .bool false, .int .i64 0, .int .i64 0, .slice none 0 0] 25, .cell b2 [.int .u8 t.k, .bool t.m, .int .i64 t.re, .int .i64 t.st, .slice p1 t.of.length cap1] 25] := S
    refine j_intro (fun s w' => ∃ p' cap', s = [.slice p' (if t.k = 4 then l.tail else l).length cap'] ∧ (Ob r fun w => Sl w p' (ints (if t.k = 4 then l.tail else l))) ∧ (if t.k = 4 then l.tail else l).length ≤ cap' ∧
      StX noX w r w' [.cell b4 [.int .u8 0, .bool false, .int .i64 0, .int .i64 0, .slice none 0 0] 25, .cell b2 [.int .u8 t.k, .bool t.m, .int .i64 (if t.k = 4 then l.headD 0 else t.re), .int .i64 t.st, .slice p1 t.of.length cap1] 25]) (fun K2 hK2 => ?_) ?_
    · (repeat (first | refine s_p ?_ | refine s_c (by omega) ?_ | refine S.ld ?_ | refine S.ldB ?_ | refine S.ce ?_ | refine S.ceB ?_ | refine s_q ?_ | refine s_qc (by omega) ?_ | refine n_some ?_ | rw [List.getD_cons_zero] | rw [List.getD_cons_succ]))
      refine c_if (fun h4 => ?_) (fun h4 => ?_)
      · have h4 : t.k = 4 := by omega
        have hpos : 0 < l.length := by
          have : 0 < t.regs.length := by
            rw [TyD.regs_eq, if_pos h4]; simp
          omega
        obtain ⟨bp, op, rfl, hcell⟩ := ints_at (S.at hsl) hpos
        (repeat (first | refine s_p ?_ | refine s_c (by omega) ?_ | refine S.ld ?_ | refine S.ldB ?_ | refine S.ce ?_ | refine S.ceB ?_ | refine s_q ?_ | refine s_qc (by omega) ?_ | refine n_some ?_ | rw [List.getD_cons_zero] | rw [List.getD_cons_succ]))
        refine s_ld1 (by simpa using hcell) ?_
        (repeat (first | refine s_p ?_ | refine s_c (by omega) ?_ | refine S.ld ?_ | refine S.ldB ?_ | refine S.ce ?_ | refine S.ceB ?_ | refine s_q ?_ | refine s_qc (by omega) ?_ | refine n_some ?_ | rw [List.getD_cons_zero] | rw [List.getD_cons_succ]))
        refine S.st fun w3 S => ?_
        (repeat (first | refine s_p ?_ | refine s_c (by omega) ?_ | refine S.ld ?_ | refine S.ldB ?_ | refine S.ce ?_ | refine S.ceB ?_ | refine s_q ?_ | refine s_qc (by omega) ?_ | refine n_some ?_ | rw [List.getD_cons_zero] | rw [List.getD_cons_succ]))
        refine hK2 _ _ ⟨if cap = 1 then some ⟨bp, op, none⟩ else (some (⟨bp, op, none⟩ : Addr)).map (·.add (1 * 1)), cap - 1, ?_, ?_, ?_, ?_⟩
        · rw [if_pos h4, List.length_tail]; rfl
        · intro w hw
          have := sl_tail (hsl w hw) (by rw [ints_len]; exact hcap)
          rw [if_pos h4, ints, List.map_tail]
          exact this
        · rw [if_pos h4, List.length_tail]; omega
        · rw [if_pos h4]
          obtain ⟨x, l', rfl⟩ : ∃ x l', l = x :: l' := by cases l with | nil => simp at hpos | cons x l' => exact ⟨x, l', rfl⟩
          exact S
      · have h4 : ¬ t.k = 4 := by omega
        refine hK2 _ _ ⟨p, cap, by rw [if_neg h4], by rw [if_neg h4]; exact hsl, by rw [if_neg h4]; exact hcap, by rw [if_neg h4]; exact S⟩
    clear S
    rintro s w3 ⟨p', cap', rfl, hsl', hcap', S⟩ d3
    refine j_intro (fun _ w' => ∃ sn q m c, (∀ b o, sn b o → w.heap.size ≤ b) ∧ TyG sn (.agg #[.int .u8 t.k, .bool t.m, .int .i64 (if t.k = 4 then l.headD 0 else t.re), .int .i64 t.st, .slice q m c]) (t.lay l) ∧
      StX noX w (r.or sn) w' [.cell b4 [.int .u8 0, .bool false, .int .i64 0, .int .i64 0, .slice none 0 0] 25, .cell b2 [.int .u8 t.k, .bool t.m, .int .i64 (if t.k = 4 then l.headD 0 else t.re), .int .i64 t.st, .slice q m c] 25]) (fun K2 hK2 => ?_) ?_
    · (repeat (first | refine s_p ?_ | refine s_c (by omega) ?_ | refine S.ld ?_ | refine S.ldB ?_ | refine S.ce ?_ | refine S.ceB ?_ | refine s_q ?_ | refine s_qc (by omega) ?_ | refine n_some ?_ | rw [List.getD_cons_zero] | rw [List.getD_cons_succ]))
      rcases look_cases hl with ⟨ho, _⟩ | ⟨u, ho, hu, _⟩
      · refine c_f (by rw [ho]; rfl) ?_
        refine hK2 _ _ ⟨nothing, p1, t.of.length, cap1, fun _ _ h => h.elim, ?_, S.less (fun b o h => h.elim id fun h => h.elim) (List.Sublist.refl _)⟩
        rw [lay_nil ho, ho]
        exact ⟨p1, cap1, rfl, hp1, Nat.zero_le _, trivial⟩
      · have hlen : t.of.length = 1 := by rw [ho]; rfl
        refine c_t (by rw [hlen]; rfl) ?_
        obtain ⟨ba, oa, rfl, c, hc, hcell, ht⟩ := NdG.of hof (i := 0) (by omega)
        have ht : TyG r (.agg c.toArray) u := by simpa [ho] using ht
        (repeat (first | refine s_p ?_ | refine s_c (by omega) ?_ | refine S.ld ?_ | refine S.ldB ?_ | refine S.ce ?_ | refine S.ceB ?_ | refine s_q ?_ | refine s_qc (by omega) ?_ | refine n_some ?_ | rw [List.getD_cons_zero] | rw [List.getD_cons_succ]))
        refine s_ldN (n := 5) hc (fun j v hj => by simpa using S.at (hcell j v hj)) ?_
        have hreg' : u.regs.length ≤ (if t.k = 4 then l.tail else l).length := by
          have h1 := congrArg List.length (regs_one ho)
          rw [List.length_append] at h1
          split
          · rename_i h4
            rw [if_pos h4] at h1
            rw [List.length_tail]
            simp at h1
            omega
          · omega
        refine ih (by omega) hu S.holds ht hsl' hcap' hreg' fun v4 sn w4 e4 n4 ht4 => ?_
        obtain ⟨S, _, hf⟩ := S.tell e4 n4
        obtain ⟨p4, cap4, rfl, hp4, hc4, hof4⟩ := id ht4
        refine S.lit (e := 25) (cs := [.int .u8 (u.lay (if t.k = 4 then l.tail else l)).k, .bool (u.lay (if t.k = 4 then l.tail else l)).m, .int .i64 (u.lay (if t.k = 4 then l.tail else l)).re, .int .i64 (u.lay (if t.k = 4 then l.tail else l)).st, .slice p4 (u.lay (if t.k = 4 then l.tail else l)).of.length cap4]) (by kernel_rfl) fun b9 w5 S => ?_
        have hb9 := S.ge b9
        (repeat (first | refine s_p ?_ | refine s_c (by omega) ?_ | refine S.ld ?_ | refine S.ldB ?_ | refine S.ce ?_ | refine S.ceB ?_ | refine s_q ?_ | refine s_qc (by omega) ?_ | refine n_some ?_ | rw [List.getD_cons_zero] | rw [List.getD_cons_succ]))
        refine S.st fun w6 S => ?_
        have S := S.frz
        refine hK2 _ _ ⟨sn.or (one b9 [.int .u8 (u.lay (if t.k = 4 then l.tail else l)).k, .bool (u.lay (if t.k = 4 then l.tail else l)).m, .int .i64 (u.lay (if t.k = 4 then l.tail else l)).re, .int .i64 (u.lay (if t.k = 4 then l.tail else l)).st, .slice p4 (u.lay (if t.k = 4 then l.tail else l)).of.length cap4] 25), some ⟨b9, 0, none⟩, 1, 1, ?_, ?_, S.to _⟩
        · intro b o ho
          rcases ho with ho | ⟨rfl, _⟩
          · exact hf b o ho
          · exact hb9.resolve_right id
        · rw [lay_one ho]
          exact ty_one ht4
    rintro s w6 ⟨sn, q, m, c, hf, hty, S⟩ d6
    (repeat (first | refine s_p ?_ | refine s_c (by omega) ?_ | refine S.ld ?_ | refine S.ldB ?_ | refine S.ce ?_ | refine S.ceB ?_ | refine s_q ?_ | refine s_qc (by omega) ?_ | refine n_some ?_ | rw [List.getD_cons_zero] | rw [List.getD_cons_succ]))
    refine S.stB fun w7 S => ?_
    (repeat (first | refine s_p ?_ | refine s_c (by omega) ?_ | refine S.ld ?_ | refine S.ldB ?_ | refine S.ce ?_ | refine S.ceB ?_ | refine s_q ?_ | refine s_qc (by omega) ?_ | refine n_some ?_ | rw [List.getD_cons_zero] | rw [List.getD_cons_succ]))
    exact h _ sn _ S.ext ⟨S.holds.le (h := inferInstance), hf⟩ hty
theorem c_ref06_laidL {s : Int} {n len : Nat} {t : TyD} {l : List Int} {p : Option Addr} {cap : Nat} {w : World} {r : Gh} {v : Value} {K : Value → World → Prop} (he : len = l.length) (hn : n ≤ 1000) (hk : lookB s n t = true) (hr : Holds r w) (hv : TyG r v t)
    (hs : Ob r fun w => Sl w p (ints l)) (hc : l.length ≤ cap) (hg : t.regs.length ≤ l.length) (h : ∀ v' sn w', Ext w w' → New w sn w' → TyG sn v' (t.lay l) → K v' w') : oCall Tryd.prog Tryd.n_ref06_laid #[v, .slice p len cap] w K := by
  subst he
  exact c_ref06_laid n hn hk hr hv hs hc hg h
theorem c_ref06_Number {t : TyD} {f : Int} {w : World} {r : Gh} {v : Value} {K : Value → World → Prop} (hr : Holds r w) (hv : TyG r v t)
    (h : ∀ v' sn w', Ext w w' → New w sn w' → TyG sn v' (numT t f).1 → K (.tuple #[v', .int .i64 (numT t f).2.1, .int .i64 (numT t f).2.2]) w') : oCall Tryd.prog Tryd.n_ref06_Number #[v, .int .i64 f] w K := by
  refine Tryd.ok_ref06_Number ?_
  unfold Tryd.F_ref06_Number
  have hv0 := hv
  obtain ⟨p, cap, rfl, _⟩ := hv
  have S := St.start hr
  refine S.box fun b2 w1 S => ?_
  refine S.al fun b4 w3 S => ?_
  (repeat (first | refine s_p ?_ | refine s_c (by omega) ?_ | refine S.ld ?_ | refine S.ldB ?_ | refine S.ce ?_ | refine S.ceB ?_ | refine s_q ?_ | refine s_qc (by omega) ?_ | refine n_some ?_ | rw [List.getD_cons_zero] | rw [List.getD_cons_succ]))
  refine c_ref06_Is S.holds hv0 fun w4 e4 => ?_
  have S := S.go e4
  (repeat (first | refine s_p ?_ | refine s_c (by omega) ?_ | refine S.ld ?_ | refine S.ldB ?_ | refine S.ce ?_ | refine S.ceB ?_ | refine s_q ?_ | refine s_qc (by omega) ?_ | refine n_some ?_ | rw [List.getD_cons_zero] | rw [List.getD_cons_succ]))
  refine j_borH (c := decide (f < 0)) (fun _ K2 hK2 => ?_) ?_
  · (repeat (first | refine s_p ?_ | refine s_c (by omega) ?_ | refine S.ld ?_ | refine S.ldB ?_ | refine S.ce ?_ | refine S.ceB ?_ | refine s_q ?_ | refine s_qc (by omega) ?_ | refine n_some ?_ | rw [List.getD_cons_zero] | rw [List.getD_cons_succ]))
    exact hK2
  refine j_borH (c := decide (512 < f)) (fun _ K2 hK2 => ?_) ?_
  · (repeat (first | refine s_p ?_ | refine s_c (by omega) ?_ | refine S.ld ?_ | refine S.ldB ?_ | refine S.ce ?_ | refine S.ceB ?_ | refine s_q ?_ | refine s_qc (by omega) ?_ | refine n_some ?_ | rw [List.getD_cons_zero] | rw [List.getD_cons_succ]))
    exact hK2
  have hnb : ((!isB t || decide (f < 0)) || decide (512 < f)) = !numB t f := by
    rw [numB]
    cases isB t
    · simp
    · simp only [Bool.not_true, Bool.false_or, Bool.true_and, Bool.not_and, ← decide_not]
      congr 1 <;> exact decide_eq_decide.2 (by omega)
  rw [hnb]
  refine c_b (fun hn => ?_) (fun hn => ?_)
  · have hn : numB t f = false := by simpa using hn
    have hT : numT t f = (zeroD, 0, 2) := by rw [numT, hn]; rfl
    rw [hT] at h
    refine p_build (cs := #[.int .u8 0, .bool false, .int .i64 0, .int .i64 0, .slice none 0 0]) (by kernel_rfl) ?_
    refine S.stB fun w5 S => ?_
    (repeat (first | refine s_p ?_ | refine s_c (by omega) ?_ | refine S.ld ?_ | refine S.ldB ?_ | refine S.ce ?_ | refine S.ceB ?_ | refine s_q ?_ | refine s_qc (by omega) ?_ | refine n_some ?_ | rw [List.getD_cons_zero] | rw [List.getD_cons_succ]))
    exact h _ nothing _ S.ext New.nothing ty_leaf
  have hn : numB t f = true := by simpa using hn
  have hT : numT t f = (t.lay (upTo f t.regs.length), f + t.regs.length, 0) := by rw [numT, if_pos hn]
  rw [hT] at h
  rw [numB, Bool.and_eq_true, Bool.and_eq_true, decide_eq_true_eq, decide_eq_true_eq] at hn
  obtain ⟨hB, hf0, hf1⟩ := hn
  have hrl := regs_le48 hB
  (repeat (first | refine s_p ?_ | refine s_c (by omega) ?_ | refine S.ld ?_ | refine S.ldB ?_ | refine S.ce ?_ | refine S.ceB ?_ | refine s_q ?_ | refine s_qc (by omega) ?_ | refine n_some ?_ | rw [List.getD_cons_zero] | rw [List.getD_cons_succ]))
  refine c_ref06_Regions S.holds hv0 fun v5 w5 e5 o5 => ?_
  have S := S.take e5 o5
  have hreg : regsT t = t.regs := by rw [regsT, if_pos hB]
  rw [hreg] at S
  -- what comes behind the round
  have fin : ∀ {w9 : World} {M : List Asr} {p5 : Option Addr} {cap5 : Nat}, StX noX w r w9 (.cell b4 [.int .u8 0, .bool false, .int .i64 0, .int .i64 0, .slice none 0 0] 25 :: .cell b2 [.int .u8 t.k, .bool t.m, .int .i64 t.re, .int .i64 t.st, .slice p t.of.length cap] 25 :: M) →
      Sl w9 p5 (ints (upTo f t.regs.length)) → t.regs.length ≤ cap5 →
      opQ Tryd.prog w9 (Instr.loadAt 25 (.pointer (some ⟨b2, 0, none⟩))) fun t35 => oCall Tryd.prog Tryd.n_ref06_laid #[t35, .slice p5 t.regs.length cap5] w9 fun t37 w20 =>
        opP Tryd.prog (Builtin.len_ #[68] 3 #[.slice p5 t.regs.length cap5]) fun t40 => opP Tryd.prog (bsem .add 3 false (.int .i64 f) t40) fun t41 =>
          opU Tryd.prog w20 (Instr.storeAt 25 (.pointer (some ⟨b4, 0, none⟩)) t37) fun w21 => opQ Tryd.prog w21 (cellSem 25 (.pointer (some ⟨b4, 0, none⟩))) fun r22 => K (.tuple #[r22, t41, .int .i64 0]) w21 := by
    intro w9 M p5 cap5 S hs hc
    (repeat (first | refine s_p ?_ | refine s_c (by omega) ?_ | refine S.ld ?_ | refine S.ldB ?_ | refine S.ce ?_ | refine S.ceB ?_ | refine s_q ?_ | refine s_qc (by omega) ?_ | refine n_some ?_ | rw [List.getD_cons_zero] | rw [List.getD_cons_succ]))
    refine c_ref06_laidL (s := 32) (n := 48) upTo_len.symm (by decide) hB (all_holds _) (hv0.up (l := S.holds.inAll)) (Sl.all hs) (by rw [upTo_len]; exact hc) (by rw [upTo_len]; exact Nat.le_refl _) fun v6 sn w6 e6 n6 ht6 => ?_
    obtain ⟨S, _, hf⟩ := S.tell e6 n6
    obtain ⟨p6, cap6, rfl, hrest⟩ := id ht6
    (repeat (first | refine s_p ?_ | refine s_c (by omega) ?_ | refine S.ld ?_ | refine S.ldB ?_ | refine S.ce ?_ | refine S.ceB ?_ | refine s_q ?_ | refine s_qc (by omega) ?_ | refine n_some ?_ | rw [List.getD_cons_zero] | rw [List.getD_cons_succ]))
    refine S.stB fun w7 S => ?_
    (repeat (first | refine s_p ?_ | refine s_c (by omega) ?_ | refine S.ld ?_ | refine S.ldB ?_ | refine S.ce ?_ | refine S.ceB ?_ | refine s_q ?_ | refine s_qc (by omega) ?_ | refine n_some ?_ | rw [List.getD_cons_zero] | rw [List.getD_cons_succ]))
    exact h _ sn _ S.ext ⟨S.holds.le (h := inferInstance), hf⟩ ht6
  by_cases hz : t.regs.length = 0
  · obtain ⟨p5, cap5, rfl, hp5, hc5, hl5, hs5⟩ := S.rowS v5
    refine l_intro (ι := Unit) (fun _ => [.int .i64 0]) (fun _ w' => w' = w5) (fun _ => 0) () rfl rfl ?_
    rintro ⟨⟩ d w6 rfl K6 hK6
    rw [List.getD_cons_zero]
    (repeat (first | refine s_p ?_ | refine s_c (by omega) ?_ | refine S.ld ?_ | refine S.ldB ?_ | refine S.ce ?_ | refine S.ceB ?_ | refine s_q ?_ | refine s_qc (by omega) ?_ | refine n_some ?_ | rw [List.getD_cons_zero] | rw [List.getD_cons_succ]))
    refine c_f (by rw [hz]; rfl) ?_
    refine fin S.tl ?_ hc5
    rw [hz]
    exact Sl.nil _ _
  · obtain ⟨b5, cap5, c, rfl, hc5, hcl, htk, S⟩ := S.rowCell v5 hz
    refine l_intro (ι := Nat × List Int × List Value) (fun i => [.int .i64 i.1]) (fun i w' => i.1 ≤ t.regs.length ∧ i.2.1.length = t.regs.length ∧ (∀ j, j < i.1 → i.2.1[j]? = some (f + (j : Nat))) ∧ i.2.2.length = cap5 * 1 ∧ i.2.2.take (t.regs.length * 1) = ints i.2.1 ∧
      StX noX w r w' [.cell b5 i.2.2 3, .cell b4 [.int .u8 0, .bool false, .int .i64 0, .int .i64 0, .slice none 0 0] 25, .cell b2 [.int .u8 t.k, .bool t.m, .int .i64 t.re, .int .i64 t.st, .slice p t.of.length cap] 25]) (fun i => t.regs.length - i.1) (0, t.regs, c) rfl
      ⟨Nat.zero_le _, rfl, fun j hj => by omega, hcl, htk, S⟩ ?_
    clear S
    rintro ⟨i, xs, c'⟩ d w6 ⟨hi, hxl, hxs, hcl', htk', S⟩ K6 hK6
    simp only at hi hxl hxs hcl' htk' S ⊢
    rw [List.getD_cons_zero]
    (repeat (first | refine s_p ?_ | refine s_c (by omega) ?_ | refine S.ld ?_ | refine S.ldB ?_ | refine S.ce ?_ | refine S.ceB ?_ | refine s_q ?_ | refine s_qc (by omega) ?_ | refine n_some ?_ | rw [List.getD_cons_zero] | rw [List.getD_cons_succ]))
    refine c_b (fun hlt => ?_) (fun hge => ?_)
    · have hlt : i < t.regs.length := by simpa using hlt
      (repeat (first | refine s_p ?_ | refine s_c (by omega) ?_ | refine S.ld ?_ | refine S.ldB ?_ | refine S.ce ?_ | refine S.ceB ?_ | refine s_q ?_ | refine s_qc (by omega) ?_ | refine n_some ?_ | rw [List.getD_cons_zero] | rw [List.getD_cons_succ]))
      refine S.st (b := b5) (fun w7 S => ?_) (by omega)
      (repeat (first | refine s_p ?_ | refine s_c (by omega) ?_ | refine S.ld ?_ | refine S.ldB ?_ | refine S.ce ?_ | refine S.ceB ?_ | refine s_q ?_ | refine s_qc (by omega) ?_ | refine n_some ?_ | rw [List.getD_cons_zero] | rw [List.getD_cons_succ]))
      rw [show ((i : Int) + 1) = ((i + 1 : Nat) : Int) by omega]
      refine hK6 (i + 1, xs.set i (f + (i : Nat)), c'.set i (.int .i64 (f + (i : Nat)))) _ ⟨hlt, by simpa using hxl, fun j hj => ?_, by simpa using hcl', ?_, ?_⟩ (by simp only; omega)
      · by_cases hji : j = i
        · subst hji
          rw [List.getElem?_set_self (by omega)]
        · rw [List.getElem?_set_ne (by omega)]
          exact hxs j (by omega)
      · rw [List.take_set, htk', ints, ints, List.map_set]
      · simpa using S
    · have hge : i = t.regs.length := by
        have : ¬ i < t.regs.length := by simpa using hge
        omega
      have hx : xs = upTo f t.regs.length := by
        apply List.ext_getElem?
        intro j
        by_cases hj : j < t.regs.length
        · rw [hxs j (by omega), List.getElem?_eq_getElem (by rw [upTo_len]; exact hj), upTo_at]
        · rw [List.getElem?_eq_none (by omega), List.getElem?_eq_none (by rw [upTo_len]; omega)]
      refine fin (M := [.cell b5 c' 3]) (S.perm (List.Perm.trans (List.Perm.swap _ _ _) (List.Perm.cons _ (List.Perm.swap _ _ _)))) ?_ hc5
      rw [← hx, ← htk']
      exact (Sl.blk (S.blk b5)).take _
theorem c_ref06_Anew {t : TyD} {l : List Int} {p : Option Addr} {cap : Nat} {w : World} {r : Gh} {v : Value} {K : Value → World → Prop} (hr : Holds r w) (hv : TyG r v t) (hl : Ob r fun w => Sl w p (ints l)) (hb : l.length ≤ 1000) (hcap : l.length ≤ cap)
    (h : ∀ v' sn w', Ext w w' → New w sn w' → TyG sn v' (anewT t l).1 → K (.tuple #[v', .int .i64 (anewT t l).2]) w') : oCall Tryd.prog Tryd.n_ref06_Anew #[v, .slice p l.length cap] w K := by
  refine Tryd.ok_ref06_Anew ?_
  unfold Tryd.F_ref06_Anew
  have hv0 := hv
  obtain ⟨p1, cap1, rfl, _⟩ := hv
  have S := St.start hr
  refine S.box fun b2 w1 S => ?_
  refine S.al fun b4 w3 S => ?_
  (repeat (first | refine s_p ?_ | refine s_c (by omega) ?_ | refine S.ld ?_ | refine S.ldB ?_ | refine S.ce ?_ | refine S.ceB ?_ | refine s_q ?_ | refine s_qc (by omega) ?_ | refine n_some ?_ | rw [List.getD_cons_zero] | rw [List.getD_cons_succ]))
  refine c_ref06_Is S.holds hv0 fun w4 e4 => ?_
  have S := S.go e4
  (repeat (first | refine s_p ?_ | refine s_c (by omega) ?_ | refine S.ld ?_ | refine S.ldB ?_ | refine S.ce ?_ | refine S.ceB ?_ | refine s_q ?_ | refine s_qc (by omega) ?_ | refine n_some ?_ | rw [List.getD_cons_zero] | rw [List.getD_cons_succ]))
  refine j_borE (c := decide (t.regs.length ≠ l.length)) (fun hB K2 hK2 => ?_) fun w9 e9 => ?_
  · have hB : isB t = true := by simpa using hB
    (repeat (first | refine s_p ?_ | refine s_c (by omega) ?_ | refine S.ld ?_ | refine S.ldB ?_ | refine S.ce ?_ | refine S.ceB ?_ | refine s_q ?_ | refine s_qc (by omega) ?_ | refine n_some ?_ | rw [List.getD_cons_zero] | rw [List.getD_cons_succ]))
    refine c_ref06_Regions S.holds hv0 fun v5 w5 e5 o5 => ?_
    obtain ⟨p5, cap5, rfl, _⟩ := own_shape o5
    (repeat (first | refine s_p ?_ | refine s_c (by omega) ?_ | refine S.ld ?_ | refine S.ldB ?_ | refine S.ce ?_ | refine S.ceB ?_ | refine s_q ?_ | refine s_qc (by omega) ?_ | refine n_some ?_ | rw [List.getD_cons_zero] | rw [List.getD_cons_succ]))
    have := hK2 _ e5
    rw [regsT, if_pos hB]
    have e1 : decide (((l.length : Nat) : Int) ≠ ((t.regs.length : Nat) : Int)) = decide (t.regs.length ≠ l.length) := decide_eq_decide.2 (by omega)
    rw [e1]; exact this
  have S := S.go e9
  have bad : ∀ {w9 : World}, StX noX w r w9 [.cell b4 [.int .u8 0, .bool false, .int .i64 0, .int .i64 0, .slice none 0 0] 25, .cell b2 [.int .u8 t.k, .bool t.m, .int .i64 t.re, .int .i64 t.st, .slice p1 t.of.length cap1] 25] → anewB t l = false →
      opP Tryd.prog (Instr.build 25 #[]) fun t18 => opU Tryd.prog w9 (Instr.storeAt 25 (.pointer (some ⟨b4, 0, none⟩)) t18) fun w9 => opQ Tryd.prog w9 (cellSem 25 (.pointer (some ⟨b4, 0, none⟩))) fun r10 => K (.tuple #[r10, .int .i64 2]) w9 := by
    intro w9 S hn
    have hT : anewT t l = (zeroD, 2) := by rw [anewT, hn]; rfl
    rw [hT] at h
    refine p_build (cs := #[.int .u8 0, .bool false, .int .i64 0, .int .i64 0, .slice none 0 0]) (by kernel_rfl) ?_
    refine S.stB fun w5 S => ?_
    (repeat (first | refine s_p ?_ | refine s_c (by omega) ?_ | refine S.ld ?_ | refine S.ldB ?_ | refine S.ce ?_ | refine S.ceB ?_ | refine s_q ?_ | refine s_qc (by omega) ?_ | refine n_some ?_ | rw [List.getD_cons_zero] | rw [List.getD_cons_succ]))
    exact h _ nothing _ S.ext New.nothing ty_leaf
  refine c_b (fun hn => ?_) (fun hn => ?_)
  · refine bad S ?_
    rw [anewB]
    cases h1 : isB t
    · simp
    · rw [h1] at hn
      simp at hn
      simp [hn]
  · have hB : isB t = true ∧ t.regs.length = l.length := by
      cases hh : isB t
      · rw [hh] at hn; simp at hn
      · rw [hh] at hn; simpa using hn
    obtain ⟨hB, hlen⟩ := hB
    refine l_intro (ι := Nat) (fun i => [.int .i64 i]) (fun i w' => i ≤ l.length ∧ (∀ x ∈ l.take i, ¬ x < -1) ∧ StX noX w r w' [.cell b4 [.int .u8 0, .bool false, .int .i64 0, .int .i64 0, .slice none 0 0] 25, .cell b2 [.int .u8 t.k, .bool t.m, .int .i64 t.re, .int .i64 t.st, .slice p1 t.of.length cap1] 25])
      (fun i => l.length - i) 0 rfl ⟨Nat.zero_le _, by simp, S⟩ ?_
    clear S
    rintro i d w6 ⟨hi, hg, S⟩ K6 hK6
    rw [List.getD_cons_zero]
    (repeat (first | refine s_p ?_ | refine s_c (by omega) ?_ | refine S.ld ?_ | refine S.ldB ?_ | refine S.ce ?_ | refine S.ceB ?_ | refine s_q ?_ | refine s_qc (by omega) ?_ | refine n_some ?_ | rw [List.getD_cons_zero] | rw [List.getD_cons_succ]))
    refine c_b (fun hlt => ?_) (fun hge => ?_)
    · have hlt : i < l.length := by simpa using hlt
      obtain ⟨bp, op, rfl, hcell⟩ := ints_at (S.at hl) hlt
      (repeat (first | refine s_p ?_ | refine s_c (by omega) ?_ | refine S.ld ?_ | refine S.ldB ?_ | refine S.ce ?_ | refine S.ceB ?_ | refine s_q ?_ | refine s_qc (by omega) ?_ | refine n_some ?_ | rw [List.getD_cons_zero] | rw [List.getD_cons_succ]))
      refine s_ld1 (by simpa using hcell) ?_
      (repeat (first | refine s_p ?_ | refine s_c (by omega) ?_ | refine S.ld ?_ | refine S.ldB ?_ | refine S.ce ?_ | refine S.ceB ?_ | refine s_q ?_ | refine s_qc (by omega) ?_ | refine n_some ?_ | rw [List.getD_cons_zero] | rw [List.getD_cons_succ]))
      refine c_b (fun hy => ?_) (fun hno => ?_)
      · refine bad S ?_
        have : (l.any fun x => decide (x < -1)) = true := List.any_eq_true.2 ⟨_, List.getElem_mem hlt, hy⟩
        rw [anewB, this]; simp
      · (repeat (first | refine s_p ?_ | refine s_c (by omega) ?_ | refine S.ld ?_ | refine S.ldB ?_ | refine S.ce ?_ | refine S.ceB ?_ | refine s_q ?_ | refine s_qc (by omega) ?_ | refine n_some ?_ | rw [List.getD_cons_zero] | rw [List.getD_cons_succ]))
        rw [show ((i : Int) + 1) = ((i + 1 : Nat) : Int) by omega]
        refine hK6 (i + 1) _ ⟨hlt, ?_, S⟩ (by omega)
        intro x hx
        rw [List.take_succ_eq_append_getElem hlt, List.mem_append] at hx
        rcases hx with hx | hx
        · exact hg x hx
        · rw [List.mem_singleton] at hx
          subst hx
          simpa using hno
    · have hge : i = l.length := by
        have : ¬ i < l.length := by simpa using hge
        omega
      rw [hge, List.take_length] at hg
      have hn : anewB t l = true := by
        have : (l.any fun x => decide (x < -1)) = false := by
          rw [Bool.eq_false_iff]
          intro hc
          obtain ⟨x, hx, hx2⟩ := List.any_eq_true.1 hc
          exact hg x hx (by simpa using hx2)
        rw [anewB, this, hB]; simp [hlen]
      have hT : anewT t l = (t.lay l, 0) := by rw [anewT, if_pos hn]
      rw [hT] at h
      (repeat (first | refine s_p ?_ | refine s_c (by omega) ?_ | refine S.ld ?_ | refine S.ldB ?_ | refine S.ce ?_ | refine S.ceB ?_ | refine s_q ?_ | refine s_qc (by omega) ?_ | refine n_some ?_ | rw [List.getD_cons_zero] | rw [List.getD_cons_succ]))
      refine c_ref06_laid (s := 32) 48 (by decide) hB S.holds hv0 hl hcap (by omega) fun v6 sn w6 e6 n6 ht6 => ?_
      obtain ⟨S, _, hf⟩ := S.tell e6 n6
      obtain ⟨p6, cap6, rfl, hrest⟩ := id ht6
      refine S.stB fun w7 S => ?_
      (repeat (first | refine s_p ?_ | refine s_c (by omega) ?_ | refine S.ld ?_ | refine S.ldB ?_ | refine S.ce ?_ | refine S.ceB ?_ | refine s_q ?_ | refine s_qc (by omega) ?_ | refine n_some ?_ | rw [List.getD_cons_zero] | rw [List.getD_cons_succ]))
      exact h _ sn _ S.ext ⟨S.holds.le (h := inferInstance), hf⟩ ht6
end Go.Proofs
end

section
namespace Go.Proofs
open Go.Sh
set_option maxRecDepth 100000
set_option linter.unusedSimpArgs false
set_option linter.unusedVariables false
structure StD where
  name : ByteArray
  fs : List (ByteArray × TyD)
def fdat (f : ByteArray × TyD) : Dat := .agg [.str f.1, f.2.dat]
def StD.dat (s : StD) : Dat := .agg [.str s.name, .sl 6 (s.fs.map fdat)]
def FlG (r : Gh) (p : Option Addr) (fs : List (ByteArray × TyD)) : Prop := RepS r 6 p 0 (fs.map fdat)
def StG (r : Gh) (p : Option Addr) (ss : List StD) : Prop := RepS r 2 p 0 (ss.map StD.dat)
theorem FlG.up {r s : Gh} {p : Option Addr} {fs : List (ByteArray × TyD)} (h : FlG r p fs) [l : Le r s] : FlG s p fs := RepS.up' l h
theorem StG.up {r s : Gh} {p : Option Addr} {ss : List StD} (h : StG r p ss) [l : Le r s] : StG s p ss := RepS.up' l h
theorem fl_at {r : Gh} {p : Option Addr} {fs : List (ByteArray × TyD)} (h : FlG r p fs) {k : Nat} (hk : k < fs.length) : ∃ b off c, p = some ⟨b, off, none⟩ ∧ c.length = 5 ∧
    (∀ j v, (Value.string fs[k].1 :: c)[j]? = some v → Ob r fun w => w.cell? ⟨b, off + k * 6 + j, none⟩ = some v) ∧ TyG r (.agg c.toArray) fs[k].2 := by
  obtain ⟨c, h1, h2, h3⟩ := RepS.get h (i := k) (d := fdat fs[k]) (by rw [List.getElem?_map, List.getElem?_eq_getElem hk]; rfl)
  obtain ⟨a1, b1, rfl, e1, a2, b2, rfl, e2, e3⟩ := h3
  obtain rfl : a1 = _ := e1
  obtain rfl : b2 = [] := e3
  rw [List.append_nil] at h1 h2
  obtain ⟨b, off, rfl, _⟩ := h2 0 _ rfl
  refine ⟨b, off, a2, rfl, by simpa using h1, fun j v hj => ?_, TyG.of_rep e2⟩
  obtain ⟨b', off', hp, ho⟩ := h2 j v hj
  cases hp
  rwa [Nat.zero_add] at ho
theorem st_at {r : Gh} {p : Option Addr} {ss : List StD} (h : StG r p ss) {i : Nat} (hi : i < ss.length) : ∃ b off q cap, p = some ⟨b, off, none⟩ ∧
    (Ob r fun w => w.cell? ⟨b, off + i * 2 + 1, none⟩ = some (.slice q ss[i].fs.length cap)) ∧ (q = none → cap = 0) ∧ ss[i].fs.length ≤ cap ∧ FlG r q ss[i].fs := by
  obtain ⟨c, h1, h2, h3⟩ := RepS.get h (i := i) (d := StD.dat ss[i]) (by rw [List.getElem?_map, List.getElem?_eq_getElem hi]; rfl)
  obtain ⟨a1, b1, rfl, e1, a2, b2, rfl, e2, e3⟩ := h3
  obtain rfl : a1 = _ := e1
  obtain rfl : b2 = [] := e3
  obtain ⟨q, cap, rfl, hq, hc, hf⟩ := e2
  rw [List.length_map] at hc h2
  obtain ⟨b, off, rfl, _⟩ := h2 0 _ rfl
  obtain ⟨b', off', hp, ho⟩ := h2 1 (.slice q ss[i].fs.length cap) (by rfl)
  cases hp
  rw [Nat.zero_add] at ho
  exact ⟨b, off, q, cap, rfl, ho, hq, hc, hf⟩
/-! ### What stands in what -/
/-- the types of a struct's fields -/
def tysAt (ss : List StD) (k : Int) : List TyD := match ss[k.toNat]? with | some s => s.fs.map (·.2) | none => []
/-- a struct j stands in a field of k -/
def Kid (ss : List StD) (k j : Int) : Prop := ∃ t ∈ tysAt ss k, t.k = 5 ∧ t.st = j
inductive Rch (ss : List StD) : Int → Int → Prop
  | one {k j : Int} : Kid ss k j → Rch ss k j
  | more {k j i : Int} : Rch ss k j → Kid ss j i → Rch ss k i
theorem Rch.trans {ss : List StD} {a b c : Int} (h : Rch ss a b) (k : Rch ss b c) : Rch ss a c := by
  induction k with
  | one e => exact .more h e
  | more _ e ih => exact .more ih e
/-- each field's type may be among the structs -/
def Good (ss : List StD) : Prop := ∀ k, ∀ t ∈ tysAt ss k, lookB ss.length 48 t = true
theorem look_st {n : Int} {m : Nat} {t : TyD} (h : lookB n (m + 1) t = true) (hk : t.k = 5) : 0 ≤ t.st ∧ t.st < n ∧ t.of = [] := by
  rw [lookB_succ] at h
  rw [if_neg (by omega), if_pos hk] at h
  simp only [Bool.and_eq_true, decide_eq_true_eq] at h
  exact ⟨h.1.2, h.2, List.eq_nil_of_length_eq_zero h.1.1.2⟩
theorem kid_in {ss : List StD} (hg : Good ss) {k j : Int} (h : Kid ss k j) : 0 ≤ j ∧ j < ss.length := by
  obtain ⟨t, ht, h5, rfl⟩ := h
  have := look_st (hg k t ht) h5
  exact ⟨this.1, this.2.1⟩
theorem rch_in {ss : List StD} (hg : Good ss) {k j : Int} (h : Rch ss k j) : 0 ≤ j ∧ j < ss.length := by
  cases h with
  | one h => exact kid_in hg h
  | more _ h => exact kid_in hg h
open Classical in
/-- how many structs are reached -/
noncomputable def rkS (ss : List StD) (k : Int) : Nat := (List.range ss.length).countP fun j : Nat => decide (Rch ss k (j : Int))
noncomputable def rkT (ss : List StD) (t : TyD) : Nat := if t.k = 5 then rkS ss t.st + 1 else 0
open Classical in
theorem rk_le (ss : List StD) (t : TyD) : rkT ss t ≤ ss.length + 1 := by
  unfold rkT rkS
  split
  · have := List.countP_le_length (p := fun j : Nat => decide (Rch ss t.st (j : Int))) (l := List.range ss.length)
    rw [List.length_range] at this
    omega
  · omega
theorem countP_lt {p q : Nat → Bool} : ∀ {l : List Nat}, (∀ x ∈ l, p x = true → q x = true) → (∃ x ∈ l, p x = false ∧ q x = true) → l.countP p < l.countP q
  | [], _, h => by obtain ⟨x, hx, _⟩ := h; cases hx
  | a :: l, h1, h2 => by
    rw [List.countP_cons, List.countP_cons]
    have hle : l.countP p ≤ l.countP q := List.countP_mono_left fun x hx => h1 x (List.mem_cons_of_mem _ hx)
    have ha := h1 a List.mem_cons_self
    by_cases hex : ∃ x ∈ l, p x = false ∧ q x = true
    · have := countP_lt (fun x hx => h1 x (List.mem_cons_of_mem _ hx)) hex
      cases hp : p a <;> cases hq : q a <;> simp_all <;> omega
    · obtain ⟨x, hx, hx1, hx2⟩ := h2
      rcases List.mem_cons.1 hx with rfl | hx
      · rw [hx1, hx2]; simp; omega
      · exact absurd ⟨x, hx, hx1, hx2⟩ hex
open Classical in
theorem rk_lt {ss : List StD} (hg : Good ss) (hac : ∀ k, ¬ Rch ss k k) {t u : TyD} (h5 : t.k = 5) (hu : u ∈ tysAt ss t.st) : rkT ss u < rkT ss t := by
  unfold rkT
  rw [if_pos h5]
  split
  · rename_i hu5
    have hk : Kid ss t.st u.st := ⟨u, hu, hu5, rfl⟩
    have hin := kid_in hg hk
    have := countP_lt (p := fun j : Nat => decide (Rch ss u.st (j : Int))) (q := fun j : Nat => decide (Rch ss t.st (j : Int))) (l := List.range ss.length)
      (fun x _ hx => decide_eq_true (Rch.trans (.one hk) (of_decide_eq_true hx)))
      ⟨u.st.toNat, List.mem_range.2 (by omega), decide_eq_false (by rw [Int.toNat_of_nonneg hin.1]; exact hac _), decide_eq_true (by rw [Int.toNat_of_nonneg hin.1]; exact .one hk)⟩
    unfold rkS
    omega
  · omega
/-! ### Words, drops -/
def wsum : List Nat → Nat
  | [] => 0
  | x :: l => x + wsum l
theorem wsum_append : ∀ (a b : List Nat), wsum (a ++ b) = wsum a + wsum b
  | [], b => by simp [wsum]
  | x :: a, b => by simp only [List.cons_append, wsum, wsum_append a b]; omega
def wF (ss : List StD) : Nat → TyD → Nat
  | 0, _ => 1
  | m + 1, t => if t.k = 5 then wsum ((tysAt ss t.st).map (wF ss m)) else 1
theorem wF_eq {ss : List StD} (hg : Good ss) (hac : ∀ k, ¬ Rch ss k k) : ∀ (m n : Nat) (t : TyD), rkT ss t ≤ m → rkT ss t ≤ n → wF ss m t = wF ss n t := by
  intro m
  induction m with
  | zero =>
    intro n t h1 _
    have h5 : ¬ t.k = 5 := fun h => by unfold rkT at h1; rw [if_pos h] at h1; omega
    cases n with
    | zero => rfl
    | succ n => rw [wF, wF, if_neg h5]
  | succ m ih =>
    intro n t h1 h2
    cases n with
    | zero =>
      have h5 : ¬ t.k = 5 := fun h => by unfold rkT at h2; rw [if_pos h] at h2; omega
      rw [wF, wF, if_neg h5]
    | succ n =>
      rw [wF, wF]
      split
      · rename_i h5
        congr 1
        apply List.map_congr_left
        intro u hu
        have := rk_lt hg hac h5 hu
        exact ih n u (by omega) (by omega)
      · rfl
def dF (ss : List StD) : Nat → TyD → Bool
  | 0, t => decide (t.k = 3)
  | m + 1, t => if t.k = 5 then (tysAt ss t.st).any (dF ss m) else decide (t.k = 3)
theorem dF_eq {ss : List StD} (hg : Good ss) (hac : ∀ k, ¬ Rch ss k k) : ∀ (m n : Nat) (t : TyD), rkT ss t ≤ m → rkT ss t ≤ n → dF ss m t = dF ss n t := by
  intro m
  induction m with
  | zero =>
    intro n t h1 _
    have h5 : ¬ t.k = 5 := fun h => by unfold rkT at h1; rw [if_pos h] at h1; omega
    cases n with
    | zero => rfl
    | succ n => rw [dF, dF, if_neg h5]
  | succ m ih =>
    intro n t h1 h2
    cases n with
    | zero =>
      have h5 : ¬ t.k = 5 := fun h => by unfold rkT at h2; rw [if_pos h] at h2; omega
      rw [dF, dF, if_neg h5]
    | succ n =>
      rw [dF, dF]
      split
      · rename_i h5
        have : ∀ l : List TyD, (∀ u ∈ l, u ∈ tysAt ss t.st) → l.any (dF ss m) = l.any (dF ss n) := by
          intro l
          induction l with
          | nil => intro _; rfl
          | cons u l ihl =>
            intro hl
            have hu := rk_lt hg hac h5 (hl u List.mem_cons_self)
            rw [List.any_cons, List.any_cons, ih n u (by omega) (by omega), ihl fun x hx => hl x (List.mem_cons_of_mem _ hx)]
        exact this _ fun u hu => hu
      · rfl
/-- the first number of which something is so -/
def fstB (n : Nat) (p : Nat → Bool) : Nat := ((List.range n).find? p).getD n
theorem fstB_none {n : Nat} {p : Nat → Bool} (h : ∀ j, j < n → p j = false) : fstB n p = n := by
  rw [fstB, List.find?_eq_none.2 (by intro x hx; rw [h x (List.mem_range.1 hx)]; decide)]; rfl
theorem fstB_some {n i : Nat} {p : Nat → Bool} (hi : i < n) (hp : p i = true) (h : ∀ j, j < i → p j = false) : fstB n p = i := by
  have : (List.range n).find? p = some i := by
    rw [List.find?_range_eq_some]
    exact ⟨hp, List.mem_range.2 hi, fun j hj => by rw [h j hj]; rfl⟩
  rw [fstB, this]; rfl
theorem fstB_lt {n : Nat} {p : Nat → Bool} (h : ¬ fstB n p < n) : ∀ j, j < n → p j = false := by
  intro j hj
  by_cases hp : ∀ j, j < n → p j = false
  · exact hp j hj
  · exfalso
    apply h
    unfold fstB
    cases hf : (List.range n).find? p with
    | none =>
      exfalso; apply hp
      intro j hj
      have := List.find?_eq_none.1 hf j (List.mem_range.2 hj)
      simpa using this
    | some x => exact List.mem_range.1 (List.mem_of_find?_eq_some hf)
def bad1 (ss : List StD) (k : Nat) : Bool :=
  (decide ((tysAt ss k).length < 1) || decide (8 < (tysAt ss k).length)) || (tysAt ss k).any fun t => !lookB ss.length 48 t || decide (0 < t.regs.length)
open Classical in
noncomputable def bad2 (ss : List StD) (k : Nat) : Bool := decide (Rch ss k k)
def bad3 (ss : List StD) (k : Nat) : Bool := decide (16 < wF ss 40 (.mk 5 false 0 k []))
/-- what Structs tells -/
noncomputable def structsT (ss : List StD) : Int × Int :=
  if 32 < ss.length then (32, 2)
  else if fstB ss.length (bad1 ss) < ss.length then (fstB ss.length (bad1 ss), 2)
  else if fstB ss.length (bad2 ss) < ss.length then (fstB ss.length (bad2 ss), 2)
  else if fstB ss.length (bad3 ss) < ss.length then (fstB ss.length (bad3 ss), 2)
  else (0, 0)
theorem tysAt_eq {ss : List StD} {i : Nat} (hi : i < ss.length) : tysAt ss i = ss[i].fs.map (·.2) := by
  rw [tysAt, Int.toNat_natCast, List.getElem?_eq_getElem hi]
theorem tysAt_len {ss : List StD} {i : Nat} (hi : i < ss.length) : (tysAt ss i).length = ss[i].fs.length := by
  rw [tysAt_eq hi, List.length_map]
theorem tysAt_out {ss : List StD} {k : Int} (h : ¬ k.toNat < ss.length) : tysAt ss k = [] := by
  rw [tysAt, List.getElem?_eq_none (by omega)]
theorem good_of {ss : List StD} (h : ∀ k, k < ss.length → bad1 ss k = false) : Good ss := by
  intro k t ht
  by_cases hk : k.toNat < ss.length
  · have := h k.toNat hk
    have e : tysAt ss (k.toNat : Int) = tysAt ss k := by rw [tysAt, tysAt, Int.toNat_natCast]
    rw [bad1, e, Bool.or_eq_false_iff] at this
    have := List.any_eq_false.1 this.2 t ht
    simp only [Bool.or_eq_true, Bool.not_eq_true', not_or] at this
    simpa using this.1
  · rw [tysAt_out hk] at ht; cases ht
theorem acyc_of {ss : List StD} (hg : Good ss) (h : ∀ k, k < ss.length → bad2 ss k = false) : ∀ k, ¬ Rch ss k k := by
  intro k hk
  have hin := rch_in hg hk
  have := h k.toNat (by omega)
  rw [bad2, decide_eq_false_iff_not, Int.toNat_of_nonneg hin.1] at this
  exact this hk
/-- all is well with the structs -/
theorem structs_ok {ss : List StD} (h : (structsT ss).2 = 0) : ss.length ≤ 32 ∧ (∀ k, k < ss.length → bad1 ss k = false) ∧ Good ss ∧ (∀ k, ¬ Rch ss k k) ∧ (∀ k, k < ss.length → bad3 ss k = false) ∧ structsT ss = (0, 0) := by
  unfold structsT at h ⊢
  split at h
  · cases h
  split at h
  · cases h
  split at h
  · cases h
  split at h
  · cases h
  rename_i h1 h2 h3 h4
  have g := good_of (fstB_lt h2)
  refine ⟨by omega, fstB_lt h2, g, acyc_of g (fstB_lt h3), fstB_lt h4, ?_⟩
  rw [if_neg h1, if_neg h2, if_neg h3, if_neg h4]
def mayT (ss : List StD) (t : TyD) (ok : Bool) : Bool := ok && lookB ss.length 48 t
end Go.Proofs
end

section
namespace Go.Sh
open Go.RowKit
theorem g_TT {A B : Prop} (a : A) : gIf (.bool true) true A B := a
theorem g_FF {A B : Prop} (a : A) : gIf (.bool false) false A B := a
theorem g_TF {A B : Prop} (b : B) : gIf (.bool true) false A B := b
theorem g_FT {A B : Prop} (b : B) : gIf (.bool false) true A B := b
section
variable {w : World} {A : (List Value → World → Prop) → Prop} {Z : Value → World → Prop} {b c : Bool}
/-- 'and', 'or', whose second one is reckoned only if it must be; R: what holds behind both -/
theorem j_bandR (R : World → Prop) (h0 : b = false → R w) (hA : b = true → ∀ K : List Value → World → Prop, (∀ w', R w' → K [.bool c] w') → A K) (hZ : ∀ w', R w' → Z (.bool (b && c)) w') :
    sJoin (fun K => gIf (.bool b) true (A K) (K [undef] w)) fun s _ w' => oPick (.bool b) (s.getD 0 undef) (.bool false) fun t => Z t w' := by
  intro K hK
  cases b with
  | true => exact hA rfl K fun w' e => hK _ _ fun _ => ⟨true, rfl, by simpa using hZ w' e⟩
  | false => exact hK _ _ fun _ => ⟨false, rfl, by simpa using hZ w (h0 rfl)⟩
theorem j_borR (R : World → Prop) (h0 : b = true → R w) (hA : b = false → ∀ K : List Value → World → Prop, (∀ w', R w' → K [.bool c] w') → A K) (hZ : ∀ w', R w' → Z (.bool (b || c)) w') :
    sJoin (fun K => gIf (.bool b) false (A K) (K [undef] w)) fun s _ w' => oPick (.bool b) (.bool true) (s.getD 0 undef) fun t => Z t w' := by
  intro K hK
  cases b with
  | true => exact hK _ _ fun _ => ⟨true, rfl, by simpa using hZ w (h0 rfl)⟩
  | false => exact hA rfl K fun w' e => hK _ _ fun _ => ⟨false, rfl, by simpa using hZ w' e⟩
end
theorem g_UU {want : Bool} {A B : Prop} (b : B) : gIf undef want A B := b
section
variable {P : Program} {w : World} {t e : TypeId} {size n m : Nat} {v : Value} {xs news : List Value}
theorem Que.of_row {base : Nat} (h : w.ownsRow base e size v n xs) : Que w e size v n xs := by
  refine ⟨h.1, ?_⟩
  rcases own_blk h with ⟨rfl, rfl, rfl⟩ | ⟨g, cap, c, rfl, hb, B, h1, h2, h3, h4⟩
  · exact .inl ⟨rfl, rfl⟩
  · exact .inr ⟨g, 0, cap, c, rfl, B, h1, h2, by omega, by rw [List.drop_zero]; exact h4⟩
theorem Que.shape (h : Que w e size v n xs) : ∃ p cap, v = .slice p n cap ∧ (p = none → cap = 0) ∧ n ≤ cap ∧ xs.length = n * size ∧ Sl w p xs := by
  obtain ⟨hl, ⟨rfl, rfl⟩ | ⟨g, off, cap, c, rfl, B, h1, h2, h3, h4⟩⟩ := h
  · have hx : xs = [] := by simpa using hl
    subst hx
    exact ⟨none, 0, rfl, fun _ => rfl, Nat.le_refl _, hl, Sl.nil _ _⟩
  · refine ⟨_, cap, rfl, by simp, h1, hl, fun i v hv => ⟨g, off, rfl, ?_⟩⟩
    rw [B.cell]
    rw [← h4, List.getElem?_take] at hv
    split at hv
    · rwa [List.getElem?_drop] at hv
    · cases hv
theorem w_appendQ {K : Value → World → Prop} {ty : TypeId} {bytes : Nat} {a : Addr} {c : Nat}
    (hT : apT P t = some (e, size, bytes)) (hown : Que w e size v n xs) (hs : Sl w (some a) news) (hl : news.length = m * size) (h1 : ∀ u ∈ news, u.oneCell' = true)
    (hb : (n + m) * bytes ≤ 140737488355328)
    (h : ∀ v' w', Que w' e size v' (n + m) (xs ++ news) → ExtBut (fun k => v.ownBlock = some k) w w' → (v'.ownBlock = v.ownBlock ∨ v'.ownBlock = some w.heap.size) → K v' w') :
    opW P w (Builtin.append_ #[t, t] ty #[v, .slice (some a) m c]) K := by
  rcases hown with ⟨hxl, ⟨rfl, rfl⟩ | ⟨g, off, cap, cur, rfl, B, h2, h3, h4, h5⟩⟩
  · have hx : xs = [] := by simpa using hxl
    subst hx
    exact w_append hT (World.ownsRow_nil w 0 e size) hs hl (by simp) h1 hb (Nat.zero_le _) fun v' w' h6 h7 h8 _ => h v' w' (.of_row h6) h7 h8
  unfold apT at hT
  cases hu : P.underlying t with
  | none => rw [hu] at hT; cases hT
  | some d =>
    rw [hu] at hT
    cases d <;> first | (cases hT; done) | skip
    rename_i e'
    simp only [Option.bind_eq_some_iff] at hT
    obtain ⟨i, hi, hT⟩ := hT
    cases hz : i.zero with
    | none => rw [hz] at hT; cases hT
    | some z =>
      rw [hz] at hT
      simp only at hT
      split at hT
      · rename_i hc
        obtain ⟨hzs, hsz, hbp⟩ := hc
        simp only [Option.some.injEq, Prod.mk.injEq] at hT
        obtain ⟨rfl, rfl, rfl⟩ := hT
        have hnews : ∀ j u, news[j]? = some u → w.cell? (a.add j) = some u := fun j u hj => by obtain ⟨b, off, hp, hc⟩ := hs j u hj; cases hp; rw [addr_add]; exact hc
        have hlen : (xs ++ news).length = (n + m) * i.size := by rw [List.length_append, hxl, hl, Nat.add_mul]
        by_cases hroom : n + m ≤ cap
        · have hmul : (n + m) * i.size ≤ cap * i.size := Nat.mul_le_mul_right _ hroom
          have hfit : off + n * i.size + news.length ≤ cur.length := by rw [hl]; rw [Nat.add_mul] at hmul; omega
          have hf := run_firstCells_some (P := P) w i.size m a m c news hl hnews
          have hst := run_storeCells_at P g (off + n * i.size) e' news 0 cur.toArray w B (by simpa using hfit) h1
          simp only [Nat.add_zero] at hst
          obtain ⟨f1, f2, f3⟩ := setRow_facts B (cur.take (off + n * i.size) ++ news ++ cur.drop (off + n * i.size + news.length))
          refine ⟨_, _, by simp [Builtin.append_, run_underlying hu, sizeOf, typeInfo, hi, Builtin.lenOf, hroom, hf, Addr.add_lit, hst], h _ _ ⟨hlen, .inr ⟨g, off, cap, _, rfl, f3, hroom, h3, ?_, ?_⟩⟩ (f1.mono fun k _ hk => by cases hk; rfl) (.inl rfl)⟩
          · simp only [List.length_append, List.length_take, List.length_drop]; omega
          · rw [← hlen, List.append_assoc, List.drop_append_of_le_length (by rw [List.length_take]; omega), List.drop_take, show off + n * i.size - off = n * i.size by omega, h5, ← List.append_assoc, List.take_left']
            rfl
        · have h63 : n + m ≤ maxLen := by
            have : (n + m) * 1 ≤ (n + m) * i.bytes := Nat.mul_le_mul_left _ hbp
            simp only [maxLen]; omega
          obtain ⟨v', w', hr, ho, hg⟩ := run_append_arg_grows (P := P) w t ty e' i z i.size i.bytes hu hi hz rfl rfl hzs hsz ⟨g, off, none⟩ n cap xs hxl (fun j u hj => by
            rw [addr_add, B.cell]
            rw [← h5, List.getElem?_take] at hj
            split at hj
            · rwa [List.getElem?_drop] at hj
            · cases hj) a m c news hl hnews (by omega) h63 hb
          refine ⟨v', w', hr, h v' w' (.of_row ho) ⟨hg.os, hg.tape, hg.output, hg.size, fun k hk _ => hg.block k hk (by simp)⟩ ?_⟩
          -- a new row lies in the block that was just made
          have hr2 := run_append_grow (P := P) w t ty e' i z hu hi hz ⟨g, off, none⟩ n cap xs hxl (fun j u hj => by
            rw [addr_add, B.cell]
            rw [← h5, List.getElem?_take] at hj
            split at hj
            · rwa [List.getElem?_drop] at hj
            · cases hj) a m c news hl hnews (by omega) (by simp only [maxLen] at h63; omega) (growslice_fits (by omega) hb)
          rw [hr] at hr2
          injection hr2 with e1 e2
          rw [e1]; exact .inr rfl
      · cases hT
/-- without its first ones -/
theorem Que.drop {g off cap i : Nat} (h : Que w e size (.slice (some ⟨g, off, none⟩) n cap) n xs) (hi : i ≤ n) :
    Que w e size (.slice (if cap = i then some ⟨g, off, none⟩ else (some (⟨g, off, none⟩ : Addr)).map (·.add (i * size))) (n - i) (cap - i)) (n - i) (xs.drop (i * size)) := by
  obtain ⟨hl, ⟨h0, _⟩ | ⟨g', off', cap', c, hv, B, h1, h2, h3, h4⟩⟩ := h
  · cases h0
  cases hv
  refine ⟨by rw [List.length_drop, hl, Nat.sub_mul], .inr ?_⟩
  by_cases hc : cap = i
  · rw [if_pos hc]
    have : n - i = 0 := by omega
    refine ⟨g, off, cap - i, c, rfl, B, by omega, by omega, ?_, ?_⟩
    · have : (cap - i) * size = 0 := by rw [show cap - i = 0 by omega, Nat.zero_mul]
      omega
    · rw [this, Nat.zero_mul, List.take_zero, eq_comm, List.drop_eq_nil_iff, hl]
      exact Nat.mul_le_mul_right _ (by omega)
  · rw [if_neg hc]
    refine ⟨g, off + i * size, cap - i, c, by simp only [Option.map_some, addr_add], B, by omega, by omega, ?_, ?_⟩
    · have : i * size ≤ cap * size := Nat.mul_le_mul_right _ (by omega)
      rw [Nat.sub_mul]; omega
    · rw [← h4, List.drop_take, List.drop_drop, Nat.sub_mul]
end
/-! ### Functions with what they hold -/
theorem v_f00 {P : Program} {w : World} {f : FuncId} {K : Value → World → Prop} (he : enters P f = true) (h : oCall P f #[] w K) : oCallV P (.func (.func f) #[] #[]) #[] w K := v_func he h
theorem v_f01 {P : Program} {w : World} {f : FuncId} {K : Value → World → Prop} {c0 : Value} (he : enters P f = true) (h : oCall P f #[c0] w K) : oCallV P (.func (.func f) #[] #[c0]) #[] w K := v_func he h
theorem v_f02 {P : Program} {w : World} {f : FuncId} {K : Value → World → Prop} {c0 c1 : Value} (he : enters P f = true) (h : oCall P f #[c0, c1] w K) : oCallV P (.func (.func f) #[] #[c0, c1]) #[] w K := v_func he h
theorem v_f03 {P : Program} {w : World} {f : FuncId} {K : Value → World → Prop} {c0 c1 c2 : Value} (he : enters P f = true) (h : oCall P f #[c0, c1, c2] w K) : oCallV P (.func (.func f) #[] #[c0, c1, c2]) #[] w K := v_func he h
theorem v_f04 {P : Program} {w : World} {f : FuncId} {K : Value → World → Prop} {c0 c1 c2 c3 : Value} (he : enters P f = true) (h : oCall P f #[c0, c1, c2, c3] w K) : oCallV P (.func (.func f) #[] #[c0, c1, c2, c3]) #[] w K := v_func he h
theorem v_f10 {P : Program} {w : World} {f : FuncId} {K : Value → World → Prop} {x0 : Value} (he : enters P f = true) (h : oCall P f #[x0] w K) : oCallV P (.func (.func f) #[] #[]) #[x0] w K := v_func he h
theorem v_f11 {P : Program} {w : World} {f : FuncId} {K : Value → World → Prop} {x0 c0 : Value} (he : enters P f = true) (h : oCall P f #[x0, c0] w K) : oCallV P (.func (.func f) #[] #[c0]) #[x0] w K := v_func he h
theorem v_f12 {P : Program} {w : World} {f : FuncId} {K : Value → World → Prop} {x0 c0 c1 : Value} (he : enters P f = true) (h : oCall P f #[x0, c0, c1] w K) : oCallV P (.func (.func f) #[] #[c0, c1]) #[x0] w K := v_func he h
theorem v_f13 {P : Program} {w : World} {f : FuncId} {K : Value → World → Prop} {x0 c0 c1 c2 : Value} (he : enters P f = true) (h : oCall P f #[x0, c0, c1, c2] w K) : oCallV P (.func (.func f) #[] #[c0, c1, c2]) #[x0] w K := v_func he h
theorem v_f14 {P : Program} {w : World} {f : FuncId} {K : Value → World → Prop} {x0 c0 c1 c2 c3 : Value} (he : enters P f = true) (h : oCall P f #[x0, c0, c1, c2, c3] w K) : oCallV P (.func (.func f) #[] #[c0, c1, c2, c3]) #[x0] w K := v_func he h
theorem v_f20 {P : Program} {w : World} {f : FuncId} {K : Value → World → Prop} {x0 x1 : Value} (he : enters P f = true) (h : oCall P f #[x0, x1] w K) : oCallV P (.func (.func f) #[] #[]) #[x0, x1] w K := v_func he h
theorem v_f21 {P : Program} {w : World} {f : FuncId} {K : Value → World → Prop} {x0 x1 c0 : Value} (he : enters P f = true) (h : oCall P f #[x0, x1, c0] w K) : oCallV P (.func (.func f) #[] #[c0]) #[x0, x1] w K := v_func he h
theorem v_f22 {P : Program} {w : World} {f : FuncId} {K : Value → World → Prop} {x0 x1 c0 c1 : Value} (he : enters P f = true) (h : oCall P f #[x0, x1, c0, c1] w K) : oCallV P (.func (.func f) #[] #[c0, c1]) #[x0, x1] w K := v_func he h
theorem v_f23 {P : Program} {w : World} {f : FuncId} {K : Value → World → Prop} {x0 x1 c0 c1 c2 : Value} (he : enters P f = true) (h : oCall P f #[x0, x1, c0, c1, c2] w K) : oCallV P (.func (.func f) #[] #[c0, c1, c2]) #[x0, x1] w K := v_func he h
theorem v_f24 {P : Program} {w : World} {f : FuncId} {K : Value → World → Prop} {x0 x1 c0 c1 c2 c3 : Value} (he : enters P f = true) (h : oCall P f #[x0, x1, c0, c1, c2, c3] w K) : oCallV P (.func (.func f) #[] #[c0, c1, c2, c3]) #[x0, x1] w K := v_func he h
theorem v_f30 {P : Program} {w : World} {f : FuncId} {K : Value → World → Prop} {x0 x1 x2 : Value} (he : enters P f = true) (h : oCall P f #[x0, x1, x2] w K) : oCallV P (.func (.func f) #[] #[]) #[x0, x1, x2] w K := v_func he h
theorem v_f31 {P : Program} {w : World} {f : FuncId} {K : Value → World → Prop} {x0 x1 x2 c0 : Value} (he : enters P f = true) (h : oCall P f #[x0, x1, x2, c0] w K) : oCallV P (.func (.func f) #[] #[c0]) #[x0, x1, x2] w K := v_func he h
theorem v_f32 {P : Program} {w : World} {f : FuncId} {K : Value → World → Prop} {x0 x1 x2 c0 c1 : Value} (he : enters P f = true) (h : oCall P f #[x0, x1, x2, c0, c1] w K) : oCallV P (.func (.func f) #[] #[c0, c1]) #[x0, x1, x2] w K := v_func he h
theorem v_f33 {P : Program} {w : World} {f : FuncId} {K : Value → World → Prop} {x0 x1 x2 c0 c1 c2 : Value} (he : enters P f = true) (h : oCall P f #[x0, x1, x2, c0, c1, c2] w K) : oCallV P (.func (.func f) #[] #[c0, c1, c2]) #[x0, x1, x2] w K := v_func he h
theorem v_f34 {P : Program} {w : World} {f : FuncId} {K : Value → World → Prop} {x0 x1 x2 c0 c1 c2 c3 : Value} (he : enters P f = true) (h : oCall P f #[x0, x1, x2, c0, c1, c2, c3] w K) : oCallV P (.func (.func f) #[] #[c0, c1, c2, c3]) #[x0, x1, x2] w K := v_func he h
class QueAt (v : Value) (L : List Asr) (e : outParam TypeId) (sz n : outParam Nat) (xs : outParam (List Value)) (f : outParam (Asr → List Asr)) : Prop where
  h : ∃ p q, L = p ++ .que v e sz n xs :: q ∧ ∀ y, f y = p ++ y :: q
instance {v : Value} {e : TypeId} {sz n : Nat} {xs : List Value} {L : List Asr} : QueAt v (.que v e sz n xs :: L) e sz n xs fun y => y :: L := ⟨[], L, rfl, fun _ => rfl⟩
instance (priority := low) {v : Value} {e : TypeId} {sz n : Nat} {xs : List Value} {x : Asr} {L : List Asr} {f : Asr → List Asr} [h : QueAt v L e sz n xs f] : QueAt v (x :: L) e sz n xs fun y => x :: f y := ⟨by
  obtain ⟨p, q, h1, h2⟩ := h.h
  exact ⟨x :: p, q, by rw [h1]; rfl, fun c' => by rw [h2]; rfl⟩⟩
section
variable {P : Program} {X : Nat → Prop} {w0 w : World} {r : Gh} {L : List Asr} {t e : TypeId} {sz n m : Nat} {v : Value} {xs news : List Value} {g : Asr → List Asr}
theorem StX.que (S : StX X w0 r w L) (v : Value) [h : QueAt v L e sz n xs g] : Que w e sz v n xs := by
  obtain ⟨pp, qq, h2, h3⟩ := h.h
  exact S.has (.que v e sz n xs) (by rw [h2]; simp)
theorem StX.queS (S : StX X w0 r w L) (v : Value) [h : QueAt v L e sz n xs g] : ∃ p cap, v = .slice p n cap ∧ (p = none → cap = 0) ∧ n ≤ cap ∧ xs.length = n * sz ∧ Sl w p xs :=
  (S.que v (h := h)).shape
theorem StX.toQue (S : StX X w0 r w L) (v : Value) [h : RowAt v L e sz n xs g] : StX X w0 r w (g (.que v e sz n xs)) := by
  obtain ⟨pp, qq, h2, h3⟩ := h.h
  have hr := S.has (.row v e sz n xs) (by rw [h2]; simp)
  rw [h3]
  rw [h2] at S
  exact S.turn (x := .row v e sz n xs) (y := .que v e sz n xs) (ExtBut.refl _ _) (Que.of_row hr) fun k hk => .inl hk
theorem StX.apQ (S : StX X w0 r w L) {ty : TypeId} {by' cap : Nat} {a : Addr} [h : QueAt v L e sz n xs g] [z : ApT P t e sz by'] {K : Value → World → Prop}
    (hs : Sl w (some a) news) (k : ∀ v' w', StX X w0 r w' (g (.que v' e sz (n + m) (xs ++ news))) → K v' w')
    (hb : (n + m) * by' ≤ 140737488355328) (hl : news.length = m * sz := by simp) (h1 : ∀ u ∈ news, u.oneCell' = true := by simp [Value.oneCell']) : opW P w (Builtin.append_ #[t, t] ty #[v, .slice (some a) m cap]) K := by
  obtain ⟨pp, qq, h2, h3⟩ := h.h
  have hr := S.has (.que v e sz n xs) (by rw [h2]; simp)
  refine w_appendQ z.h hr hs hl h1 hb fun v' w' h4 h5 h6 => k v' w' ?_
  rw [h3]
  rw [h2] at S
  refine S.turn (x := .que v e sz n xs) (y := .que v' e sz (n + m) (xs ++ news)) h5 h4 fun j hj => ?_
  rw [Asr.dom] at hj
  rcases h6 with h6 | h6
  · rw [h6] at hj; exact .inl hj
  · rw [h6] at hj; cases hj; exact .inr (Nat.le_refl _)
/-- v[i:] -/
theorem StX.loQ (S : StX X w0 r w L) {e' : TypeId} {kd : IntKind} {i : Int} [h : QueAt v L e sz n xs g] [z : SlT P t e' sz] {K : Value → Prop}
    (h0 : 0 ≤ i) (hi : i ≤ n) (hn : 0 < n) (k : ∀ v', StX X w0 r w (g (.que v' e sz (n - i.toNat) (xs.drop (i.toNat * sz)))) → K v') : opP P (Instr.sliceAt t v (some (.int kd i)) none none) K := by
  obtain ⟨pp, qq, h2, h3⟩ := h.h
  have hr := S.has (.que v e sz n xs) (by rw [h2]; simp)
  have hr0 := hr
  rcases hr.2 with ⟨rfl, h4⟩ | ⟨gb, off, cap, c, rfl, _⟩
  · omega
  refine p_sliceLo z.h h0 hi (k _ ?_)
  rw [h3]
  rw [h2] at S
  refine S.turn (x := .que (.slice (some ⟨gb, off, none⟩) n cap) e sz n xs) (y := .que _ e sz _ _) (ExtBut.refl _ _) (Que.drop hr0 (by omega)) fun j hj => .inl ?_
  simp only [Asr.dom] at hj ⊢
  split at hj
  · exact hj
  · simp only [Option.map_some, addr_add] at hj; exact hj
end
/-- make([]T, n), T of one cell -/
theorem StX.mkS {P : Program} {X : Nat → Prop} {w0 w : World} {r : Gh} {L : List Asr} {t e : TypeId} {bytes : Nat} {kl : IntKind} {n : Int} {z : Value} (S : StX X w0 r w L) [hT : ApT P t e 1 bytes] [hz : ZrT P e [z]] {K : Value → World → Prop} (h0 : 0 ≤ n) (hb : (bytes : Int) * n ≤ 281474976710656)
    (h : ∀ b w', StX X w0 r w' (.cell b (List.replicate n.toNat z) e :: L) → K (.slice (some ⟨b, 0, none⟩) n.toNat n.toNat) w') : opW P w (Instr.makeSlice t (.int kl n) (.int kl n)) K :=
  w_make hT.h hz.h h0 hb fun b w' hb e _ B => h b w' (S.add e (by omega) B)
/-- a cell of one's own, wherever it stands, comes to stay -/
class Pull (b : Nat) (L : List Asr) (c : outParam (List Value)) (T : outParam TypeId) (M : outParam (List Asr)) : Prop where
  h : L.Perm (.cell b c T :: M)
instance {b : Nat} {c : List Value} {T : TypeId} {L : List Asr} : Pull b (.cell b c T :: L) c T L := ⟨.refl _⟩
instance (priority := low) {b : Nat} {c : List Value} {T : TypeId} {x : Asr} {L M : List Asr} [h : Pull b L c T M] : Pull b (x :: L) c T (x :: M) := ⟨(h.h.cons x).trans (.swap _ _ _)⟩
theorem StX.permO {X : Nat → Prop} {w0 w : World} {r : Gh} {L M : List Asr} (S : StX X w0 r w L) (h : M.Perm L) : StX X w0 r w M :=
  ⟨S.x, S.holds, fun x hx => S.has x (h.subset hx), fun x hx => S.mine x (h.subset hx), h.symm.pairwise S.apart fun hab k hb ha => hab k ha hb⟩
theorem StX.frzAt {X : Nat → Prop} {w0 w : World} {r : Gh} {L M : List Asr} (S : StX X w0 r w L) (b : Nat) {c : List Value} {T : TypeId} [h : Pull b L c T M] : StX X w0 (r.or (one b c T)) w M :=
  (S.permO h.h.symm).frz
/-- .. is no more looked at -/
theorem StX.drop {X : Nat → Prop} {w0 w : World} {r : Gh} {L M : List Asr} (S : StX X w0 r w L) (b : Nat) {c : List Value} {T : TypeId} [h : Pull b L c T M] : StX X w0 r w M :=
  (S.permO h.h.symm).tl
end Go.Sh
end

section
namespace Go.Proofs
open Go.Sh
set_option maxRecDepth 100000
set_option linter.unusedSimpArgs false
set_option linter.unusedVariables false
theorem wsum_take {α : Type} (f : α → Nat) {l : List α} {i : Nat} (hi : i < l.length) : wsum ((l.take (i + 1)).map f) = wsum ((l.take i).map f) + f l[i] := by
  rw [List.take_succ_eq_append_getElem hi, List.map_append, wsum_append]; simp [wsum]
theorem wsum_le {α : Type} (f : α → Nat) (l : List α) (i : Nat) : wsum ((l.take i).map f) ≤ wsum (l.map f) := by
  have := congrArg (fun l => wsum (l.map f)) (List.take_append_drop i l)
  simp only [List.map_append, wsum_append] at this
  rw [← this]
  exact Nat.le_add_right _ _
theorem fld_ones {r : Gh} {c : List Value} {s : ByteArray} {t : TyD} (h : TyG r (.agg c.toArray) t) : ∀ u ∈ (Value.string s :: c).toArray.toList, u.oneCell' = true := by
  intro u hu
  rcases List.mem_cons.1 (by simpa using hu) with rfl | hu
  · rfl
  · exact ty_ones h u (by simpa using hu)
/-- a field's type, loaded out of a field of one's own -/
theorem _root_.Go.Sh.StX.fty {X : Nat → Prop} {w0 w : World} {r : Gh} {L : List Asr} {f : List Value → List Asr} {T : TypeId} {b : Nat} {s : ByteArray} {c : List Value} (S : StX X w0 r w L) [h : At b L (.string s :: c) T f] (hc : c.length = 5) {K : Value → Prop} (k : K (.agg c.toArray)) :
    opQ Tryd.prog w (Instr.loadAt 25 (.pointer (some ⟨b, 0 + 1, none⟩))) K :=
  S.ldN (h := h) (n := 5) (vs := c) k (by rw [List.drop_succ_cons, List.drop_zero, List.take_of_length_le (by omega)]) hc
theorem c_types_words {ss : List StD} {p : Option Addr} {cap : Nat} (hg : Good ss) (hac : ∀ k, ¬ Rch ss k k) : ∀ (m : Nat) {t : TyD} {w : World} {r : Gh} {v : Value} {K : Value → World → Prop}, m ≤ 100 → rkT ss t ≤ m → lookB ss.length 48 t = true → ss.length ≤ 32 → (∀ k, (tysAt ss k).length ≤ 8) →
    Holds r w → StG r p ss → TyG r v t → (∀ w', Ext w w' → K (.int .i64 (min (wF ss m t) 17 : Nat)) w') → oCall Tryd.prog Tryd.n_types_words #[.slice p ss.length cap, v] w K := by
  intro m
  induction m with
  | zero =>
    intro t w r v K _ hrk hl h32 h8 hr hs hv h
    have h5 : ¬ t.k = 5 := fun h => by unfold rkT at hrk; rw [if_pos h] at hrk; omega
    refine Tryd.ok_types_words ?_
    unfold Tryd.F_types_words
    obtain ⟨p1, cap1, rfl, _⟩ := hv
    have S := St.start hr
    refine S.box fun b3 w1 S => ?_
    (repeat (first | refine s_p ?_ | refine s_c (by omega) ?_ | refine S.ld ?_ | refine S.ldB ?_ | refine S.ce ?_ | refine S.ceB ?_ | refine s_q ?_ | refine s_qc (by omega) ?_ | refine n_some ?_ | rw [List.getD_cons_zero] | rw [List.getD_cons_succ]))
    refine c_if (fun _ => h _ S.ext) (fun hn => absurd (by omega) h5)
  | succ m ih =>
    intro t w r v K hm hrk hl h32 h8 hr hs hv h
    refine Tryd.ok_types_words ?_
    unfold Tryd.F_types_words
    obtain ⟨p1, cap1, rfl, _⟩ := hv
    have S := St.start hr
    refine S.box fun b3 w1 S => ?_
    (repeat (first | refine s_p ?_ | refine s_c (by omega) ?_ | refine S.ld ?_ | refine S.ldB ?_ | refine S.ce ?_ | refine S.ceB ?_ | refine s_q ?_ | refine s_qc (by omega) ?_ | refine n_some ?_ | rw [List.getD_cons_zero] | rw [List.getD_cons_succ]))
    refine c_if (fun hn => ?_) (fun h5 => ?_)
    · rw [wF, if_neg (by omega)] at h
      exact h _ S.ext
    have h5 : t.k = 5 := by omega
    obtain ⟨hst0, hst1, _⟩ := look_st hl h5
    have hlt : t.st.toNat < ss.length := by omega
    obtain ⟨b, off, q, capq, rfl, hcell, _, _, hf⟩ := st_at hs hlt
    (repeat (first | refine s_p ?_ | refine s_c (by omega) ?_ | refine S.ld ?_ | refine S.ldB ?_ | refine S.ce ?_ | refine S.ceB ?_ | refine s_q ?_ | refine s_qc (by omega) ?_ | refine n_some ?_ | rw [List.getD_cons_zero] | rw [List.getD_cons_succ]))
    refine s_ld1 (S.at hcell) ?_
    have htl : tysAt ss t.st = ss[t.st.toNat].fs.map (·.2) := by
      rw [← tysAt_eq hlt]; simp only [tysAt, Int.toNat_natCast]
    have hlen : (tysAt ss t.st).length = ss[t.st.toNat].fs.length := by rw [htl, List.length_map]
    have h88 := h8 t.st
    (repeat (first | refine s_p ?_ | refine s_c (by omega) ?_ | refine S.ld ?_ | refine S.ldB ?_ | refine S.ce ?_ | refine S.ceB ?_ | refine s_q ?_ | refine s_qc (by omega) ?_ | refine n_some ?_ | rw [List.getD_cons_zero] | rw [List.getD_cons_succ]))
    refine l_intro (ι := Nat) (fun i => [.int .i64 (wsum (((tysAt ss t.st).take i).map (wF ss m)) : Nat), .int .i64 i]) (fun i w' => i ≤ (tysAt ss t.st).length ∧ wsum (((tysAt ss t.st).take i).map (wF ss m)) ≤ 16 ∧ St w r w' _)
      (fun i => (tysAt ss t.st).length - i) 0 rfl ⟨Nat.zero_le _, by simp [wsum], S⟩ ?_
    clear S
    rintro i d w2 ⟨hi, hsum, S⟩ K6 hK6
    rw [List.getD_cons_zero, List.getD_cons_succ, List.getD_cons_zero]
    (repeat (first | refine s_p ?_ | refine s_c (by omega) ?_ | refine S.ld ?_ | refine S.ldB ?_ | refine S.ce ?_ | refine S.ceB ?_ | refine s_q ?_ | refine s_qc (by omega) ?_ | refine n_some ?_ | rw [List.getD_cons_zero] | rw [List.getD_cons_succ]))
    refine c_b (fun hlt2 => ?_) (fun hge => ?_)
    · have hlt2 : i < ss[t.st.toNat].fs.length := by simpa using hlt2
      have hlt3 : i < (tysAt ss t.st).length := by omega
      obtain ⟨b2, off2, c, rfl, hcl, hcc, hty⟩ := fl_at hf hlt2
      (repeat (first | refine s_p ?_ | refine s_c (by omega) ?_ | refine S.ld ?_ | refine S.ldB ?_ | refine S.ce ?_ | refine S.ceB ?_ | refine s_q ?_ | refine s_qc (by omega) ?_ | refine n_some ?_ | rw [List.getD_cons_zero] | rw [List.getD_cons_succ]))
      refine s_ldN (n := 6) (c := .string ss[t.st.toNat].fs[i].1 :: c) (by simp [hcl]) (fun j v hj => by rw [Int.toNat_natCast]; exact S.at (hcc j v hj)) ?_
      refine S.al fun b7 w3 S => ?_
      refine S.stB (cs := (Value.string ss[t.st.toNat].fs[i].1 :: c).toArray) (fun w4 S => ?_) rfl (by simp [hcl]) (fld_ones hty)
      (first | refine s_p ?_ | refine s_c (by omega) ?_)
      refine S.fty hcl ?_
      have hel : (tysAt ss t.st)[i] = ss[t.st.toNat].fs[i].2 := by simp only [htl, List.getElem_map]
      have hmem : ss[t.st.toNat].fs[i].2 ∈ tysAt ss t.st := by rw [← hel]; exact List.getElem_mem hlt3
      have hrk2 := rk_lt hg hac h5 hmem
      refine ih (by omega) (by omega) (hg _ _ hmem) h32 h8 S.holds hs hty fun w5 e5 => ?_
      have S := (S.go e5).tl
      have hst := wsum_take (wF ss m) hlt3
      rw [hel] at hst
      (first | refine s_p ?_ | refine s_c (by omega) ?_)
      (first | refine s_p ?_ | refine s_c (by omega) ?_)
      have htot : wsum (((tysAt ss t.st).take (i + 1)).map (wF ss m)) ≤ wF ss (m + 1) t := by
        rw [wF, if_pos h5]; exact wsum_le _ _ _
      refine c_b (fun hbig => ?_) (fun hsm => ?_)
      · have hbig : 16 < wsum (((tysAt ss t.st).take i).map (wF ss m)) + min (wF ss m ss[t.st.toNat].fs[i].2) 17 := by
          have := of_decide_eq_true hbig; omega
        have e : min (wF ss (m + 1) t) 17 = 17 := by omega
        rw [e] at h
        exact h _ S.ext
      · have hsm : ¬ 16 < wsum (((tysAt ss t.st).take i).map (wF ss m)) + min (wF ss m ss[t.st.toNat].fs[i].2) 17 := by
          have := of_decide_eq_false hsm; omega
        (first | refine s_p ?_ | refine s_c (by omega) ?_)
        have e : (wsum (((tysAt ss t.st).take i).map (wF ss m)) : Int) + ((min (wF ss m ss[t.st.toNat].fs[i].2) 17 : Nat) : Int) = (wsum (((tysAt ss t.st).take (i + 1)).map (wF ss m)) : Nat) := by omega
        rw [e, show ((i : Int) + 1) = ((i + 1 : Nat) : Int) by omega]
        exact hK6 (i + 1) _ ⟨hlt3, by omega, S⟩ (by omega)
    · have hie : i = (tysAt ss t.st).length := by
        have : ¬ i < ss[t.st.toNat].fs.length := by simpa using hge
        omega
      rw [hie, List.take_length] at hsum ⊢
      have e : min (wF ss (m + 1) t) 17 = wsum ((tysAt ss t.st).map (wF ss m)) := by
        rw [wF, if_pos h5]; omega
      rw [e] at h
      exact h _ S.ext
/-! ### Who stands in himself -/
def mt (met : List Bool) (j : Int) : Bool := met.getD j.toNat false
def cf : List Bool → Nat
  | [] => 0
  | b :: l => (if b then 0 else 1) + cf l
theorem cf_set : ∀ {l : List Bool} {i : Nat}, l[i]? = some false → cf (l.set i true) + 1 = cf l
  | [], i, h => by simp at h
  | b :: l, 0, h => by
    simp only [List.getElem?_cons_zero, Option.some.injEq] at h
    subst h
    simp [cf]; omega
  | b :: l, i + 1, h => by
    have := cf_set (l := l) (i := i) (by simpa using h)
    simp only [List.set_cons_succ, cf]; omega
theorem mt_set {met : List Bool} {i j : Int} (hi : 0 ≤ i) (hj : 0 ≤ j) (hlt : i.toNat < met.length) : mt (met.set i.toNat true) j = (decide (j = i) || mt met j) := by
  unfold mt
  rw [List.getD_eq_getElem?_getD, List.getD_eq_getElem?_getD, List.getElem?_set]
  by_cases h : i.toNat = j.toNat
  · have : j = i := by omega
    subst this
    simp [hlt]
  · have : ¬ j = i := fun e => h (by rw [e])
    rw [if_neg h]; simp [this]
/-- how far the search has come; x: whose fields are being looked at, so far -/
structure QI (ss : List StD) (k : Int) (N : Nat) (W : List Int) (met : List Bool) (x : Option (Int × Nat)) : Prop where
  len : met.length = N
  dom : ss.length ≤ N
  rng : ∀ y ∈ W, 0 ≤ y ∧ y < ss.length
  s1 : ∀ j, 0 ≤ j → mt met j = true → Rch ss k j
  s2 : ∀ y ∈ W, y = k ∨ mt met y = true
  s3 : ∀ y, 0 ≤ y → (y = k ∨ mt met y = true) → y ∉ W → (∀ q, x = some q → y ≠ q.1) → ∀ j, Kid ss y j → mt met j = true
  s4 : ∀ q, x = some q → (q.1 = k ∨ Rch ss k q.1) ∧ ∀ t ∈ (tysAt ss q.1).take q.2, t.k = 5 → mt met t.st = true
theorem QI.start {ss : List StD} {k : Int} {N : Nat} (hd : ss.length ≤ N) (h0 : 0 ≤ k) (h1 : k < ss.length) : QI ss k N [k] (List.replicate N false) none := by
  have hm : ∀ j, mt (List.replicate N false) j = false := fun j => by
    unfold mt; rw [List.getD_eq_getElem?_getD, List.getElem?_replicate]; split <;> rfl
  refine ⟨List.length_replicate, hd, by simp; omega, fun j _ h => ?_, by simp, fun y _ h hn => ?_, fun q h => by cases h⟩
  · rw [hm] at h; cases h
  · rcases h with rfl | h
    · simp at hn
    · rw [hm] at h; cases h
theorem QI.pop {ss : List StD} {k x : Int} {N : Nat} {W : List Int} {met : List Bool} (h : QI ss k N (x :: W) met none) : QI ss k N W met (some (x, 0)) := by
  have hx := h.rng x List.mem_cons_self
  refine ⟨h.len, h.dom, fun y hy => h.rng y (List.mem_cons_of_mem _ hy), h.s1, fun y hy => h.s2 y (List.mem_cons_of_mem _ hy), fun y hy hk hn hx j hj => ?_, fun q hq => ?_⟩
  · refine h.s3 y hy hk ?_ (fun q hq => by cases hq) j hj
    intro hm
    rcases List.mem_cons.1 hm with rfl | hm
    · exact hx _ rfl rfl
    · exact hn hm
  · cases hq
    refine ⟨(h.s2 x List.mem_cons_self).imp id (h.s1 x hx.1), by simp⟩
theorem QI.skip {ss : List StD} {k x : Int} {N i : Nat} {W : List Int} {met : List Bool} (h : QI ss k N W met (some (x, i))) (hi : i < (tysAt ss x).length) (hs : (tysAt ss x)[i].k = 5 → mt met (tysAt ss x)[i].st = true) : QI ss k N W met (some (x, i + 1)) := by
  refine ⟨h.len, h.dom, h.rng, h.s1, h.s2, fun y hy hk hn hx j hj => h.s3 y hy hk hn (fun q hq => by cases hq; exact hx (x, i + 1) rfl) j hj, fun q hq => ?_⟩
  cases hq
  have := h.s4 _ rfl
  refine ⟨this.1, fun t ht h5 => ?_⟩
  simp only at ht
  rw [List.take_succ_eq_append_getElem hi, List.mem_append, List.mem_singleton] at ht
  rcases ht with ht | rfl
  · exact this.2 t ht h5
  · exact hs h5
theorem QI.push {ss : List StD} {k x : Int} {N i : Nat} {W : List Int} {met : List Bool} (hg : Good ss) (h : QI ss k N W met (some (x, i))) (hi : i < (tysAt ss x).length) (h5 : (tysAt ss x)[i].k = 5) :
    QI ss k N (W ++ [(tysAt ss x)[i].st]) (met.set (tysAt ss x)[i].st.toNat true) (some (x, i + 1)) := by
  have hk : Kid ss x (tysAt ss x)[i].st := ⟨_, List.getElem_mem hi, h5, rfl⟩
  have hin := kid_in hg hk
  have hd := h.dom
  have hlen := h.len
  have hms : ∀ j, 0 ≤ j → mt (met.set (tysAt ss x)[i].st.toNat true) j = (decide (j = (tysAt ss x)[i].st) || mt met j) := fun j hj => mt_set hin.1 hj (by omega)
  refine ⟨by rw [List.length_set]; exact h.len, h.dom, fun y hy => ?_, fun j hj hm => ?_, fun y hy => ?_, fun y hy hyk hn hx j hj => ?_, fun q hq => ?_⟩
  · rcases List.mem_append.1 hy with hy | hy
    · exact h.rng y hy
    · rw [List.mem_singleton.1 hy]; exact hin
  · rw [hms j hj, Bool.or_eq_true, decide_eq_true_eq] at hm
    rcases hm with rfl | hm
    · rcases (h.s4 _ rfl).1 with hx | hx
      · have hx : x = k := hx
        rw [← hx]; exact .one hk
      · exact .more hx hk
    · exact h.s1 j hj hm
  · rcases List.mem_append.1 hy with hy | hy
    · refine (h.s2 y hy).imp id fun hm => ?_
      rw [hms y (h.rng y hy).1, hm, Bool.or_true]
    · rw [List.mem_singleton.1 hy, hms _ hin.1]; simp
  · have hj0 := (kid_in hg hj).1
    rw [hms j hj0]
    rw [hms y hy, Bool.or_eq_true, decide_eq_true_eq] at hyk
    have hnw : y ∉ W := fun hm => hn (List.mem_append_left _ hm)
    have hne : y ≠ (tysAt ss x)[i].st := fun e => hn (by rw [e]; exact List.mem_append_right _ List.mem_cons_self)
    rw [h.s3 y hy (hyk.imp id fun hh => hh.resolve_left hne) hnw (fun q hq => by cases hq; exact hx (x, i + 1) rfl) j hj, Bool.or_true]
  · cases hq
    have := h.s4 _ rfl
    refine ⟨this.1, fun t ht h5' => ?_⟩
    simp only at ht
    rw [List.take_succ_eq_append_getElem hi, List.mem_append, List.mem_singleton] at ht
    rcases ht with ht | rfl
    · have ht0 := (kid_in hg (k := x) ⟨t, List.mem_of_mem_take ht, h5', rfl⟩).1
      rw [hms _ ht0, this.2 t ht h5', Bool.or_true]
    · rw [hms _ hin.1]; simp
theorem QI.done {ss : List StD} {k x : Int} {N i : Nat} {W : List Int} {met : List Bool} (h : QI ss k N W met (some (x, i))) (hi : (tysAt ss x).length ≤ i) : QI ss k N W met none := by
  refine ⟨h.len, h.dom, h.rng, h.s1, h.s2, fun y hy hk hn _ j hj => ?_, fun q hq => by cases hq⟩
  by_cases hyx : y = x
  · subst hyx
    obtain ⟨t, ht, h5, rfl⟩ := hj
    have := (h.s4 _ rfl).2 t (by simp only; rw [List.take_of_length_le hi]; exact ht) h5
    exact this
  · exact h.s3 y hy hk hn (fun q hq => by cases hq; exact hyx) j hj
theorem QI.all {ss : List StD} {k : Int} {N : Nat} {met : List Bool} (hg : Good ss) (h0 : 0 ≤ k) (h : QI ss k N [] met none) {j : Int} (hr : Rch ss k j) : mt met j = true := by
  induction hr with
  | one e => exact h.s3 k h0 (.inl rfl) (by simp) (fun q hq => by cases hq) _ e
  | more hr e ih => exact h.s3 _ (rch_in hg hr).1 (.inr ih) (by simp) (fun q hq => by cases hq) _ e
open Classical in
theorem bad2_eq {ss : List StD} {k : Nat} {b : Bool} (h1 : b = true → Rch ss k k) (h2 : Rch ss k k → b = true) : b = bad2 ss k := by
  rw [bad2]
  by_cases hr : Rch ss k k
  · rw [decide_eq_true hr]; exact h2 hr
  · rw [decide_eq_false hr]
    cases b
    · rfl
    · exact absurd (h1 rfl) hr
def bools (l : List Bool) : List Value := l.map .bool
theorem bools_len (l : List Bool) : (bools l).length = l.length := List.length_map ..
theorem bools_at {l : List Bool} {j : Int} (h : j.toNat < l.length) : (bools l)[j.toNat]? = some (.bool (mt l j)) := by
  unfold bools mt
  rw [List.getElem?_map, List.getD_eq_getElem?_getD, List.getElem?_eq_getElem h]; rfl
theorem c_types_endless {ss : List StD} {p : Option Addr} {cap k : Nat} (hg : Good ss) (h32 : ss.length ≤ 32) (hk : k < ss.length) (h8 : ∀ k, (tysAt ss k).length ≤ 8) {w : World} {r : Gh} {K : Value → World → Prop} (hr : Holds r w) (hs : StG r p ss)
    (h : ∀ w', Ext w w' → K (.bool (bad2 ss k)) w') : oCall Tryd.prog Tryd.n_types_endless #[.slice p ss.length cap, .int .i64 k] w K := by
  refine Tryd.ok_types_endless ?_
  unfold Tryd.F_types_endless
  have S := St.start hr
  refine S.al fun b5 w1 S => ?_
  refine S.lit (e := 3) (cs := [.int .i64 k]) (by kernel_rfl) fun b11 w2 S => ?_
  have S := S.toRow 1 1 rfl (by decide)
  have S := S.toQue (.slice (some ⟨b11, 0, none⟩) 1 1)
  have S : StX noX w r w2 [.que (.slice (some ⟨b11, 0, none⟩) 1 1) 3 1 [(k : Int)].length (ints [(k : Int)]), .cell b5 (bools (List.replicate 32 false)) 125] := S
  refine l_intro (ι := List Int × List Bool × Value) (fun i => [i.2.2]) (fun i w' => QI ss k 32 i.1 i.2.1 none ∧ 2 * cf i.2.1 + i.1.length ≤ 65 ∧ StX noX w r w' [.que i.2.2 3 1 i.1.length (ints i.1), .cell b5 (bools i.2.1) 125])
    (fun i => 2 * cf i.2.1 + i.1.length) ([(k : Int)], List.replicate 32 false, _) rfl ⟨QI.start h32 (by omega) (by omega), (show 2 * cf (List.replicate 32 false) + 1 ≤ 65 by decide), S⟩ ?_
  clear S
  rintro ⟨W, met, vq⟩ d w3 ⟨hq, h65, S⟩ K3 hK3
  simp only at hq h65 S ⊢
  rw [List.getD_cons_zero]
  obtain ⟨pq, capq, rfl, hp0, hcq, _, hsl⟩ := S.queS vq
  (first | refine s_p ?_ | refine s_c (by omega) ?_)
  (first | refine s_p ?_ | refine s_c (by omega) ?_)
  refine c_b (fun hpos => ?_) (fun hz => ?_)
  · have hpos : 0 < W.length := by simpa using hpos
    cases W with
    | nil => simp at hpos
    | cons x W =>
      obtain ⟨bq, oq, rfl, hcell⟩ := ints_at hsl hpos
      have hx := hq.rng x List.mem_cons_self
      (first | refine s_p ?_ | refine s_c (by omega) ?_)
      refine s_ld1 (by simpa using hcell) ?_
      refine S.loQ (by omega) (by omega) hpos fun v' S => ?_
      have S : StX noX w r w3 [.que v' 3 1 W.length (ints W), .cell b5 (bools met) 125] := S
      have hxn : x.toNat < ss.length := by omega
      obtain ⟨bs', os', q, capf, rfl, hcs, _, _, hf⟩ := st_at hs hxn
      (first | refine s_p ?_ | refine s_c (by omega) ?_)
      (first | refine s_p ?_ | refine s_c (by omega) ?_)
      refine s_ld1 (S.at hcs) ?_
      (first | refine s_p ?_ | refine s_c (by omega) ?_)
      have htl : tysAt ss x = ss[x.toNat].fs.map (·.2) := by
        rw [← tysAt_eq hxn]; simp only [tysAt, Int.toNat_natCast]
      have hlen : (tysAt ss x).length = ss[x.toNat].fs.length := by rw [htl, List.length_map]
      have h88 := h8 x
      refine l_intro (ι := Nat × List Int × List Bool × Value) (fun i => [i.2.2.2, .int .i64 i.1]) (fun i w' => i.1 ≤ (tysAt ss x).length ∧ QI ss k 32 i.2.1 i.2.2.1 (some (x, i.1)) ∧ 2 * cf i.2.2.1 + i.2.1.length ≤ 2 * cf met + W.length ∧
        StX noX w r w' [.que i.2.2.2 3 1 i.2.1.length (ints i.2.1), .cell b5 (bools i.2.2.1) 125]) (fun i => (tysAt ss x).length - i.1) (0, W, met, v') rfl ⟨Nat.zero_le _, hq.pop, Nat.le_refl _, S⟩ ?_
      clear S
      rintro ⟨i, W', met', vq'⟩ d w4 ⟨hi, hq', hme, S⟩ K7 hK7
      simp only at hi hq' hme S ⊢
      rw [List.getD_cons_zero, List.getD_cons_succ, List.getD_cons_zero]
      (first | refine s_p ?_ | refine s_c (by omega) ?_)
      refine c_b (fun hlt2 => ?_) (fun hge => ?_)
      · have hlt2 : i < ss[x.toNat].fs.length := by simpa using hlt2
        have hlt3 : i < (tysAt ss x).length := by omega
        have hel : (tysAt ss x)[i] = ss[x.toNat].fs[i].2 := by simp only [htl, List.getElem_map]
        refine j_intro (fun s w' => ∃ W2 met2 v2, s = [v2] ∧ QI ss k 32 W2 met2 (some (x, i + 1)) ∧ 2 * cf met2 + W2.length ≤ 2 * cf met' + W'.length ∧ StX noX w r w' [.que v2 3 1 W2.length (ints W2), .cell b5 (bools met2) 125]) (fun K11 hK11 => ?_) ?_
        · obtain ⟨b2, off2, c, rfl, hcl, hcc, hty⟩ := fl_at hf hlt2
          (first | refine s_p ?_ | refine s_c (by omega) ?_)
          refine s_ldN (n := 6) (c := .string ss[x.toNat].fs[i].1 :: c) (by simp [hcl]) (fun j v hj => by rw [Int.toNat_natCast]; exact S.at (hcc j v hj)) ?_
          refine S.al fun b9 w5 S => ?_
          refine S.stB (cs := (Value.string ss[x.toNat].fs[i].1 :: c).toArray) (fun w6 S => ?_) rfl (by simp [hcl]) (fld_ones hty)
          obtain ⟨pt, capt, rfl, _⟩ := cells_of hty
          have S : StX noX w r w6 [.cell b9 [.string ss[x.toNat].fs[i].1, .int .u8 ss[x.toNat].fs[i].2.k, .bool ss[x.toNat].fs[i].2.m, .int .i64 ss[x.toNat].fs[i].2.re, .int .i64 ss[x.toNat].fs[i].2.st, .slice pt ss[x.toNat].fs[i].2.of.length capt] 101, .que vq' 3 1 W'.length (ints W'), .cell b5 (bools met') 125] := S
          (repeat (first | refine s_p ?_ | refine s_c (by omega) ?_ | refine S.ld ?_ | refine S.ldB ?_ | refine S.ce ?_ | refine S.ceB ?_ | refine s_q ?_ | refine s_qc (by omega) ?_ | refine n_some ?_ | rw [List.getD_cons_zero] | rw [List.getD_cons_succ]))
          rw [← hel]
          by_cases h5 : (tysAt ss x)[i].k = 5
          · have hkid : Kid ss x (tysAt ss x)[i].st := ⟨_, List.getElem_mem hlt3, h5, rfl⟩
            have hin := kid_in hg hkid
            have hml := hq'.len
            refine j_borH (c := mt met' (tysAt ss x)[i].st) (fun _ K2 hK2 => ?_) ?_
            · (repeat (first | refine s_p ?_ | refine s_c (by omega) ?_ | refine S.ld ?_ | refine S.ldB ?_ | refine S.ce ?_ | refine S.ceB ?_ | refine s_q ?_ | refine s_qc (by omega) ?_ | refine n_some ?_ | rw [List.getD_cons_zero] | rw [List.getD_cons_succ]))
              rw [← hel]
              (first | refine s_p ?_ | refine s_c (by omega) ?_)
              refine S.ld (b := b5) ?_ (by rw [Nat.zero_add, Nat.mul_one]; exact bools_at (by omega))
              exact hK2
            rw [show decide ((tysAt ss x)[i].k ≠ 5) = false by simp [h5], Bool.false_or]
            refine c_b (fun hm => ?_) (fun hm => ?_)
            · exact hK11 _ _ ⟨W', met', vq', rfl, hq'.skip hlt3 fun _ => hm, Nat.le_refl _, S.tl⟩
            · (repeat (first | refine s_p ?_ | refine s_c (by omega) ?_ | refine S.ld ?_ | refine S.ldB ?_ | refine S.ce ?_ | refine S.ceB ?_ | refine s_q ?_ | refine s_qc (by omega) ?_ | refine n_some ?_ | rw [List.getD_cons_zero] | rw [List.getD_cons_succ]))
              rw [← hel]
              (first | refine s_p ?_ | refine s_c (by omega) ?_)
              refine S.st (b := b5) (fun w7 S => ?_) (by rw [bools_len]; omega)
              (repeat (first | refine s_p ?_ | refine s_c (by omega) ?_ | refine S.ld ?_ | refine S.ldB ?_ | refine S.ce ?_ | refine S.ceB ?_ | refine s_q ?_ | refine s_qc (by omega) ?_ | refine n_some ?_ | rw [List.getD_cons_zero] | rw [List.getD_cons_succ]))
              rw [← hel]
              refine S.lit (e := 3) (cs := [.int .i64 (tysAt ss x)[i].st]) (by kernel_rfl) fun b49 w8 S => ?_
              simp only [List.length_cons] at h65
              refine S.apQ (m := 1) (Sl.blk (S.blk b49)) (fun v50 w9 S => ?_) (by omega)
              have hset : mt met' (tysAt ss x)[i].st = false := hm
              have hcf := cf_set (l := met') (i := (tysAt ss x)[i].st.toNat) (by
                unfold mt at hset
                rw [List.getD_eq_getElem?_getD, List.getElem?_eq_getElem (by omega)] at hset
                rw [List.getElem?_eq_getElem (by omega)]
                simpa using hset)
              refine hK11 _ _ ⟨W' ++ [(tysAt ss x)[i].st], met'.set (tysAt ss x)[i].st.toNat true, v50, rfl, hq'.push hg hlt3 h5, by rw [List.length_append, List.length_singleton]; omega, ?_⟩
              have e1 : (bools met').set (0 + (tysAt ss x)[i].st.toNat * 1) (.bool true) = bools (met'.set (tysAt ss x)[i].st.toNat true) := by
                rw [Nat.zero_add, Nat.mul_one, bools, bools, List.map_set]
              rw [e1] at S
              rw [List.length_append, ints_append]
              exact S.tl.tl
          · refine j_borH (c := true) (fun hn => absurd hn (by simp [h5])) ?_
            rw [Bool.or_true]
            refine c_t rfl ?_
            exact hK11 _ _ ⟨W', met', vq', rfl, hq'.skip hlt3 fun e => absurd e h5, Nat.le_refl _, S.tl⟩
        · rintro _ w5 ⟨W2, met2, v2, rfl, hq2, hme2, S⟩ d5
          rw [List.getD_cons_zero]
          (first | refine s_p ?_ | refine s_c (by omega) ?_)
          rw [show ((i : Int) + 1) = ((i + 1 : Nat) : Int) by omega]
          exact hK7 (i + 1, W2, met2, v2) _ ⟨hlt3, hq2, by simp only; omega, S⟩ (by simp only; omega)
      · have hge : (tysAt ss x).length ≤ i := by
          have : ¬ i < ss[x.toNat].fs.length := by simpa using hge
          omega
        exact hK3 (W', met', vq') _ ⟨hq'.done hge, by simp only [List.length_cons] at h65 ⊢; omega, S⟩ (by simp only [List.length_cons]; omega)
  · have hz : W = [] := List.eq_nil_of_length_eq_zero (by
      have : ¬ 0 < W.length := by simpa using hz
      omega)
    subst hz
    have hml := hq.len
    (first | refine s_p ?_ | refine s_c (by omega) ?_)
    refine S.ld (b := b5) ?_ (by rw [Nat.zero_add, Nat.mul_one]; exact bools_at (by omega))
    have e : mt met (k : Int) = bad2 ss k := bad2_eq (hq.s1 _ (by omega)) (hq.all hg (by omega))
    rw [e]
    exact h _ S.ext
end Go.Proofs
end

section
namespace Go.Proofs
open Go.Sh
set_option maxRecDepth 100000
set_option linter.unusedSimpArgs false
set_option linter.unusedVariables false
theorem c_types_first {X : Nat → Prop} {w0 : World} {r : Gh} {L : List Asr} {n : Nat} {q : Nat → Bool} {fv : Value} (hn : n ≤ 1000)
    (hf : ∀ (i : Nat), i < n → ∀ {w : World} {K : Value → World → Prop}, StX X w0 r w L → (∀ w', StX X w0 r w' L → K (.bool (q i)) w') → oCallV Tryd.prog fv #[.int .i64 i] w K) {w : World} {K : Value → World → Prop} (S : StX X w0 r w L)
    (h : ∀ w', StX X w0 r w' L → K (.int .i64 (fstB n q)) w') : oCall Tryd.prog Tryd.n_types_first #[.int .i64 n, fv] w K := by
  refine Tryd.ok_types_first ?_
  unfold Tryd.F_types_first
  refine l_intro (ι := Nat) (fun i => [.int .i64 i]) (fun i w' => i ≤ n ∧ (∀ j, j < i → q j = false) ∧ StX X w0 r w' L) (fun i => n - i) 0 rfl ⟨Nat.zero_le _, fun j hj => by omega, S⟩ ?_
  clear S
  rintro i d w1 ⟨hi, hq, S⟩ K6 hK6
  rw [List.getD_cons_zero]
  (first | refine s_p ?_ | refine s_c (by omega) ?_)
  refine c_b (fun hlt => ?_) (fun hge => ?_)
  · have hlt : i < n := by simpa using hlt
    refine hf i hlt S fun w2 S => ?_
    refine c_b (fun hy => ?_) (fun hno => ?_)
    · have := h _ S
      rwa [fstB_some hlt hy hq] at this
    · (first | refine s_p ?_ | refine s_c (by omega) ?_)
      rw [show ((i : Int) + 1) = ((i + 1 : Nat) : Int) by omega]
      refine hK6 (i + 1) _ ⟨hlt, fun j hj => ?_, S⟩ (by omega)
      by_cases hji : j = i
      · rw [hji]; exact hno
      · exact hq j (by omega)
  · have hge : i = n := by
      have : ¬ i < n := by simpa using hge
      omega
    have := h _ S
    rwa [fstB_none (fun j hj => hq j (by omega))] at this
theorem c_ContainsFunc_fld {X : Nat → Prop} {w0 : World} {r s : Gh} {L : List Asr} {p : Option Addr} {cap : Nat} {fs : List (ByteArray × TyD)} {g : TyD → Bool} {fv : Value} (hfl : FlG s p fs) [Le s r] (hb : fs.length ≤ 1000000000)
    (hf : ∀ f ∈ fs, ∀ {c : List Value} {w : World} {K : Value → World → Prop}, c.length = 5 → TyG s (.agg c.toArray) f.2 → StX X w0 r w L → (∀ w', StX X w0 r w' L → K (.bool (g f.2)) w') → oCallV Tryd.prog fv #[.agg (.string f.1 :: c).toArray] w K)
    {w : World} {K : Value → World → Prop} (S : StX X w0 r w L) (h : ∀ w', StX X w0 r w' L → K (.bool ((fs.map (·.2)).any g)) w') : oCall Tryd.prog Tryd.n_slices_ContainsFunc_api_Field_api_Field #[.slice p fs.length cap, fv] w K := by
  refine Tryd.ok_slices_ContainsFunc_api_Field_api_Field ?_
  unfold Tryd.F_slices_ContainsFunc_api_Field_api_Field
  refine Tryd.ok_slices_IndexFunc_api_Field_api_Field ?_
  unfold Tryd.F_slices_IndexFunc_api_Field_api_Field
  (first | refine s_p ?_ | refine s_c (by omega) ?_)
  refine l_intro (ι := Nat) (fun i => [.int .i64 i]) (fun i w' => i ≤ fs.length ∧ ((fs.take i).map (·.2)).any g = false ∧ StX X w0 r w' L) (fun i => fs.length - i) 0 rfl ⟨Nat.zero_le _, by simp, S⟩ ?_
  clear S
  rintro i d w1 ⟨hi, hq, S⟩ K6 hK6
  rw [List.getD_cons_zero]
  (first | refine s_p ?_ | refine s_c (by omega) ?_)
  refine c_b (fun hlt => ?_) (fun hge => ?_)
  · have hlt : i < fs.length := by simpa using hlt
    obtain ⟨b2, off2, c, rfl, hcl, hcc, hty⟩ := fl_at hfl hlt
    (first | refine s_p ?_ | refine s_c (by omega) ?_)
    refine s_ldN (n := 6) (c := .string fs[i].1 :: c) (by simp [hcl]) (fun j v hj => by rw [Int.toNat_natCast]; exact S.at (hcc j v hj)) ?_
    refine hf fs[i] (List.getElem_mem hlt) hcl hty S fun w2 S => ?_
    refine c_b (fun hy => ?_) (fun hno => ?_)
    · (first | refine s_p ?_ | refine s_c (by omega) ?_)
      have := h _ S
      have e : (fs.map (·.2)).any g = true := List.any_eq_true.2 ⟨fs[i].2, List.mem_map.2 ⟨_, List.getElem_mem hlt, rfl⟩, hy⟩
      rw [e] at this
      rw [show decide ((i : Int) ≥ 0) = true by simp]
      exact this
    · (first | refine s_p ?_ | refine s_c (by omega) ?_)
      rw [show ((i : Int) + 1) = ((i + 1 : Nat) : Int) by omega]
      refine hK6 (i + 1) _ ⟨hlt, ?_, S⟩ (by omega)
      rw [List.take_succ_eq_append_getElem hlt, List.map_append, List.any_append, hq]
      simp [hno]
  · have hge : i = fs.length := by
      have : ¬ i < fs.length := by simpa using hge
      omega
    rw [hge, List.take_length] at hq
    (first | refine s_p ?_ | refine s_c (by omega) ?_)
    have := h _ S
    rw [hq] at this
    exact this
theorem len8_of {ss : List StD} (h : ∀ k, k < ss.length → bad1 ss k = false) (k : Int) : (tysAt ss k).length ≤ 8 := by
  by_cases hk : k.toNat < ss.length
  · have := h k.toNat hk
    have e : tysAt ss (k.toNat : Int) = tysAt ss k := by rw [tysAt, tysAt, Int.toNat_natCast]
    rw [bad1, e, Bool.or_eq_false_iff, Bool.or_eq_false_iff] at this
    simp only [decide_eq_false_iff_not] at this
    omega
  · rw [tysAt_out hk]; simp
section
variable {X : Nat → Prop} {w0 w : World} {r : Gh} {L : List Asr} {ss : List StD} {p : Option Addr} {cap b1 b4 : Nat} {f1 f4 : List Value → List Asr} {K : Value → World → Prop}
theorem c_types_Structs_1 {k : Nat} (hk : k < ss.length) (hs : StG r p ss) (S : StX X w0 r w L) [At b1 L [.slice p ss.length cap] 50 f1] [At b4 L [.int .i64 (ss.length : Nat)] 3 f4] (h : ∀ w', StX X w0 r w' L → K (.bool (bad1 ss k)) w') :
    oCallV Tryd.prog (.func (.func Tryd.n_types_Structs_1) #[] #[.pointer (some ⟨b1, 0, none⟩), .pointer (some ⟨b4, 0, none⟩)]) #[.int .i64 k] w K := by
  refine v_func (by kernel_rfl) ?_
  refine Tryd.ok_types_Structs_1 (t0 := .int .i64 k) (t1 := .pointer (some ⟨b1, 0, none⟩)) (t2 := .pointer (some ⟨b4, 0, none⟩)) ?_
  unfold Tryd.F_types_Structs_1
  (first | refine S.ld ?_ | refine S.ldB ?_ | refine S.ce ?_ | refine S.ceB ?_)
  obtain ⟨b, off, q, capq, rfl, hcell, hq0, hqc, hf⟩ := st_at hs hk
  (first | refine s_p ?_ | refine s_c (by omega) ?_)
  (first | refine s_p ?_ | refine s_c (by omega) ?_)
  refine s_ld1 (by rw [Int.toNat_natCast]; exact S.at hcell) ?_
  (first | refine s_p ?_ | refine s_c (by omega) ?_)
  (first | refine s_p ?_ | refine s_c (by omega) ?_)
  have hlen := tysAt_len hk
  refine j_borH (c := decide (8 < (tysAt ss k).length)) (fun _ K2 hK2 => ?_) ?_
  · (first | refine s_p ?_ | refine s_c (by omega) ?_)
    (first | refine s_p ?_ | refine s_c (by omega) ?_)
    rw [show decide ((8 : Int) < (ss[k].fs.length : Int)) = decide (8 < (tysAt ss k).length) from decide_eq_decide.2 (by omega)]
    exact hK2
  refine j_borR (fun w' => StX X w0 r w' L) (c := (tysAt ss k).any fun t => !lookB ss.length 48 t || decide (0 < t.regs.length)) (fun _ => S) (fun hsm2 K2 hK2 => ?_) fun w9 S => ?_
  · have hsm2 : ss[k].fs.length ≤ 8 := by
      simp only [Bool.or_eq_false_iff, decide_eq_false_iff_not] at hsm2; omega
    (first | refine s_p ?_ | refine s_c (by omega) ?_)
    refine c_ContainsFunc_fld (g := fun t => !lookB ss.length 48 t || decide (0 < t.regs.length)) hf (by omega) (fun f hfm {c} {w7} {K} hcl hty S hK => ?_) S fun w8 S => ?_
    · refine v_f11 (by kernel_rfl) ?_
      refine Tryd.ok_types_Structs_1_1 ?_
      unfold Tryd.F_types_Structs_1_1
      refine S.box fun b2 w8 S => ?_
      have S : StX X w0 r w8 (.cell b2 (.string f.1 :: c) 101 :: L) := S
      (first | refine s_p ?_ | refine s_c (by omega) ?_)
      refine S.fty hcl ?_
      refine S.ld (b := b4) ?_ rfl
      refine c_types_look 48 (by decide) S.holds hty fun w9 e9 => ?_
      have S := S.go e9
      (first | refine s_p ?_ | refine s_c (by omega) ?_)
      refine j_borE (c := decide (0 < f.2.regs.length)) (fun hl K2 hK2 => ?_) fun w10 e10 => ?_
      · have hl : lookB ss.length 48 f.2 = true := by simpa using hl
        (first | refine s_p ?_ | refine s_c (by omega) ?_)
        refine S.fty hcl ?_
        refine c_types_regions S.holds hty (by have := look_ht hl; omega) fun v11 w11 e11 o11 => ?_
        obtain ⟨p11, cap11, rfl, _⟩ := own_shape o11
        (first | refine s_p ?_ | refine s_c (by omega) ?_)
        (first | refine s_p ?_ | refine s_c (by omega) ?_)
        rw [show decide ((f.2.regs.length : Int) > 0) = decide (0 < f.2.regs.length) from decide_eq_decide.2 (by omega)]
        exact hK2 _ e11
      exact hK _ (S.go e10).tl
    · rw [← tysAt_eq hk]
      exact hK2 _ S
  · have := h _ S
    rw [bad1] at this
    rw [show decide ((ss[k].fs.length : Int) < 1) = decide ((tysAt ss k).length < 1) from decide_eq_decide.2 (by omega)]
    exact this
theorem c_types_Structs_2 {k : Nat} (hk : k < ss.length) (h32 : ss.length ≤ 32) (h1 : ¬ fstB ss.length (bad1 ss) < ss.length) (hs : StG r p ss) (S : StX X w0 r w L) [At b1 L [.slice p ss.length cap] 50 f1] (h : ∀ w', StX X w0 r w' L → K (.bool (bad2 ss k)) w') :
    oCallV Tryd.prog (.func (.func Tryd.n_types_Structs_2) #[] #[.pointer (some ⟨b1, 0, none⟩)]) #[.int .i64 k] w K := by
  refine v_func (by kernel_rfl) ?_
  refine Tryd.ok_types_Structs_2 (t0 := .int .i64 k) (t1 := .pointer (some ⟨b1, 0, none⟩)) ?_
  unfold Tryd.F_types_Structs_2
  (first | refine S.ld ?_ | refine S.ldB ?_ | refine S.ce ?_ | refine S.ceB ?_)
  exact c_types_endless (good_of (fstB_lt h1)) h32 hk (fun k => len8_of (fstB_lt h1) k) S.holds hs fun w9 e9 => h _ (S.go e9)
theorem c_types_Structs_3 {k : Nat} (hk : k < ss.length) (h32 : ss.length ≤ 32) (h1 : ¬ fstB ss.length (bad1 ss) < ss.length) (h2 : ¬ fstB ss.length (bad2 ss) < ss.length) (hs : StG r p ss) (S : StX X w0 r w L) [At b1 L [.slice p ss.length cap] 50 f1] (h : ∀ w', StX X w0 r w' L → K (.bool (bad3 ss k)) w') :
    oCallV Tryd.prog (.func (.func Tryd.n_types_Structs_3) #[] #[.pointer (some ⟨b1, 0, none⟩)]) #[.int .i64 k] w K := by
  refine v_func (by kernel_rfl) ?_
  refine Tryd.ok_types_Structs_3 (t0 := .int .i64 k) (t1 := .pointer (some ⟨b1, 0, none⟩)) ?_
  unfold Tryd.F_types_Structs_3
  (first | refine S.ld ?_ | refine S.ldB ?_ | refine S.ce ?_ | refine S.ceB ?_)
  refine p_build (cs := #[.int .u8 5, .bool false, .int .i64 0, .int .i64 k, .slice none 0 0]) (by kernel_rfl) ?_
  have hg := good_of (fstB_lt h1)
  refine c_types_words hg (acyc_of hg (fstB_lt h2)) 40 (t := .mk 5 false 0 k []) (by decide) (by have := rk_le ss (.mk 5 false 0 k []); omega) ?_ (by omega) (fun k => len8_of (fstB_lt h1) k) S.holds hs (ty_leaf (r := r)) fun w9 e9 => ?_
  · rw [lookB_succ]
    simp [TyD.k, TyD.m, TyD.re, TyD.of, TyD.st]
    omega
  · (first | refine s_p ?_ | refine s_c (by omega) ?_)
    have := h _ (S.go e9)
    rw [bad3] at this
    rw [show decide ((((min (wF ss 40 (.mk 5 false 0 k [])) 17 : Nat) : Int)) > 16) = decide (16 < wF ss 40 (.mk 5 false 0 k [])) from decide_eq_decide.2 (by omega)]
    exact this
end
theorem c_types_Structs {ss : List StD} {p : Option Addr} {cap : Nat} {w : World} {r : Gh} {K : Value → World → Prop} (hr : Holds r w) (hs : StG r p ss)
    (h : ∀ w', Ext w w' → K (.tuple #[.int .i64 (structsT ss).1, .int .i64 (structsT ss).2]) w') : oCall Tryd.prog Tryd.n_types_Structs #[.slice p ss.length cap] w K := by
  refine Tryd.ok_types_Structs ?_
  unfold Tryd.F_types_Structs
  have S := St.start hr
  refine S.box fun b1 w1 S => ?_
  (first | refine S.ld ?_ | refine S.ldB ?_ | refine S.ce ?_ | refine S.ceB ?_)
  (first | refine s_p ?_ | refine s_c (by omega) ?_)
  refine S.al fun b4 w2 S => ?_
  refine S.st fun w3 S => ?_
  (first | refine S.ld ?_ | refine S.ldB ?_ | refine S.ce ?_ | refine S.ceB ?_)
  (first | refine s_p ?_ | refine s_c (by omega) ?_)
  refine c_b (fun hbig => ?_) (fun hsm => ?_)
  · have hbig : 32 < ss.length := by have := of_decide_eq_true hbig; omega
    rw [structsT, if_pos hbig] at h
    exact h _ S.ext
  have hsm : ¬ 32 < ss.length := by have := of_decide_eq_false hsm; omega
  rw [structsT, if_neg hsm] at h
  (first | refine s_p ?_ | refine s_c (by omega) ?_)
  (first | refine s_p ?_ | refine s_c (by omega) ?_)
  (first | refine s_p ?_ | refine s_c (by omega) ?_)
  refine S.lit (e := 82) (cs := [.func (.func Tryd.n_types_Structs_1) #[] #[.pointer (some ⟨b1, 0, none⟩), .pointer (some ⟨b4, 0, none⟩)], .func (.func Tryd.n_types_Structs_2) #[] #[.pointer (some ⟨b1, 0, none⟩)], .func (.func Tryd.n_types_Structs_3) #[] #[.pointer (some ⟨b1, 0, none⟩)]]) (by kernel_rfl) fun b16 w4 S => ?_
  (first | refine s_p ?_ | refine s_c (by omega) ?_)
  have S : StX noX w r w4 [.cell b16 [.func (.func Tryd.n_types_Structs_1) #[] #[.pointer (some ⟨b1, 0, none⟩), .pointer (some ⟨b4, 0, none⟩)], .func (.func Tryd.n_types_Structs_2) #[] #[.pointer (some ⟨b1, 0, none⟩)], .func (.func Tryd.n_types_Structs_3) #[] #[.pointer (some ⟨b1, 0, none⟩)]] 82,
    .cell b4 [.int .i64 (ss.length : Nat)] 3, .cell b1 [.slice p ss.length cap] 50] := S
  refine l_intro (ι := Nat) (fun i => [.int .i64 i]) (fun i w' => i ≤ 3 ∧ (0 < i → ¬ fstB ss.length (bad1 ss) < ss.length) ∧ (1 < i → ¬ fstB ss.length (bad2 ss) < ss.length) ∧ (2 < i → ¬ fstB ss.length (bad3 ss) < ss.length) ∧ StX noX w r w' _) (fun i => 3 - i) 0 rfl
    ⟨by decide, fun h => by omega, fun h => by omega, fun h => by omega, S⟩ ?_
  clear S
  rintro i d w5 ⟨hi, h1, h2, h3, S⟩ K6 hK6
  rw [List.getD_cons_zero]
  (first | refine s_p ?_ | refine s_c (by omega) ?_)
  match i, hi, h1, h2, h3 with
  | 0, _, _, _, _ =>
    refine c_t (by decide) ?_
    (first | refine s_p ?_ | refine s_c (by omega) ?_)
    refine S.ld (b := b16) ?_ rfl
    refine S.ld (b := b4) ?_ rfl
    refine c_types_first (q := bad1 ss) (by omega) (fun i hi {w} {K} S k => c_types_Structs_1 hi hs S k) S fun w9 S => ?_
    refine S.ld (b := b4) ?_ rfl
    (first | refine s_p ?_ | refine s_c (by omega) ?_)
    refine c_b (fun hl => ?_) (fun hl => ?_)
    · rw [if_pos (by have := of_decide_eq_true hl; omega)] at h
      exact h _ S.ext
    · (first | refine s_p ?_ | refine s_c (by omega) ?_)
      exact hK6 1 _ ⟨by decide, fun _ => by have := of_decide_eq_false hl; omega, fun h => by omega, fun h => by omega, S⟩ (by decide)
  | 1, _, h1, _, _ =>
    have h1 := h1 (by decide)
    rw [if_neg h1] at h
    refine c_t (by decide) ?_
    (first | refine s_p ?_ | refine s_c (by omega) ?_)
    refine S.ld (b := b16) ?_ rfl
    refine S.ld (b := b4) ?_ rfl
    refine c_types_first (q := bad2 ss) (by omega) (fun i hi {w} {K} S k => c_types_Structs_2 hi (by omega) h1 hs S k) S fun w9 S => ?_
    refine S.ld (b := b4) ?_ rfl
    (first | refine s_p ?_ | refine s_c (by omega) ?_)
    refine c_b (fun hl => ?_) (fun hl => ?_)
    · rw [if_pos (by have := of_decide_eq_true hl; omega)] at h
      exact h _ S.ext
    · (first | refine s_p ?_ | refine s_c (by omega) ?_)
      exact hK6 2 _ ⟨by decide, fun _ => h1, fun _ => by have := of_decide_eq_false hl; omega, fun h => by omega, S⟩ (by decide)
  | 2, _, h1, h2, _ =>
    have h1 := h1 (by decide)
    have h2 := h2 (by decide)
    rw [if_neg h1, if_neg h2] at h
    refine c_t (by decide) ?_
    (first | refine s_p ?_ | refine s_c (by omega) ?_)
    refine S.ld (b := b16) ?_ rfl
    refine S.ld (b := b4) ?_ rfl
    refine c_types_first (q := bad3 ss) (by omega) (fun i hi {w} {K} S k => c_types_Structs_3 hi (by omega) h1 h2 hs S k) S fun w9 S => ?_
    refine S.ld (b := b4) ?_ rfl
    (first | refine s_p ?_ | refine s_c (by omega) ?_)
    refine c_b (fun hl => ?_) (fun hl => ?_)
    · rw [if_pos (by have := of_decide_eq_true hl; omega)] at h
      exact h _ S.ext
    · (first | refine s_p ?_ | refine s_c (by omega) ?_)
      exact hK6 3 _ ⟨by decide, fun _ => h1, fun _ => h2, fun _ => by have := of_decide_eq_false hl; omega, S⟩ (by decide)
  | 3, _, h1, h2, h3 =>
    have h1 := h1 (by decide)
    have h2 := h2 (by decide)
    have h3 := h3 (by decide)
    rw [if_neg h1, if_neg h2, if_neg h3] at h
    refine c_f (by decide) ?_
    exact h _ S.ext
/-- may a type be among the structs? -/
noncomputable def mayB (ss : List StD) (t : TyD) : Bool := decide ((structsT ss).2 = 0) && lookB ss.length 48 t
theorem may_ok {ss : List StD} {t : TyD} (h : mayB ss t = true) : (structsT ss).2 = 0 ∧ lookB ss.length 48 t = true := by
  simpa [mayB] using h
theorem c_types_May {ss : List StD} {t : TyD} {p : Option Addr} {cap : Nat} {w : World} {r : Gh} {v : Value} {K : Value → World → Prop} (hr : Holds r w) (hs : StG r p ss) (hv : TyG r v t)
    (h : ∀ w', Ext w w' → K (.bool (mayB ss t)) w') : oCall Tryd.prog Tryd.n_types_May #[.slice p ss.length cap, v] w K := by
  refine Tryd.ok_types_May ?_
  unfold Tryd.F_types_May
  have hv0 := hv
  obtain ⟨p1, cap1, rfl, _⟩ := hv
  have S := St.start hr
  refine S.box fun b3 w1 S => ?_
  refine c_types_Structs S.holds hs fun w2 e2 => ?_
  have S := S.go e2
  (first | refine s_p ?_ | refine s_c (by omega) ?_)
  (first | refine s_p ?_ | refine s_c (by omega) ?_)
  (first | refine s_p ?_ | refine s_c (by omega) ?_)
  refine j_bandE (c := lookB ss.length 48 t) (fun _ K2 hK2 => ?_) fun w3 e3 => h _ (S.go e3).ext
  (first | refine S.ld ?_ | refine S.ldB ?_ | refine S.ce ?_ | refine S.ceB ?_)
  (first | refine s_p ?_ | refine s_c (by omega) ?_)
  exact c_types_look 48 (by decide) S.holds hv0 fun w3 e3 => hK2 _ e3
noncomputable def wordsT (ss : List StD) (t : TyD) : Int × Int := if mayB ss t then ((min (wF ss 40 t) 17 : Nat), 0) else (0, 2)
theorem c_types_Words {ss : List StD} {t : TyD} {p : Option Addr} {cap : Nat} {w : World} {r : Gh} {v : Value} {K : Value → World → Prop} (hr : Holds r w) (hs : StG r p ss) (hv : TyG r v t)
    (h : ∀ w', Ext w w' → K (.tuple #[.int .i64 (wordsT ss t).1, .int .i64 (wordsT ss t).2]) w') : oCall Tryd.prog Tryd.n_types_Words #[.slice p ss.length cap, v] w K := by
  refine Tryd.ok_types_Words ?_
  unfold Tryd.F_types_Words
  have hv0 := hv
  obtain ⟨p1, cap1, rfl, _⟩ := hv
  have S := St.start hr
  refine S.box fun b3 w1 S => ?_
  (first | refine S.ld ?_ | refine S.ldB ?_ | refine S.ce ?_ | refine S.ceB ?_)
  refine c_types_May S.holds hs hv0 fun w2 e2 => ?_
  have S := S.go e2
  (first | refine s_p ?_ | refine s_c (by omega) ?_)
  refine c_b (fun hn => ?_) (fun hn => ?_)
  · have hn : mayB ss t = false := by simpa using hn
    rw [wordsT, hn] at h
    exact h _ S.ext
  have hn : mayB ss t = true := by simpa using hn
  rw [wordsT, if_pos hn] at h
  obtain ⟨hok, hl⟩ := may_ok hn
  obtain ⟨h32, hb1, hg, hac, _, _⟩ := structs_ok hok
  (first | refine S.ld ?_ | refine S.ldB ?_ | refine S.ce ?_ | refine S.ceB ?_)
  refine c_types_words hg hac 40 (by decide) (by have := rk_le ss t; omega) hl h32 (len8_of hb1) S.holds hs hv0 fun w3 e3 => h _ (S.go e3).ext
theorem c_types_drops {ss : List StD} {p : Option Addr} {cap : Nat} (hg : Good ss) (hac : ∀ k, ¬ Rch ss k k) : ∀ (m : Nat) {t : TyD} {w : World} {r : Gh} {v : Value} {K : Value → World → Prop}, m ≤ 100 → rkT ss t ≤ m → lookB ss.length 48 t = true → ss.length ≤ 32 → (∀ k, (tysAt ss k).length ≤ 8) →
    Holds r w → StG r p ss → TyG r v t → (∀ w', Ext w w' → K (.bool (dF ss m t)) w') → oCall Tryd.prog Tryd.n_types_drops #[.slice p ss.length cap, v] w K := by
  intro m
  induction m with
  | zero =>
    intro t w r v K _ hrk hl h32 h8 hr hs hv h
    have h5 : ¬ t.k = 5 := fun h => by unfold rkT at hrk; rw [if_pos h] at hrk; omega
    refine Tryd.ok_types_drops ?_
    unfold Tryd.F_types_drops
    obtain ⟨p1, cap1, rfl, _⟩ := hv
    have S := St.start hr
    refine S.box fun b2 w1 S => ?_
    refine S.box fun b3 w2 S => ?_
    (repeat (first | refine s_p ?_ | refine s_c (by omega) ?_ | refine S.ld ?_ | refine S.ldB ?_ | refine S.ce ?_ | refine S.ceB ?_ | refine s_q ?_ | refine s_qc (by omega) ?_ | refine n_some ?_ | rw [List.getD_cons_zero] | rw [List.getD_cons_succ]))
    refine c_b (fun h3 => ?_) (fun h3 => ?_)
    · have := h _ S.ext
      rwa [dF, h3] at this
    · (repeat (first | refine s_p ?_ | refine s_c (by omega) ?_ | refine S.ld ?_ | refine S.ldB ?_ | refine S.ce ?_ | refine S.ceB ?_ | refine s_q ?_ | refine s_qc (by omega) ?_ | refine n_some ?_ | rw [List.getD_cons_zero] | rw [List.getD_cons_succ]))
      refine c_b (fun h5' => absurd (of_decide_eq_true h5') h5) (fun _ => ?_)
      have := h _ S.ext
      rwa [dF, h3] at this
  | succ m ih =>
    intro t w r v K hm hrk hl h32 h8 hr hs hv h
    refine Tryd.ok_types_drops ?_
    unfold Tryd.F_types_drops
    obtain ⟨p1, cap1, rfl, _⟩ := hv
    have S := St.start hr
    refine S.box fun b2 w1 S => ?_
    refine S.box fun b3 w2 S => ?_
    (repeat (first | refine s_p ?_ | refine s_c (by omega) ?_ | refine S.ld ?_ | refine S.ldB ?_ | refine S.ce ?_ | refine S.ceB ?_ | refine s_q ?_ | refine s_qc (by omega) ?_ | refine n_some ?_ | rw [List.getD_cons_zero] | rw [List.getD_cons_succ]))
    refine c_b (fun h3 => ?_) (fun h3 => ?_)
    · have := h _ S.ext
      have h3' := of_decide_eq_true h3
      rwa [dF, if_neg (by omega), h3] at this
    (repeat (first | refine s_p ?_ | refine s_c (by omega) ?_ | refine S.ld ?_ | refine S.ldB ?_ | refine S.ce ?_ | refine S.ceB ?_ | refine s_q ?_ | refine s_qc (by omega) ?_ | refine n_some ?_ | rw [List.getD_cons_zero] | rw [List.getD_cons_succ]))
    refine c_b (fun h5 => ?_) (fun h5 => ?_)
    · have h5 : t.k = 5 := of_decide_eq_true h5
      obtain ⟨hst0, hst1, _⟩ := look_st hl h5
      have hlt : t.st.toNat < ss.length := by omega
      obtain ⟨b, off, q, capq, rfl, hcell, _, _, hf⟩ := st_at hs hlt
      (repeat (first | refine s_p ?_ | refine s_c (by omega) ?_ | refine S.ld ?_ | refine S.ldB ?_ | refine S.ce ?_ | refine S.ceB ?_ | refine s_q ?_ | refine s_qc (by omega) ?_ | refine n_some ?_ | rw [List.getD_cons_zero] | rw [List.getD_cons_succ]))
      refine s_ld1 (S.at hcell) ?_
      have htl : tysAt ss t.st = ss[t.st.toNat].fs.map (·.2) := by
        rw [← tysAt_eq hlt]; simp only [tysAt, Int.toNat_natCast]
      have hlen : (tysAt ss t.st).length = ss[t.st.toNat].fs.length := by rw [htl, List.length_map]
      have h88 := h8 t.st
      (first | refine s_p ?_ | refine s_c (by omega) ?_)
      refine c_ContainsFunc_fld (g := dF ss m) hf (by omega) (fun f hfm {c} {w7} {K} hcl hty S hK => ?_) S fun w8 S => ?_
      · refine v_f11 (by kernel_rfl) ?_
        refine Tryd.ok_types_drops_1 ?_
        unfold Tryd.F_types_drops_1
        refine S.box fun b4 w8 S => ?_
        have S : StX noX w r w8 (.cell b4 (.string f.1 :: c) 101 :: _) := S
        refine S.ld (b := b2) ?_ rfl
        (first | refine s_p ?_ | refine s_c (by omega) ?_)
        refine S.fty hcl ?_
        have hmem : f.2 ∈ tysAt ss t.st := by rw [htl]; exact List.mem_map.2 ⟨f, hfm, rfl⟩
        have hrk2 := rk_lt hg hac h5 hmem
        exact ih (by omega) (by omega) (hg _ _ hmem) h32 h8 S.holds hs hty fun w5 e5 => hK _ (S.go e5).tl
      · rw [dF, if_pos h5, htl] at h
        exact h _ S.ext
    · have := h _ S.ext
      rwa [dF, if_neg (of_decide_eq_false h5), h3] at this
noncomputable def dropsT (ss : List StD) (t : TyD) : Bool × Int := if mayB ss t then (dF ss 40 t, 0) else (false, 2)
theorem c_types_Drops {ss : List StD} {t : TyD} {p : Option Addr} {cap : Nat} {w : World} {r : Gh} {v : Value} {K : Value → World → Prop} (hr : Holds r w) (hs : StG r p ss) (hv : TyG r v t)
    (h : ∀ w', Ext w w' → K (.tuple #[.bool (dropsT ss t).1, .int .i64 (dropsT ss t).2]) w') : oCall Tryd.prog Tryd.n_types_Drops #[.slice p ss.length cap, v] w K := by
  refine Tryd.ok_types_Drops ?_
  unfold Tryd.F_types_Drops
  have hv0 := hv
  obtain ⟨p1, cap1, rfl, _⟩ := hv
  have S := St.start hr
  refine S.box fun b3 w1 S => ?_
  (first | refine S.ld ?_ | refine S.ldB ?_ | refine S.ce ?_ | refine S.ceB ?_)
  refine c_types_May S.holds hs hv0 fun w2 e2 => ?_
  have S := S.go e2
  (first | refine s_p ?_ | refine s_c (by omega) ?_)
  refine c_b (fun hn => ?_) (fun hn => ?_)
  · have hn : mayB ss t = false := by simpa using hn
    rw [dropsT, hn] at h
    exact h _ S.ext
  have hn : mayB ss t = true := by simpa using hn
  rw [dropsT, if_pos hn] at h
  obtain ⟨hok, hl⟩ := may_ok hn
  obtain ⟨h32, hb1, hg, hac, _, _⟩ := structs_ok hok
  (first | refine S.ld ?_ | refine S.ldB ?_ | refine S.ce ?_ | refine S.ceB ?_)
  refine c_types_drops hg hac 40 (by decide) (by have := rk_le ss t; omega) hl h32 (len8_of hb1) S.holds hs hv0 fun w3 e3 => h _ (S.go e3).ext
end Go.Proofs
end

section
namespace Go.Proofs
open Go.Sh
set_option maxRecDepth 100000
set_option linter.unusedSimpArgs false
set_option linter.unusedVariables false
theorem plain_eq {s : Int} {n : Nat} {t : TyD} (h : lookB s (n + 1) t = true) : (decide (t.regs.length = 0)) = (decide (t.k ≠ 4) && (decide (t.k ≠ 3) || (match t.of with | u :: _ => decide (u.regs.length = 0) | [] => false))) := by
  rcases look_cases h with ⟨ho, hk⟩ | ⟨u, ho, _, hk⟩
  · rw [regs_nil ho, if_neg (by omega)]
    have h3 : t.k ≠ 3 := by omega
    have h4 : t.k ≠ 4 := by omega
    simp [h3, h4]
  · rw [regs_one ho, ho]
    by_cases h4 : t.k = 4
    · simp [h4]
    · have h3 : t.k = 3 := by omega
      simp [h3]
theorem c_ref06_plain {s : Int} : ∀ (n : Nat) {t : TyD} {w : World} {r : Gh} {v : Value} {K : Value → World → Prop}, n ≤ 1000 → lookB s n t = true → Holds r w → TyG r v t →
    (∀ w', Ext w w' → K (.bool (decide (t.regs.length = 0))) w') → oCall Tryd.prog Tryd.n_ref06_plain #[v] w K := by
  intro n
  induction n with
  | zero => intro t w r v K _ h; cases h
  | succ n ih =>
    intro t w r v K hn hl hr hv h
    refine Tryd.ok_ref06_plain ?_
    unfold Tryd.F_ref06_plain
    obtain ⟨p1, cap1, rfl, _, _, hof⟩ := hv
    have S := St.start hr
    refine S.box fun b1 w1 S => ?_
    (repeat (first | refine s_p ?_ | refine s_c (by omega) ?_ | refine S.ld ?_ | refine S.ldB ?_ | refine S.ce ?_ | refine S.ceB ?_ | refine s_q ?_ | refine s_qc (by omega) ?_ | refine n_some ?_ | rw [List.getD_cons_zero] | rw [List.getD_cons_succ]))
    have hpl := plain_eq hl
    refine j_intro (fun s w' => s = (if t.k ≠ 4 then [.bool (decide (t.k ≠ 3))] else [undef]) ∧ w' = w1) (fun K2 hK2 => ?_) ?_
    · by_cases h4 : t.k = 4
      · rw [decide_eq_false (by simpa using h4)]
        (repeat (first | (first | refine s_p ?_ | refine s_c (by omega) ?_ | refine S.ld ?_ | refine S.ldB ?_ | refine S.ce ?_ | refine S.ceB ?_ | refine s_q ?_ | refine s_qc (by omega) ?_ | refine n_some ?_ | rw [List.getD_cons_zero] | rw [List.getD_cons_succ]) | refine g_TT ?_ | refine g_FF ?_ | refine g_TF ?_ | refine g_FT ?_ | refine g_UU ?_ | refine k_pickT ?_ | refine k_pickF ?_))
        exact hK2 _ _ ⟨by rw [if_neg (by simpa using h4)], rfl⟩
      · rw [decide_eq_true (by simpa using h4)]
        refine g_TT ?_
        (repeat (first | refine s_p ?_ | refine s_c (by omega) ?_ | refine S.ld ?_ | refine S.ldB ?_ | refine S.ce ?_ | refine S.ceB ?_ | refine s_q ?_ | refine s_qc (by omega) ?_ | refine n_some ?_ | rw [List.getD_cons_zero] | rw [List.getD_cons_succ]))
        exact hK2 _ _ ⟨by rw [if_pos h4], rfl⟩
    rintro _ w1 ⟨rfl, rfl⟩ d
    by_cases h4 : t.k = 4
    · rw [if_neg (by simpa using h4)]
      rw [show decide (t.k ≠ 4) = false by simp [h4]]
      refine j_intro (fun s w' => s = [undef] ∧ w' = w1) (fun K2 hK2 => ?_) ?_
      · (repeat (first | (first | refine s_p ?_ | refine s_c (by omega) ?_ | refine S.ld ?_ | refine S.ldB ?_ | refine S.ce ?_ | refine S.ceB ?_ | refine s_q ?_ | refine s_qc (by omega) ?_ | refine n_some ?_ | rw [List.getD_cons_zero] | rw [List.getD_cons_succ]) | refine g_TT ?_ | refine g_FF ?_ | refine g_TF ?_ | refine g_FT ?_ | refine g_UU ?_ | refine k_pickT ?_ | refine k_pickF ?_))
        exact hK2 _ _ ⟨rfl, rfl⟩
      rintro _ w1 ⟨rfl, rfl⟩ d
      refine j_intro (fun s w' => s = [undef] ∧ w' = w1) (fun K2 hK2 => ?_) ?_
      · (repeat (first | (first | refine s_p ?_ | refine s_c (by omega) ?_ | refine S.ld ?_ | refine S.ldB ?_ | refine S.ce ?_ | refine S.ceB ?_ | refine s_q ?_ | refine s_qc (by omega) ?_ | refine n_some ?_ | rw [List.getD_cons_zero] | rw [List.getD_cons_succ]) | refine g_TT ?_ | refine g_FF ?_ | refine g_TF ?_ | refine g_FT ?_ | refine g_UU ?_ | refine k_pickT ?_ | refine k_pickF ?_))
        exact hK2 _ _ ⟨rfl, rfl⟩
      rintro _ w1 ⟨rfl, rfl⟩ d
      refine k_pickF ?_
      have := h _ S.ext
      rw [hpl] at this
      simpa [h4] using this
    · rw [if_pos h4, show decide (t.k ≠ 4) = true by simp [h4], List.getD_cons_zero]
      refine j_intro (fun s w' => s = [if t.k ≠ 3 then undef else .bool (decide (t.regs.length = 0))] ∧ Ext w1 w') (fun K2 hK2 => ?_) ?_
      · by_cases h3 : t.k = 3
        · rw [decide_eq_false (by simpa using h3)]
          refine g_FF ?_
          (repeat (first | refine s_p ?_ | refine s_c (by omega) ?_ | refine S.ld ?_ | refine S.ldB ?_ | refine S.ce ?_ | refine S.ceB ?_ | refine s_q ?_ | refine s_qc (by omega) ?_ | refine n_some ?_ | rw [List.getD_cons_zero] | rw [List.getD_cons_succ]))
          rcases look_cases hl with ⟨_, hk⟩ | ⟨u, ho, hu, _⟩
          · omega
          have hlen : t.of.length = 1 := by rw [ho]; rfl
          obtain ⟨ba, oa, rfl, c, hc, hcell, ht⟩ := NdG.of hof (i := 0) (by omega)
          have ht : TyG r (.agg c.toArray) u := by simpa [ho] using ht
          (repeat (first | refine s_p ?_ | refine s_c (by omega) ?_ | refine S.ld ?_ | refine S.ldB ?_ | refine S.ce ?_ | refine S.ceB ?_ | refine s_q ?_ | refine s_qc (by omega) ?_ | refine n_some ?_ | rw [List.getD_cons_zero] | rw [List.getD_cons_succ]))
          refine s_ldN (n := 5) hc (fun j v hj => by simpa using S.at (hcell j v hj)) ?_
          refine ih (by omega) hu S.holds ht fun w2 e2 => hK2 _ _ ⟨?_, e2⟩
          rw [if_neg (by simpa using h3), hpl, ho]
          simp [h3]
        · rw [decide_eq_true (by simpa using h3)]
          refine g_TF ?_
          exact hK2 _ _ ⟨by rw [if_pos h3], .refl _⟩
      rintro _ w2 ⟨rfl, e2⟩ d
      have S := S.go e2
      refine j_intro (fun s w' => s = [.bool (decide (t.regs.length = 0))] ∧ w' = w2) (fun K2 hK2 => ?_) ?_
      · refine g_TT ?_
        refine ⟨_, rfl, ?_⟩
        refine hK2 _ _ ⟨?_, rfl⟩
        by_cases h3 : t.k = 3
        · simp [h3]
        · rw [show decide (t.k ≠ 3) = true by simp [h3], hpl]; simp [h3, h4]
      rintro _ w3 ⟨rfl, rfl⟩ d
      refine k_pickT ?_
      exact h _ S.ext
theorem c_ref06_words {ss : List StD} {p : Option Addr} {cap : Nat} (hg : Good ss) (hac : ∀ k, ¬ Rch ss k k) : ∀ (m : Nat) {t : TyD} {most : Nat} {w : World} {r : Gh} {v : Value} {K : Value → World → Prop}, m ≤ 100 → most ≤ 100 → rkT ss t ≤ m → lookB ss.length 48 t = true → ss.length ≤ 32 → (∀ k, (tysAt ss k).length ≤ 8) →
    Holds r w → StG r p ss → TyG r v t → (∀ w', Ext w w' → K (.int .i64 (min (wF ss m t) (most + 1) : Nat)) w') → oCall Tryd.prog Tryd.n_ref06_words #[.slice p ss.length cap, v, .int .i64 (most : Nat)] w K := by
  intro m
  induction m with
  | zero =>
    intro t most w r v K _ hmost hrk hl h32 h8 hr hs hv h
    have h5 : ¬ t.k = 5 := fun h => by unfold rkT at hrk; rw [if_pos h] at hrk; omega
    refine Tryd.ok_ref06_words ?_
    unfold Tryd.F_ref06_words
    obtain ⟨p1, cap1, rfl, _⟩ := hv
    have S := St.start hr
    refine S.box fun b3 w1 S => ?_
    (repeat (first | refine s_p ?_ | refine s_c (by omega) ?_ | refine S.ld ?_ | refine S.ldB ?_ | refine S.ce ?_ | refine S.ceB ?_ | refine s_q ?_ | refine s_qc (by omega) ?_ | refine n_some ?_ | rw [List.getD_cons_zero] | rw [List.getD_cons_succ]))
    refine c_if (fun _ => ?_) (fun hn => absurd (by omega) h5)
    have := h _ S.ext
    rw [wF, show min 1 (most + 1) = 1 by omega] at this
    exact this
  | succ m ih =>
    intro t most w r v K hm hmost hrk hl h32 h8 hr hs hv h
    refine Tryd.ok_ref06_words ?_
    unfold Tryd.F_ref06_words
    obtain ⟨p1, cap1, rfl, _⟩ := hv
    have S := St.start hr
    refine S.box fun b3 w1 S => ?_
    (repeat (first | refine s_p ?_ | refine s_c (by omega) ?_ | refine S.ld ?_ | refine S.ldB ?_ | refine S.ce ?_ | refine S.ceB ?_ | refine s_q ?_ | refine s_qc (by omega) ?_ | refine n_some ?_ | rw [List.getD_cons_zero] | rw [List.getD_cons_succ]))
    refine c_if (fun hn => ?_) (fun h5 => ?_)
    · have := h _ S.ext
      rw [wF, if_neg (by omega), show min 1 (most + 1) = 1 by omega] at this
      exact this
    have h5 : t.k = 5 := by omega
    obtain ⟨hst0, hst1, _⟩ := look_st hl h5
    have hlt : t.st.toNat < ss.length := by omega
    obtain ⟨b, off, q, capq, rfl, hcell, _, _, hf⟩ := st_at hs hlt
    (repeat (first | refine s_p ?_ | refine s_c (by omega) ?_ | refine S.ld ?_ | refine S.ldB ?_ | refine S.ce ?_ | refine S.ceB ?_ | refine s_q ?_ | refine s_qc (by omega) ?_ | refine n_some ?_ | rw [List.getD_cons_zero] | rw [List.getD_cons_succ]))
    refine s_ld1 (S.at hcell) ?_
    have htl : tysAt ss t.st = ss[t.st.toNat].fs.map (·.2) := by
      rw [← tysAt_eq hlt]; simp only [tysAt, Int.toNat_natCast]
    have hlen : (tysAt ss t.st).length = ss[t.st.toNat].fs.length := by rw [htl, List.length_map]
    have h88 := h8 t.st
    refine l_intro (ι := Nat) (fun i => [.int .i64 (min (wsum (((tysAt ss t.st).take i).map (wF ss m))) (most + 1) : Nat), .int .i64 i]) (fun i w' => i ≤ (tysAt ss t.st).length ∧ St w r w' _)
      (fun i => (tysAt ss t.st).length - i) 0 (by simp [wsum]) ⟨Nat.zero_le _, S⟩ ?_
    clear S
    rintro i d w2 ⟨hi, S⟩ K6 hK6
    rw [List.getD_cons_zero, List.getD_cons_succ, List.getD_cons_zero]
    (first | refine s_p ?_ | refine s_c (by omega) ?_)
    (first | refine s_p ?_ | refine s_c (by omega) ?_)
    have hle : wsum (((tysAt ss t.st).take i).map (wF ss m)) ≤ wF ss (m + 1) t := by
      rw [wF, if_pos h5]; exact wsum_le _ _ _
    refine j_bandH (c := decide (wsum (((tysAt ss t.st).take i).map (wF ss m)) ≤ most)) (fun _ K2 hK2 => ?_) ?_
    · (first | refine s_p ?_ | refine s_c (by omega) ?_)
      rw [show decide (((min (wsum (((tysAt ss t.st).take i).map (wF ss m))) (most + 1) : Nat) : Int) ≤ (most : Int)) = decide (wsum (((tysAt ss t.st).take i).map (wF ss m)) ≤ most) from decide_eq_decide.2 (by omega)]
      exact hK2
    refine c_b (fun hlt2 => ?_) (fun hge => ?_)
    · obtain ⟨hlt2, hsm⟩ : i < ss[t.st.toNat].fs.length ∧ wsum (((tysAt ss t.st).take i).map (wF ss m)) ≤ most := by
        simp only [Bool.and_eq_true, decide_eq_true_eq] at hlt2; omega
      have hlt3 : i < (tysAt ss t.st).length := by omega
      obtain ⟨b2, off2, c, rfl, hcl, hcc, hty⟩ := fl_at hf hlt2
      (first | refine s_p ?_ | refine s_c (by omega) ?_)
      (first | refine s_p ?_ | refine s_c (by omega) ?_)
      refine s_ldN (n := 5) (c := c) hcl (fun j v hj => by
        have := S.at (hcc (j + 1) v (by simpa using hj))
        rw [Int.toNat_natCast, Nat.add_assoc _ 1 j, Nat.add_comm 1 j]; exact this) ?_
      have hel : (tysAt ss t.st)[i] = ss[t.st.toNat].fs[i].2 := by simp only [htl, List.getElem_map]
      have hmem : ss[t.st.toNat].fs[i].2 ∈ tysAt ss t.st := by rw [← hel]; exact List.getElem_mem hlt3
      have hrk2 := rk_lt hg hac h5 hmem
      (first | refine s_p ?_ | refine s_c (by omega) ?_)
      have e1 : (most : Int) - ((min (wsum (((tysAt ss t.st).take i).map (wF ss m))) (most + 1) : Nat) : Int) = ((most - wsum (((tysAt ss t.st).take i).map (wF ss m)) : Nat) : Int) := by omega
      rw [e1]
      refine ih (by omega) (by omega) (by omega) (hg _ _ hmem) h32 h8 S.holds hs hty fun w5 e5 => ?_
      have S := S.go e5
      have hst := wsum_take (wF ss m) hlt3
      rw [hel] at hst
      (first | refine s_p ?_ | refine s_c (by omega) ?_)
      (first | refine s_p ?_ | refine s_c (by omega) ?_)
      have e2 : ((min (wsum (((tysAt ss t.st).take i).map (wF ss m))) (most + 1) : Nat) : Int) + ((min (wF ss m ss[t.st.toNat].fs[i].2) (most - wsum (((tysAt ss t.st).take i).map (wF ss m)) + 1) : Nat) : Int) = ((min (wsum (((tysAt ss t.st).take (i + 1)).map (wF ss m))) (most + 1) : Nat) : Int) := by omega
      rw [e2, show ((i : Int) + 1) = ((i + 1 : Nat) : Int) by omega]
      exact hK6 (i + 1) _ ⟨hlt3, S⟩ (by omega)
    · have := h _ S.ext
      have e : min (wF ss (m + 1) t) (most + 1) = min (wsum (((tysAt ss t.st).take i).map (wF ss m))) (most + 1) := by
        by_cases hie : i = (tysAt ss t.st).length
        · rw [hie, List.take_length, wF, if_pos h5]
        · have h1 : ¬ wsum (((tysAt ss t.st).take i).map (wF ss m)) ≤ most := by
            intro hc
            rw [decide_eq_true hc, Bool.and_true, decide_eq_false_iff_not] at hge
            omega
          omega
      rw [e] at this
      exact this
theorem c_ref06_drops {ss : List StD} {p : Option Addr} {cap : Nat} (hg : Good ss) (hac : ∀ k, ¬ Rch ss k k) : ∀ (m : Nat) {t : TyD} {w : World} {r : Gh} {v : Value} {K : Value → World → Prop}, m ≤ 100 → rkT ss t ≤ m → lookB ss.length 48 t = true → ss.length ≤ 32 → (∀ k, (tysAt ss k).length ≤ 8) →
    Holds r w → StG r p ss → TyG r v t → (∀ w', Ext w w' → K (.bool (dF ss m t)) w') → oCall Tryd.prog Tryd.n_ref06_drops #[.slice p ss.length cap, v] w K := by
  intro m
  induction m with
  | zero =>
    intro t w r v K _ hrk hl h32 h8 hr hs hv h
    have h5 : ¬ t.k = 5 := fun h => by unfold rkT at hrk; rw [if_pos h] at hrk; omega
    refine Tryd.ok_ref06_drops ?_
    unfold Tryd.F_ref06_drops
    obtain ⟨p1, cap1, rfl, _⟩ := hv
    have S := St.start hr
    refine S.box fun b3 w1 S => ?_
    (repeat (first | refine s_p ?_ | refine s_c (by omega) ?_ | refine S.ld ?_ | refine S.ldB ?_ | refine S.ce ?_ | refine S.ceB ?_ | refine s_q ?_ | refine s_qc (by omega) ?_ | refine n_some ?_ | rw [List.getD_cons_zero] | rw [List.getD_cons_succ]))
    refine c_if (fun _ => ?_) (fun hn => absurd (by omega) h5)
    (repeat (first | refine s_p ?_ | refine s_c (by omega) ?_ | refine S.ld ?_ | refine S.ldB ?_ | refine S.ce ?_ | refine S.ceB ?_ | refine s_q ?_ | refine s_qc (by omega) ?_ | refine n_some ?_ | rw [List.getD_cons_zero] | rw [List.getD_cons_succ]))
    exact h _ S.ext
  | succ m ih =>
    intro t w r v K hm hrk hl h32 h8 hr hs hv h
    refine Tryd.ok_ref06_drops ?_
    unfold Tryd.F_ref06_drops
    obtain ⟨p1, cap1, rfl, _⟩ := hv
    have S := St.start hr
    refine S.box fun b3 w1 S => ?_
    (repeat (first | refine s_p ?_ | refine s_c (by omega) ?_ | refine S.ld ?_ | refine S.ldB ?_ | refine S.ce ?_ | refine S.ceB ?_ | refine s_q ?_ | refine s_qc (by omega) ?_ | refine n_some ?_ | rw [List.getD_cons_zero] | rw [List.getD_cons_succ]))
    refine c_if (fun hn => ?_) (fun h5 => ?_)
    · (repeat (first | refine s_p ?_ | refine s_c (by omega) ?_ | refine S.ld ?_ | refine S.ldB ?_ | refine S.ce ?_ | refine S.ceB ?_ | refine s_q ?_ | refine s_qc (by omega) ?_ | refine n_some ?_ | rw [List.getD_cons_zero] | rw [List.getD_cons_succ]))
      have := h _ S.ext
      rw [dF, if_neg (by omega)] at this
      exact this
    have h5 : t.k = 5 := by omega
    obtain ⟨hst0, hst1, _⟩ := look_st hl h5
    have hlt : t.st.toNat < ss.length := by omega
    obtain ⟨b, off, q, capq, rfl, hcell, _, _, hf⟩ := st_at hs hlt
    (repeat (first | refine s_p ?_ | refine s_c (by omega) ?_ | refine S.ld ?_ | refine S.ldB ?_ | refine S.ce ?_ | refine S.ceB ?_ | refine s_q ?_ | refine s_qc (by omega) ?_ | refine n_some ?_ | rw [List.getD_cons_zero] | rw [List.getD_cons_succ]))
    refine s_ld1 (S.at hcell) ?_
    have htl : tysAt ss t.st = ss[t.st.toNat].fs.map (·.2) := by
      rw [← tysAt_eq hlt]; simp only [tysAt, Int.toNat_natCast]
    have hlen : (tysAt ss t.st).length = ss[t.st.toNat].fs.length := by rw [htl, List.length_map]
    have h88 := h8 t.st
    rw [dF, if_pos h5] at h
    refine l_intro (ι := Nat) (fun i => [.int .i64 i]) (fun i w' => i ≤ (tysAt ss t.st).length ∧ ((tysAt ss t.st).take i).any (dF ss m) = false ∧ St w r w' _)
      (fun i => (tysAt ss t.st).length - i) 0 rfl ⟨Nat.zero_le _, by simp, S⟩ ?_
    clear S
    rintro i d w2 ⟨hi, hno, S⟩ K6 hK6
    rw [List.getD_cons_zero]
    (first | refine s_p ?_ | refine s_c (by omega) ?_)
    (first | refine s_p ?_ | refine s_c (by omega) ?_)
    refine c_b (fun hlt2 => ?_) (fun hge => ?_)
    · have hlt2 : i < ss[t.st.toNat].fs.length := by simpa using hlt2
      have hlt3 : i < (tysAt ss t.st).length := by omega
      obtain ⟨b2, off2, c, rfl, hcl, hcc, hty⟩ := fl_at hf hlt2
      (first | refine s_p ?_ | refine s_c (by omega) ?_)
      (first | refine s_p ?_ | refine s_c (by omega) ?_)
      refine s_ldN (n := 5) (c := c) hcl (fun j v hj => by
        have := S.at (hcc (j + 1) v (by simpa using hj))
        rw [Int.toNat_natCast, Nat.add_assoc _ 1 j, Nat.add_comm 1 j]; exact this) ?_
      have hel : (tysAt ss t.st)[i] = ss[t.st.toNat].fs[i].2 := by simp only [htl, List.getElem_map]
      have hmem : ss[t.st.toNat].fs[i].2 ∈ tysAt ss t.st := by rw [← hel]; exact List.getElem_mem hlt3
      have hrk2 := rk_lt hg hac h5 hmem
      refine ih (by omega) (by omega) (hg _ _ hmem) h32 h8 S.holds hs hty fun w5 e5 => ?_
      have S := S.go e5
      refine c_b (fun hy => ?_) (fun hn => ?_)
      · have := h _ S.ext
        rwa [List.any_eq_true.2 ⟨_, hmem, hy⟩] at this
      · (first | refine s_p ?_ | refine s_c (by omega) ?_)
        rw [show ((i : Int) + 1) = ((i + 1 : Nat) : Int) by omega]
        refine hK6 (i + 1) _ ⟨hlt3, ?_, S⟩ (by omega)
        rw [List.take_succ_eq_append_getElem hlt3, List.any_append, hno, hel]
        simp [hn]
    · have hie : i = (tysAt ss t.st).length := by
        have : ¬ i < ss[t.st.toNat].fs.length := by simpa using hge
        omega
      rw [hie, List.take_length] at hno
      have := h _ S.ext
      rwa [hno] at this
theorem c_ref06_Copies {t : TyD} {w : World} {r : Gh} {v : Value} {K : Value → World → Prop} (hr : Holds r w) (hv : TyG r v t) (h : ∀ w', Ext w w' → K (.bool (copiesB t)) w') : oCall Tryd.prog Tryd.n_ref06_Copies #[v] w K := by
  refine Tryd.ok_ref06_Copies ?_
  unfold Tryd.F_ref06_Copies
  have hv0 := hv
  obtain ⟨p1, cap1, rfl, _⟩ := hv
  have S := St.start hr
  refine S.box fun b1 w1 S => ?_
  (first | refine S.ld ?_ | refine S.ldB ?_ | refine S.ce ?_ | refine S.ceB ?_)
  refine c_ref06_Is S.holds hv0 fun w2 e2 => ?_
  have S := S.go e2
  have := h _ S.ext
  rw [copiesB] at this
  cases hB : isB t
  · rw [hB, Bool.false_and] at this
    (intro K9 hK9; (repeat (first | (first | refine s_p ?_ | refine s_c (by omega) ?_ | refine S.ld ?_ | refine S.ldB ?_ | refine S.ce ?_ | refine S.ceB ?_ | refine s_q ?_ | refine s_qc (by omega) ?_ | refine n_some ?_ | rw [List.getD_cons_zero] | rw [List.getD_cons_succ]) | refine g_TT ?_ | refine g_FF ?_ | refine g_TF ?_ | refine g_FT ?_ | refine g_UU ?_ | refine k_pickT ?_ | refine k_pickF ?_)); refine hK9 _ _ fun _ => ?_; clear hK9 K9)
    (intro K9 hK9; (repeat (first | (first | refine s_p ?_ | refine s_c (by omega) ?_ | refine S.ld ?_ | refine S.ldB ?_ | refine S.ce ?_ | refine S.ceB ?_ | refine s_q ?_ | refine s_qc (by omega) ?_ | refine n_some ?_ | rw [List.getD_cons_zero] | rw [List.getD_cons_succ]) | refine g_TT ?_ | refine g_FF ?_ | refine g_TF ?_ | refine g_FT ?_ | refine g_UU ?_ | refine k_pickT ?_ | refine k_pickF ?_)); refine hK9 _ _ fun _ => ?_; clear hK9 K9)
    (intro K9 hK9; (repeat (first | (first | refine s_p ?_ | refine s_c (by omega) ?_ | refine S.ld ?_ | refine S.ldB ?_ | refine S.ce ?_ | refine S.ceB ?_ | refine s_q ?_ | refine s_qc (by omega) ?_ | refine n_some ?_ | rw [List.getD_cons_zero] | rw [List.getD_cons_succ]) | refine g_TT ?_ | refine g_FF ?_ | refine g_TF ?_ | refine g_FT ?_ | refine g_UU ?_ | refine k_pickT ?_ | refine k_pickF ?_)); refine hK9 _ _ fun _ => ?_; clear hK9 K9)
    (intro K9 hK9; (repeat (first | (first | refine s_p ?_ | refine s_c (by omega) ?_ | refine S.ld ?_ | refine S.ldB ?_ | refine S.ce ?_ | refine S.ceB ?_ | refine s_q ?_ | refine s_qc (by omega) ?_ | refine n_some ?_ | rw [List.getD_cons_zero] | rw [List.getD_cons_succ]) | refine g_TT ?_ | refine g_FF ?_ | refine g_TF ?_ | refine g_FT ?_ | refine g_UU ?_ | refine k_pickT ?_ | refine k_pickF ?_)); refine hK9 _ _ fun _ => ?_; clear hK9 K9)
    (intro K9 hK9; (repeat (first | (first | refine s_p ?_ | refine s_c (by omega) ?_ | refine S.ld ?_ | refine S.ldB ?_ | refine S.ce ?_ | refine S.ceB ?_ | refine s_q ?_ | refine s_qc (by omega) ?_ | refine n_some ?_ | rw [List.getD_cons_zero] | rw [List.getD_cons_succ]) | refine g_TT ?_ | refine g_FF ?_ | refine g_TF ?_ | refine g_FT ?_ | refine g_UU ?_ | refine k_pickT ?_ | refine k_pickF ?_)); refine hK9 _ _ fun _ => ?_; clear hK9 K9)
    (intro K9 hK9; (repeat (first | (first | refine s_p ?_ | refine s_c (by omega) ?_ | refine S.ld ?_ | refine S.ldB ?_ | refine S.ce ?_ | refine S.ceB ?_ | refine s_q ?_ | refine s_qc (by omega) ?_ | refine n_some ?_ | rw [List.getD_cons_zero] | rw [List.getD_cons_succ]) | refine g_TT ?_ | refine g_FF ?_ | refine g_TF ?_ | refine g_FT ?_ | refine g_UU ?_ | refine k_pickT ?_ | refine k_pickF ?_)); refine hK9 _ _ fun _ => ?_; clear hK9 K9)
    (intro K9 hK9; (repeat (first | (first | refine s_p ?_ | refine s_c (by omega) ?_ | refine S.ld ?_ | refine S.ldB ?_ | refine S.ce ?_ | refine S.ceB ?_ | refine s_q ?_ | refine s_qc (by omega) ?_ | refine n_some ?_ | rw [List.getD_cons_zero] | rw [List.getD_cons_succ]) | refine g_TT ?_ | refine g_FF ?_ | refine g_TF ?_ | refine g_FT ?_ | refine g_UU ?_ | refine k_pickT ?_ | refine k_pickF ?_)); refine hK9 _ _ fun _ => ?_; clear hK9 K9)
    (repeat (first | (first | refine s_p ?_ | refine s_c (by omega) ?_ | refine S.ld ?_ | refine S.ldB ?_ | refine S.ce ?_ | refine S.ceB ?_ | refine s_q ?_ | refine s_qc (by omega) ?_ | refine n_some ?_ | rw [List.getD_cons_zero] | rw [List.getD_cons_succ]) | refine g_TT ?_ | refine g_FF ?_ | refine g_TF ?_ | refine g_FT ?_ | refine g_UU ?_ | refine k_pickT ?_ | refine k_pickF ?_))
    exact this
  · rw [hB, Bool.true_and] at this
    cases h1 : decide (t.k = 1)
    · cases h2 : decide (t.k = 2)
      · cases h4 : decide (t.k = 4)
        · rw [h1, h2, h4] at this
          intro K9 hK9; refine g_TT ?_; (repeat (first | refine s_p ?_ | refine s_c (by omega) ?_ | refine S.ld ?_ | refine S.ldB ?_ | refine S.ce ?_ | refine S.ceB ?_ | refine s_q ?_ | refine s_qc (by omega) ?_ | refine n_some ?_ | rw [List.getD_cons_zero] | rw [List.getD_cons_succ])); rw [h1]; refine hK9 _ _ fun _ => ?_; clear hK9 K9
          intro K9 hK9; refine g_FF ?_; (repeat (first | refine s_p ?_ | refine s_c (by omega) ?_ | refine S.ld ?_ | refine S.ldB ?_ | refine S.ce ?_ | refine S.ceB ?_ | refine s_q ?_ | refine s_qc (by omega) ?_ | refine n_some ?_ | rw [List.getD_cons_zero] | rw [List.getD_cons_succ])); rw [h2]; refine hK9 _ _ fun _ => ?_; clear hK9 K9
          (intro K9 hK9; (repeat (first | (first | refine s_p ?_ | refine s_c (by omega) ?_ | refine S.ld ?_ | refine S.ldB ?_ | refine S.ce ?_ | refine S.ceB ?_ | refine s_q ?_ | refine s_qc (by omega) ?_ | refine n_some ?_ | rw [List.getD_cons_zero] | rw [List.getD_cons_succ]) | refine g_TT ?_ | refine g_FF ?_ | refine g_TF ?_ | refine g_FT ?_ | refine g_UU ?_ | refine k_pickT ?_ | refine k_pickF ?_)); refine hK9 _ _ fun _ => ?_; clear hK9 K9)
          intro K9 hK9; refine g_FF ?_; (repeat (first | refine s_p ?_ | refine s_c (by omega) ?_ | refine S.ld ?_ | refine S.ldB ?_ | refine S.ce ?_ | refine S.ceB ?_ | refine s_q ?_ | refine s_qc (by omega) ?_ | refine n_some ?_ | rw [List.getD_cons_zero] | rw [List.getD_cons_succ])); rw [h4]; refine hK9 _ _ fun _ => ?_; clear hK9 K9
          (intro K9 hK9; (repeat (first | (first | refine s_p ?_ | refine s_c (by omega) ?_ | refine S.ld ?_ | refine S.ldB ?_ | refine S.ce ?_ | refine S.ceB ?_ | refine s_q ?_ | refine s_qc (by omega) ?_ | refine n_some ?_ | rw [List.getD_cons_zero] | rw [List.getD_cons_succ]) | refine g_TT ?_ | refine g_FF ?_ | refine g_TF ?_ | refine g_FT ?_ | refine g_UU ?_ | refine k_pickT ?_ | refine k_pickF ?_)); refine hK9 _ _ fun _ => ?_; clear hK9 K9)
          (intro K9 hK9; (repeat (first | (first | refine s_p ?_ | refine s_c (by omega) ?_ | refine S.ld ?_ | refine S.ldB ?_ | refine S.ce ?_ | refine S.ceB ?_ | refine s_q ?_ | refine s_qc (by omega) ?_ | refine n_some ?_ | rw [List.getD_cons_zero] | rw [List.getD_cons_succ]) | refine g_TT ?_ | refine g_FF ?_ | refine g_TF ?_ | refine g_FT ?_ | refine g_UU ?_ | refine k_pickT ?_ | refine k_pickF ?_)); refine hK9 _ _ fun _ => ?_; clear hK9 K9)
          (intro K9 hK9; (repeat (first | (first | refine s_p ?_ | refine s_c (by omega) ?_ | refine S.ld ?_ | refine S.ldB ?_ | refine S.ce ?_ | refine S.ceB ?_ | refine s_q ?_ | refine s_qc (by omega) ?_ | refine n_some ?_ | rw [List.getD_cons_zero] | rw [List.getD_cons_succ]) | refine g_TT ?_ | refine g_FF ?_ | refine g_TF ?_ | refine g_FT ?_ | refine g_UU ?_ | refine k_pickT ?_ | refine k_pickF ?_)); refine hK9 _ _ fun _ => ?_; clear hK9 K9)
          (repeat (first | (first | refine s_p ?_ | refine s_c (by omega) ?_ | refine S.ld ?_ | refine S.ldB ?_ | refine S.ce ?_ | refine S.ceB ?_ | refine s_q ?_ | refine s_qc (by omega) ?_ | refine n_some ?_ | rw [List.getD_cons_zero] | rw [List.getD_cons_succ]) | refine g_TT ?_ | refine g_FF ?_ | refine g_TF ?_ | refine g_FT ?_ | refine g_UU ?_ | refine k_pickT ?_ | refine k_pickF ?_))
          exact this
        · rw [h1, h2, h4] at this
          intro K9 hK9; refine g_TT ?_; (repeat (first | refine s_p ?_ | refine s_c (by omega) ?_ | refine S.ld ?_ | refine S.ldB ?_ | refine S.ce ?_ | refine S.ceB ?_ | refine s_q ?_ | refine s_qc (by omega) ?_ | refine n_some ?_ | rw [List.getD_cons_zero] | rw [List.getD_cons_succ])); rw [h1]; refine hK9 _ _ fun _ => ?_; clear hK9 K9
          intro K9 hK9; refine g_FF ?_; (repeat (first | refine s_p ?_ | refine s_c (by omega) ?_ | refine S.ld ?_ | refine S.ldB ?_ | refine S.ce ?_ | refine S.ceB ?_ | refine s_q ?_ | refine s_qc (by omega) ?_ | refine n_some ?_ | rw [List.getD_cons_zero] | rw [List.getD_cons_succ])); rw [h2]; refine hK9 _ _ fun _ => ?_; clear hK9 K9
          (intro K9 hK9; (repeat (first | (first | refine s_p ?_ | refine s_c (by omega) ?_ | refine S.ld ?_ | refine S.ldB ?_ | refine S.ce ?_ | refine S.ceB ?_ | refine s_q ?_ | refine s_qc (by omega) ?_ | refine n_some ?_ | rw [List.getD_cons_zero] | rw [List.getD_cons_succ]) | refine g_TT ?_ | refine g_FF ?_ | refine g_TF ?_ | refine g_FT ?_ | refine g_UU ?_ | refine k_pickT ?_ | refine k_pickF ?_)); refine hK9 _ _ fun _ => ?_; clear hK9 K9)
          intro K9 hK9; refine g_FF ?_; (repeat (first | refine s_p ?_ | refine s_c (by omega) ?_ | refine S.ld ?_ | refine S.ldB ?_ | refine S.ce ?_ | refine S.ceB ?_ | refine s_q ?_ | refine s_qc (by omega) ?_ | refine n_some ?_ | rw [List.getD_cons_zero] | rw [List.getD_cons_succ])); rw [h4]; refine hK9 _ _ fun _ => ?_; clear hK9 K9
          (intro K9 hK9; (repeat (first | (first | refine s_p ?_ | refine s_c (by omega) ?_ | refine S.ld ?_ | refine S.ldB ?_ | refine S.ce ?_ | refine S.ceB ?_ | refine s_q ?_ | refine s_qc (by omega) ?_ | refine n_some ?_ | rw [List.getD_cons_zero] | rw [List.getD_cons_succ]) | refine g_TT ?_ | refine g_FF ?_ | refine g_TF ?_ | refine g_FT ?_ | refine g_UU ?_ | refine k_pickT ?_ | refine k_pickF ?_)); refine hK9 _ _ fun _ => ?_; clear hK9 K9)
          (intro K9 hK9; (repeat (first | (first | refine s_p ?_ | refine s_c (by omega) ?_ | refine S.ld ?_ | refine S.ldB ?_ | refine S.ce ?_ | refine S.ceB ?_ | refine s_q ?_ | refine s_qc (by omega) ?_ | refine n_some ?_ | rw [List.getD_cons_zero] | rw [List.getD_cons_succ]) | refine g_TT ?_ | refine g_FF ?_ | refine g_TF ?_ | refine g_FT ?_ | refine g_UU ?_ | refine k_pickT ?_ | refine k_pickF ?_)); refine hK9 _ _ fun _ => ?_; clear hK9 K9)
          (intro K9 hK9; (repeat (first | (first | refine s_p ?_ | refine s_c (by omega) ?_ | refine S.ld ?_ | refine S.ldB ?_ | refine S.ce ?_ | refine S.ceB ?_ | refine s_q ?_ | refine s_qc (by omega) ?_ | refine n_some ?_ | rw [List.getD_cons_zero] | rw [List.getD_cons_succ]) | refine g_TT ?_ | refine g_FF ?_ | refine g_TF ?_ | refine g_FT ?_ | refine g_UU ?_ | refine k_pickT ?_ | refine k_pickF ?_)); refine hK9 _ _ fun _ => ?_; clear hK9 K9)
          (repeat (first | (first | refine s_p ?_ | refine s_c (by omega) ?_ | refine S.ld ?_ | refine S.ldB ?_ | refine S.ce ?_ | refine S.ceB ?_ | refine s_q ?_ | refine s_qc (by omega) ?_ | refine n_some ?_ | rw [List.getD_cons_zero] | rw [List.getD_cons_succ]) | refine g_TT ?_ | refine g_FF ?_ | refine g_TF ?_ | refine g_FT ?_ | refine g_UU ?_ | refine k_pickT ?_ | refine k_pickF ?_))
          simpa using this
      · rw [h1, h2] at this
        intro K9 hK9; refine g_TT ?_; (repeat (first | refine s_p ?_ | refine s_c (by omega) ?_ | refine S.ld ?_ | refine S.ldB ?_ | refine S.ce ?_ | refine S.ceB ?_ | refine s_q ?_ | refine s_qc (by omega) ?_ | refine n_some ?_ | rw [List.getD_cons_zero] | rw [List.getD_cons_succ])); rw [h1]; refine hK9 _ _ fun _ => ?_; clear hK9 K9
        intro K9 hK9; refine g_FF ?_; (repeat (first | refine s_p ?_ | refine s_c (by omega) ?_ | refine S.ld ?_ | refine S.ldB ?_ | refine S.ce ?_ | refine S.ceB ?_ | refine s_q ?_ | refine s_qc (by omega) ?_ | refine n_some ?_ | rw [List.getD_cons_zero] | rw [List.getD_cons_succ])); rw [h2]; refine hK9 _ _ fun _ => ?_; clear hK9 K9
        (intro K9 hK9; (repeat (first | (first | refine s_p ?_ | refine s_c (by omega) ?_ | refine S.ld ?_ | refine S.ldB ?_ | refine S.ce ?_ | refine S.ceB ?_ | refine s_q ?_ | refine s_qc (by omega) ?_ | refine n_some ?_ | rw [List.getD_cons_zero] | rw [List.getD_cons_succ]) | refine g_TT ?_ | refine g_FF ?_ | refine g_TF ?_ | refine g_FT ?_ | refine g_UU ?_ | refine k_pickT ?_ | refine k_pickF ?_)); refine hK9 _ _ fun _ => ?_; clear hK9 K9)
        (intro K9 hK9; (repeat (first | (first | refine s_p ?_ | refine s_c (by omega) ?_ | refine S.ld ?_ | refine S.ldB ?_ | refine S.ce ?_ | refine S.ceB ?_ | refine s_q ?_ | refine s_qc (by omega) ?_ | refine n_some ?_ | rw [List.getD_cons_zero] | rw [List.getD_cons_succ]) | refine g_TT ?_ | refine g_FF ?_ | refine g_TF ?_ | refine g_FT ?_ | refine g_UU ?_ | refine k_pickT ?_ | refine k_pickF ?_)); refine hK9 _ _ fun _ => ?_; clear hK9 K9)
        (intro K9 hK9; (repeat (first | (first | refine s_p ?_ | refine s_c (by omega) ?_ | refine S.ld ?_ | refine S.ldB ?_ | refine S.ce ?_ | refine S.ceB ?_ | refine s_q ?_ | refine s_qc (by omega) ?_ | refine n_some ?_ | rw [List.getD_cons_zero] | rw [List.getD_cons_succ]) | refine g_TT ?_ | refine g_FF ?_ | refine g_TF ?_ | refine g_FT ?_ | refine g_UU ?_ | refine k_pickT ?_ | refine k_pickF ?_)); refine hK9 _ _ fun _ => ?_; clear hK9 K9)
        (intro K9 hK9; (repeat (first | (first | refine s_p ?_ | refine s_c (by omega) ?_ | refine S.ld ?_ | refine S.ldB ?_ | refine S.ce ?_ | refine S.ceB ?_ | refine s_q ?_ | refine s_qc (by omega) ?_ | refine n_some ?_ | rw [List.getD_cons_zero] | rw [List.getD_cons_succ]) | refine g_TT ?_ | refine g_FF ?_ | refine g_TF ?_ | refine g_FT ?_ | refine g_UU ?_ | refine k_pickT ?_ | refine k_pickF ?_)); refine hK9 _ _ fun _ => ?_; clear hK9 K9)
        (intro K9 hK9; (repeat (first | (first | refine s_p ?_ | refine s_c (by omega) ?_ | refine S.ld ?_ | refine S.ldB ?_ | refine S.ce ?_ | refine S.ceB ?_ | refine s_q ?_ | refine s_qc (by omega) ?_ | refine n_some ?_ | rw [List.getD_cons_zero] | rw [List.getD_cons_succ]) | refine g_TT ?_ | refine g_FF ?_ | refine g_TF ?_ | refine g_FT ?_ | refine g_UU ?_ | refine k_pickT ?_ | refine k_pickF ?_)); refine hK9 _ _ fun _ => ?_; clear hK9 K9)
        (repeat (first | (first | refine s_p ?_ | refine s_c (by omega) ?_ | refine S.ld ?_ | refine S.ldB ?_ | refine S.ce ?_ | refine S.ceB ?_ | refine s_q ?_ | refine s_qc (by omega) ?_ | refine n_some ?_ | rw [List.getD_cons_zero] | rw [List.getD_cons_succ]) | refine g_TT ?_ | refine g_FF ?_ | refine g_TF ?_ | refine g_FT ?_ | refine g_UU ?_ | refine k_pickT ?_ | refine k_pickF ?_))
        exact this
    · rw [h1] at this
      intro K9 hK9; refine g_TT ?_; (repeat (first | refine s_p ?_ | refine s_c (by omega) ?_ | refine S.ld ?_ | refine S.ldB ?_ | refine S.ce ?_ | refine S.ceB ?_ | refine s_q ?_ | refine s_qc (by omega) ?_ | refine n_some ?_ | rw [List.getD_cons_zero] | rw [List.getD_cons_succ])); rw [h1]; refine hK9 _ _ fun _ => ?_; clear hK9 K9
      (intro K9 hK9; (repeat (first | (first | refine s_p ?_ | refine s_c (by omega) ?_ | refine S.ld ?_ | refine S.ldB ?_ | refine S.ce ?_ | refine S.ceB ?_ | refine s_q ?_ | refine s_qc (by omega) ?_ | refine n_some ?_ | rw [List.getD_cons_zero] | rw [List.getD_cons_succ]) | refine g_TT ?_ | refine g_FF ?_ | refine g_TF ?_ | refine g_FT ?_ | refine g_UU ?_ | refine k_pickT ?_ | refine k_pickF ?_)); refine hK9 _ _ fun _ => ?_; clear hK9 K9)
      (intro K9 hK9; (repeat (first | (first | refine s_p ?_ | refine s_c (by omega) ?_ | refine S.ld ?_ | refine S.ldB ?_ | refine S.ce ?_ | refine S.ceB ?_ | refine s_q ?_ | refine s_qc (by omega) ?_ | refine n_some ?_ | rw [List.getD_cons_zero] | rw [List.getD_cons_succ]) | refine g_TT ?_ | refine g_FF ?_ | refine g_TF ?_ | refine g_FT ?_ | refine g_UU ?_ | refine k_pickT ?_ | refine k_pickF ?_)); refine hK9 _ _ fun _ => ?_; clear hK9 K9)
      (intro K9 hK9; (repeat (first | (first | refine s_p ?_ | refine s_c (by omega) ?_ | refine S.ld ?_ | refine S.ldB ?_ | refine S.ce ?_ | refine S.ceB ?_ | refine s_q ?_ | refine s_qc (by omega) ?_ | refine n_some ?_ | rw [List.getD_cons_zero] | rw [List.getD_cons_succ]) | refine g_TT ?_ | refine g_FF ?_ | refine g_TF ?_ | refine g_FT ?_ | refine g_UU ?_ | refine k_pickT ?_ | refine k_pickF ?_)); refine hK9 _ _ fun _ => ?_; clear hK9 K9)
      (intro K9 hK9; (repeat (first | (first | refine s_p ?_ | refine s_c (by omega) ?_ | refine S.ld ?_ | refine S.ldB ?_ | refine S.ce ?_ | refine S.ceB ?_ | refine s_q ?_ | refine s_qc (by omega) ?_ | refine n_some ?_ | rw [List.getD_cons_zero] | rw [List.getD_cons_succ]) | refine g_TT ?_ | refine g_FF ?_ | refine g_TF ?_ | refine g_FT ?_ | refine g_UU ?_ | refine k_pickT ?_ | refine k_pickF ?_)); refine hK9 _ _ fun _ => ?_; clear hK9 K9)
      (intro K9 hK9; (repeat (first | (first | refine s_p ?_ | refine s_c (by omega) ?_ | refine S.ld ?_ | refine S.ldB ?_ | refine S.ce ?_ | refine S.ceB ?_ | refine s_q ?_ | refine s_qc (by omega) ?_ | refine n_some ?_ | rw [List.getD_cons_zero] | rw [List.getD_cons_succ]) | refine g_TT ?_ | refine g_FF ?_ | refine g_TF ?_ | refine g_FT ?_ | refine g_UU ?_ | refine k_pickT ?_ | refine k_pickF ?_)); refine hK9 _ _ fun _ => ?_; clear hK9 K9)
      (intro K9 hK9; (repeat (first | (first | refine s_p ?_ | refine s_c (by omega) ?_ | refine S.ld ?_ | refine S.ldB ?_ | refine S.ce ?_ | refine S.ceB ?_ | refine s_q ?_ | refine s_qc (by omega) ?_ | refine n_some ?_ | rw [List.getD_cons_zero] | rw [List.getD_cons_succ]) | refine g_TT ?_ | refine g_FF ?_ | refine g_TF ?_ | refine g_FT ?_ | refine g_UU ?_ | refine k_pickT ?_ | refine k_pickF ?_)); refine hK9 _ _ fun _ => ?_; clear hK9 K9)
      (repeat (first | (first | refine s_p ?_ | refine s_c (by omega) ?_ | refine S.ld ?_ | refine S.ldB ?_ | refine S.ce ?_ | refine S.ceB ?_ | refine s_q ?_ | refine s_qc (by omega) ?_ | refine n_some ?_ | rw [List.getD_cons_zero] | rw [List.getD_cons_succ]) | refine g_TT ?_ | refine g_FF ?_ | refine g_TF ?_ | refine g_FT ?_ | refine g_UU ?_ | refine k_pickT ?_ | refine k_pickF ?_))
      exact this
end Go.Proofs
end
