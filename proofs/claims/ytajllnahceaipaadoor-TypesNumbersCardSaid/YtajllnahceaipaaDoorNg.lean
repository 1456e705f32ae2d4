/-
  Contracts: the document's answer: endless, Structs, May, Words, Drops.
  Contracts: fits; a struct's fields in new memory, of both sides.
  Contracts: types made by hand; awake.
  Contracts: awake.
  The law TypesAsk.
  Contracts: Itoa of every number that is not negative (the kit's contract, laid at this program).
  A law's end: the answer is true, the input reads as it did.
  Whatever an argument reads as, it is a datum: one theorem for all types of numbers, texts, structs and slices.
  What every law of layer 6 opens: types, lists, numbers, texts; the program's facts.
  The law TypesTexts.
  loanwordlaw06.TypesTurn: whatever the types, the number, the regions: the law returns true.
  loanwordlaw06.TypesAmong: whatever the structs, whatever the type: the law returns true.
  Types' texts there and back: the plain law.
  Types' texts there and back: the plain law's other half; the law TypesBack.
  Regions laid anew and numbered twice; words and drops of fields: the plain laws.
-/
import Derived.Test.YtajllnahceaipaaDoorNf
import Derived.Test.YtajllnahceaipaaDoorNe
import Derived.Shelf.Strconv.Itoa3
import Derived.Test.YtajllnahceaipaaDoorNa
import Derived.ChangeSame
import Derived.ChangeStays
import Derived.ReadAgain
import Derived.ProofKit
import Derived.OpenShut
import Derived.Deep.DeepHandedRow
import Derived.Lib.LaidTab
import Derived.Lib.SmallJoins
import Derived.Test.YtajllnahceaipaaDoorNb
import Derived.ChangeArms
import Derived.DataReads
import Derived.Test.YtajllnahceaipaaDoorCards
import Derived.Test.YtajllnahceaipaaDoorTie
import Derived.WalkKit

section
namespace Go.Proofs
open Go.Sh
set_option maxRecDepth 100000
set_option linter.unusedSimpArgs false
set_option linter.unusedVariables false
theorem bools_rep (n : Nat) : bools (List.replicate n false) = List.replicate n (.bool false) := by rw [bools, List.map_replicate]
theorem cf_rep (n : Nat) : cf (List.replicate n false) = n := by
  induction n with
  | zero => rfl
  | succ n ih => rw [List.replicate_succ, cf, ih]; simp; omega
theorem drop_snoc {T : List Int} {n : Nat} {j : Int} (h : n ≤ T.length) : (T ++ [j]).drop n = T.drop n ++ [j] := List.drop_append_of_le_length h
theorem c_ref06_endless {ss : List StD} {p : Option Addr} {cap k : Nat} (hg : Good ss) (h32 : ss.length ≤ 32) (hk : k < ss.length) (h8 : ∀ k, (tysAt ss k).length ≤ 8) {w : World} {r : Gh} {K : Value → World → Prop} (hr : Holds r w) (hs : StG r p ss)
    (h : ∀ w', Ext w w' → K (.bool (bad2 ss k)) w') : oCall Tryd.prog Tryd.n_ref06_endless #[.slice p ss.length cap, .int .i64 k] w K := by
  refine Tryd.ok_ref06_endless ?_
  unfold Tryd.F_ref06_endless
  have S := St.start hr
  (first | refine s_p ?_ | refine s_c (by omega) ?_)
  refine S.mkS (z := .bool false) (by omega) (by omega) fun b13 w1 S => ?_
  rw [Int.toNat_natCast, ← bools_rep] at S
  refine S.lit (e := 3) (cs := [.int .i64 k]) (by kernel_rfl) fun b16 w2 S => ?_
  have S := S.ownNil 3 1
  refine S.ap (Sl.blk (S.blk b16)) (fun v17 w3 S => ?_) (by omega)
  rw [Int.toNat_natCast]
  have S : StX noX w r w3 [.row v17 3 1 [(k : Int)].length (ints [(k : Int)]), .cell b13 (bools (List.replicate ss.length false)) 4] := S.drop b16
  refine l_intro (ι := List Int × Nat × List Bool × Value) (fun i => [i.2.2.2, .int .i64 i.2.1]) (fun i w' => QI ss k ss.length (i.1.drop i.2.1) i.2.2.1 none ∧ i.2.1 ≤ i.1.length ∧ mt i.2.2.1 k = false ∧ cf i.2.2.1 + i.1.length ≤ 33 ∧ StX noX w r w' [.row i.2.2.2 3 1 i.1.length (ints i.1), .cell b13 (bools i.2.2.1) 4])
    (fun i => 2 * cf i.2.2.1 + (i.1.length - i.2.1)) ([(k : Int)], 0, List.replicate ss.length false, v17) rfl ⟨QI.start (Nat.le_refl _) (by omega) (by omega), by simp, ?_, by rw [cf_rep, List.length_singleton]; omega, S⟩ ?_
  · unfold mt; rw [List.getD_eq_getElem?_getD, List.getElem?_replicate]; split <;> rfl
  clear S
  rintro ⟨T, n, met, v⟩ d w4 ⟨hq, hn, hmk, hc33, S⟩ K4 hK4
  simp only at hq hn hmk hc33 S ⊢
  rw [List.getD_cons_zero, List.getD_cons_succ, List.getD_cons_zero]
  have S0 := S
  obtain ⟨pv, capv, rfl, hpv, hcv, _, hsl⟩ := S.rowS v
  (first | refine s_p ?_ | refine s_c (by omega) ?_)
  (first | refine s_p ?_ | refine s_c (by omega) ?_)
  refine c_b (fun hlt => ?_) (fun hge => ?_)
  · have hlt : n < T.length := by simpa using hlt
    obtain ⟨x, hxT⟩ : ∃ x, T[n]? = some x := ⟨_, List.getElem?_eq_getElem hlt⟩
    have hTn : T[n] = x := by rw [List.getElem?_eq_getElem hlt] at hxT; exact Option.some.inj hxT
    have hdr : T.drop n = x :: T.drop (n + 1) := by rw [List.drop_eq_getElem_cons hlt, hTn]
    rw [hdr] at hq
    obtain ⟨bq, oq, rfl, hcell⟩ := ints_at hsl hlt
    rw [hTn] at hcell
    have hx := hq.rng x List.mem_cons_self
    (first | refine s_p ?_ | refine s_c (by omega) ?_)
    refine s_ld1 (by simpa using hcell) ?_
    have hxn : x.toNat < ss.length := by omega
    obtain ⟨bs', os', q, capf, rfl, hcs, _, _, hf⟩ := st_at hs hxn
    (first | refine s_p ?_ | refine s_c (by omega) ?_)
    (first | refine s_p ?_ | refine s_c (by omega) ?_)
    refine s_ld1 (S.at hcs) ?_
    have htl : tysAt ss x = ss[x.toNat].fs.map (·.2) := by
      rw [← tysAt_eq hxn]; simp only [tysAt, Int.toNat_natCast]
    have hlen : (tysAt ss x).length = ss[x.toNat].fs.length := by rw [htl, List.length_map]
    have h88 := h8 x
    refine l_intro (ι := Nat × List Int × List Bool × Value) (fun i => [i.2.2.2, .int .i64 i.1]) (fun i w' => i.1 ≤ (tysAt ss x).length ∧ QI ss k ss.length (i.2.1.drop (n + 1)) i.2.2.1 (some (x, i.1)) ∧ n + 1 ≤ i.2.1.length ∧ mt i.2.2.1 k = false ∧ cf i.2.2.1 + i.2.1.length ≤ 33 ∧
      2 * cf i.2.2.1 + (i.2.1.length - (n + 1)) ≤ 2 * cf met + (T.length - (n + 1)) ∧ StX noX w r w' [.row i.2.2.2 3 1 i.2.1.length (ints i.2.1), .cell b13 (bools i.2.2.1) 4]) (fun i => (tysAt ss x).length - i.1) (0, T, met, _) rfl ⟨Nat.zero_le _, hq.pop, hlt, hmk, hc33, Nat.le_refl _, S⟩ ?_
    clear S
    rintro ⟨i, T', met', v'⟩ d w5 ⟨hi, hq', hn', hmk', hc', hme, S⟩ K8 hK8
    simp only at hi hq' hn' hmk' hc' hme S ⊢
    rw [List.getD_cons_zero, List.getD_cons_succ, List.getD_cons_zero]
    (first | refine s_p ?_ | refine s_c (by omega) ?_)
    (first | refine s_p ?_ | refine s_c (by omega) ?_)
    refine c_b (fun hlt2 => ?_) (fun hge => ?_)
    · have hlt2 : i < ss[x.toNat].fs.length := by simpa using hlt2
      have hlt3 : i < (tysAt ss x).length := by omega
      have hel : (tysAt ss x)[i] = ss[x.toNat].fs[i].2 := by simp only [htl, List.getElem_map]
      refine j_intro (fun s w' => ∃ T2 met2 v2, s = [v2] ∧ QI ss k ss.length (T2.drop (n + 1)) met2 (some (x, i + 1)) ∧ n + 1 ≤ T2.length ∧ mt met2 k = false ∧ cf met2 + T2.length ≤ 33 ∧ 2 * cf met2 + T2.length ≤ 2 * cf met' + T'.length ∧ StX noX w r w' [.row v2 3 1 T2.length (ints T2), .cell b13 (bools met2) 4]) (fun K12 hK12 => ?_) ?_
      · obtain ⟨b2, off2, c, rfl, hcl, hcc, hty⟩ := fl_at hf hlt2
        (first | refine s_p ?_ | refine s_c (by omega) ?_)
        (first | refine s_p ?_ | refine s_c (by omega) ?_)
        refine s_ldN (n := 5) (c := c) hcl (fun j v hj => by
          have := S.at (hcc (j + 1) v (by simpa using hj))
          rw [Int.toNat_natCast, Nat.add_assoc _ 1 j, Nat.add_comm 1 j]; exact this) ?_
        refine S.al fun b10 w6 S => ?_
        have hone := ty_ones hty
        refine S.stB (fun w7 S => ?_) rfl (by simpa using hcl) hone
        obtain ⟨pt, capt, rfl, _⟩ := cells_of hty
        have S : StX noX w r w7 [.cell b10 [.int .u8 ss[x.toNat].fs[i].2.k, .bool ss[x.toNat].fs[i].2.m, .int .i64 ss[x.toNat].fs[i].2.re, .int .i64 ss[x.toNat].fs[i].2.st, .slice pt ss[x.toNat].fs[i].2.of.length capt] 25, .row v' 3 1 T'.length (ints T'), .cell b13 (bools met') 4] := S
        (repeat (first | refine s_p ?_ | refine s_c (by omega) ?_ | refine S.ld ?_ | refine S.ldB ?_ | refine S.ce ?_ | refine S.ceB ?_ | refine s_q ?_ | refine s_qc (by omega) ?_ | refine n_some ?_ | rw [List.getD_cons_zero] | rw [List.getD_cons_succ]))
        rw [← hel]
        refine c_b (fun h5 => ?_) (fun h5 => ?_)
        · have h5 : (tysAt ss x)[i].k ≠ 5 := of_decide_eq_true h5
          exact hK12 _ _ ⟨T', met', v', rfl, hq'.skip hlt3 fun e => absurd e h5, hn', hmk', hc', Nat.le_refl _, S.tl⟩
        have h5 : (tysAt ss x)[i].k = 5 := by simpa using h5
        have hkid : Kid ss x (tysAt ss x)[i].st := ⟨_, List.getElem_mem hlt3, h5, rfl⟩
        have hin := kid_in hg hkid
        have hml := hq'.len
        (repeat (first | refine s_p ?_ | refine s_c (by omega) ?_ | refine S.ld ?_ | refine S.ldB ?_ | refine S.ce ?_ | refine S.ceB ?_ | refine s_q ?_ | refine s_qc (by omega) ?_ | refine n_some ?_ | rw [List.getD_cons_zero] | rw [List.getD_cons_succ]))
        rw [← hel]
        refine c_b (fun hek => ?_) (fun hek => ?_)
        · have hek : (tysAt ss x)[i].st = k := of_decide_eq_true hek
          have hR : Rch ss k k := by
            rw [hek] at hkid
            rcases (hq'.s4 _ rfl).1 with hx | hx
            · have hx : x = k := hx
              rw [hx] at hkid; exact .one hkid
            · exact .more hx hkid
          have := h _ S.ext
          rw [← bad2_eq (b := true) (fun _ => hR) (fun _ => rfl)] at this
          exact this
        have hek : ¬ (tysAt ss x)[i].st = k := of_decide_eq_false hek
        (repeat (first | refine s_p ?_ | refine s_c (by omega) ?_ | refine S.ld ?_ | refine S.ldB ?_ | refine S.ce ?_ | refine S.ceB ?_ | refine s_q ?_ | refine s_qc (by omega) ?_ | refine n_some ?_ | rw [List.getD_cons_zero] | rw [List.getD_cons_succ]))
        rw [← hel]
        (first | refine s_p ?_ | refine s_c (by omega) ?_)
        refine S.ld (b := b13) (v := .bool (mt met' (tysAt ss x)[i].st)) ?_ (by rw [Nat.zero_add]; exact bools_at (by omega))
        (first | refine s_p ?_ | refine s_c (by omega) ?_)
        refine c_b (fun hm => ?_) (fun hm => ?_)
        · have hm : mt met' (tysAt ss x)[i].st = false := by simpa using hm
          (repeat (first | refine s_p ?_ | refine s_c (by omega) ?_ | refine S.ld ?_ | refine S.ldB ?_ | refine S.ce ?_ | refine S.ceB ?_ | refine s_q ?_ | refine s_qc (by omega) ?_ | refine n_some ?_ | rw [List.getD_cons_zero] | rw [List.getD_cons_succ]))
          rw [← hel]
          (first | refine s_p ?_ | refine s_c (by omega) ?_)
          refine S.st (b := b13) (fun w8 S => ?_) (by rw [bools_len]; omega)
          (repeat (first | refine s_p ?_ | refine s_c (by omega) ?_ | refine S.ld ?_ | refine S.ldB ?_ | refine S.ce ?_ | refine S.ceB ?_ | refine s_q ?_ | refine s_qc (by omega) ?_ | refine n_some ?_ | rw [List.getD_cons_zero] | rw [List.getD_cons_succ]))
          rw [← hel]
          refine S.lit (e := 3) (cs := [.int .i64 (tysAt ss x)[i].st]) (by kernel_rfl) fun b49 w9 S => ?_
          refine S.ap (m' := 1) (Sl.blk (S.blk b49)) (fun v50 w10 S => ?_) (by omega)
          have hcf := cf_set (l := met') (i := (tysAt ss x)[i].st.toNat) (by
            unfold mt at hm
            rw [List.getD_eq_getElem?_getD, List.getElem?_eq_getElem (by omega)] at hm
            rw [List.getElem?_eq_getElem (by omega)]
            simpa using hm)
          refine hK12 _ _ ⟨T' ++ [(tysAt ss x)[i].st], met'.set (tysAt ss x)[i].st.toNat true, v50, rfl, ?_, by rw [List.length_append]; omega, ?_, by rw [List.length_append, List.length_singleton]; omega, by rw [List.length_append, List.length_singleton]; omega, ?_⟩
          · rw [drop_snoc hn']
            exact hq'.push hg hlt3 h5
          · rw [mt_set hin.1 (by omega) (by omega), hmk']
            simp only [Bool.or_false, decide_eq_false_iff_not]
            exact fun e => hek e.symm
          · have e1 : (bools met').set (0 + (tysAt ss x)[i].st.toNat) (.bool true) = bools (met'.set (tysAt ss x)[i].st.toNat true) := by
              rw [Nat.zero_add, bools, bools, List.map_set]
            rw [e1] at S
            rw [List.length_append, ints_append]
            exact S.tl.tl
        · have hm : mt met' (tysAt ss x)[i].st = true := by simpa using hm
          exact hK12 _ _ ⟨T', met', v', rfl, hq'.skip hlt3 fun _ => hm, hn', hmk', hc', Nat.le_refl _, S.tl⟩
      · rintro _ w6 ⟨T2, met2, v2, rfl, hq2, hn2, hmk2, hc2, hme2, S⟩ d6
        rw [List.getD_cons_zero]
        (first | refine s_p ?_ | refine s_c (by omega) ?_)
        rw [show ((i : Int) + 1) = ((i + 1 : Nat) : Int) by omega]
        exact hK8 (i + 1, T2, met2, v2) _ ⟨hlt3, hq2, hn2, hmk2, hc2, by simp only; omega, S⟩ (by simp only; omega)
    · have hge : (tysAt ss x).length ≤ i := by
        have : ¬ i < ss[x.toNat].fs.length := by simpa using hge
        omega
      (first | refine s_p ?_ | refine s_c (by omega) ?_)
      rw [show ((n : Int) + 1) = ((n + 1 : Nat) : Int) by omega]
      exact hK4 (T', n + 1, met', v') _ ⟨hq'.done hge, hn', hmk', hc', S⟩ (by simp only; omega)
  · have hge : T.length ≤ n := by
      have : ¬ n < T.length := by simpa using hge
      omega
    rw [List.drop_of_length_le hge] at hq
    have := h _ S.ext
    rw [← bad2_eq (b := false) (fun e => by cases e) (fun hR => by rw [hq.all hg (by omega) hR] at hmk; cases hmk)] at this
    exact this
theorem c_ref06_Structs {ss : List StD} {p : Option Addr} {cap : Nat} {w : World} {r : Gh} {K : Value → World → Prop} (hr : Holds r w) (hs : StG r p ss) (hm : ss.length ≤ 1000000000) (hmf : ∀ k, (tysAt ss k).length ≤ 1000000000)
    (h : ∀ w', Ext w w' → K (.tuple #[.int .i64 (structsT ss).1, .int .i64 (structsT ss).2]) w') : oCall Tryd.prog Tryd.n_ref06_Structs #[.slice p ss.length cap] w K := by
  refine Tryd.ok_ref06_Structs ?_
  unfold Tryd.F_ref06_Structs
  have S := St.start hr
  (first | refine s_p ?_ | refine s_c (by omega) ?_)
  (first | refine s_p ?_ | refine s_c (by omega) ?_)
  refine c_b (fun hbig => ?_) (fun hsm => ?_)
  · have hbig : 32 < ss.length := by have := of_decide_eq_true hbig; omega
    rw [structsT, if_pos hbig] at h
    exact h _ S.ext
  have hsm : ¬ 32 < ss.length := by have := of_decide_eq_false hsm; omega
  rw [structsT, if_neg hsm] at h
  refine l_intro (ι := Nat) (fun i => [.int .i64 i]) (fun i w' => i ≤ ss.length ∧ (∀ j, j < i → bad1 ss j = false) ∧ StX noX w r w' []) (fun i => ss.length - i) 0 rfl ⟨Nat.zero_le _, fun j hj => by omega, S⟩ ?_
  clear S
  rintro i d w1 ⟨hi, hb, S⟩ K1 hK1
  rw [List.getD_cons_zero]
  (first | refine s_p ?_ | refine s_c (by omega) ?_)
  (first | refine s_p ?_ | refine s_c (by omega) ?_)
  refine c_b (fun hlt => ?_) (fun hge => ?_)
  · have hlt : i < ss.length := by simpa using hlt
    have hbadd : bad1 ss i = true → ∀ w', Ext w w' → K (.tuple #[.int .i64 (i : Nat), .int .i64 2]) w' := fun hbd w' e => by
      have hf := fstB_some hlt hbd hb
      have := h w' e
      rw [hf, if_pos hlt] at this
      exact this
    obtain ⟨b, off, q, capq, rfl, hcell, hq0, hqc, hf⟩ := st_at hs hlt
    (first | refine s_p ?_ | refine s_c (by omega) ?_)
    (first | refine s_p ?_ | refine s_c (by omega) ?_)
    refine s_ld1 (by rw [Int.toNat_natCast]; exact S.at hcell) ?_
    have hlen := tysAt_len hlt
    have htl := tysAt_eq hlt
    have hmf' := hmf i
    (first | refine s_p ?_ | refine s_c (by omega) ?_)
    (first | refine s_p ?_ | refine s_c (by omega) ?_)
    refine j_borH (c := decide (8 < (tysAt ss i).length)) (fun _ K2 hK2 => ?_) ?_
    · (first | refine s_p ?_ | refine s_c (by omega) ?_)
      (first | refine s_p ?_ | refine s_c (by omega) ?_)
      rw [show decide ((8 : Int) < (ss[i].fs.length : Int)) = decide (8 < (tysAt ss i).length) from decide_eq_decide.2 (by omega)]
      exact hK2
    rw [show decide ((ss[i].fs.length : Int) < 1) = decide ((tysAt ss i).length < 1) from decide_eq_decide.2 (by omega)]
    refine c_b (fun hl => ?_) (fun hl => ?_)
    · refine hbadd ?_ _ S.ext
      rw [bad1, hl]; rfl
    refine l_intro (ι := Nat) (fun k => [.int .i64 k]) (fun k w' => k ≤ (tysAt ss i).length ∧ (((tysAt ss i).take k).any fun t => !lookB ss.length 48 t || decide (0 < t.regs.length)) = false ∧ StX noX w r w' []) (fun k => (tysAt ss i).length - k) 0 rfl ⟨Nat.zero_le _, by simp, S⟩ ?_
    clear S
    rintro k d w2 ⟨hk, hno, S⟩ K9 hK9
    rw [List.getD_cons_zero]
    (first | refine s_p ?_ | refine s_c (by omega) ?_)
    (first | refine s_p ?_ | refine s_c (by omega) ?_)
    refine c_b (fun hlt2 => ?_) (fun hge2 => ?_)
    · have hlt2 : k < ss[i].fs.length := by simpa using hlt2
      have hlt3 : k < (tysAt ss i).length := by omega
      have hel : (tysAt ss i)[k] = ss[i].fs[k].2 := by simp only [htl, List.getElem_map]
      obtain ⟨b2, off2, c, rfl, hcl, hcc, hty⟩ := fl_at hf hlt2
      have hrd : ∀ {w9 : World} {K : Value → Prop}, StX noX w r w9 [] → K (.agg c.toArray) → opQ Tryd.prog w9 (Instr.loadAt 25 (.pointer (some ⟨b2, off2 + ((k : Int)).toNat * 6 + 1, none⟩))) K := fun S k => s_ldN (n := 5) (c := c) hcl (fun j v hj => by
        have := S.at (hcc (j + 1) v (by simpa using hj))
        rw [Int.toNat_natCast, Nat.add_assoc _ 1 j, Nat.add_comm 1 j]; exact this) k
      (first | refine s_p ?_ | refine s_c (by omega) ?_)
      (first | refine s_p ?_ | refine s_c (by omega) ?_)
      refine hrd S ?_
      (first | refine s_p ?_ | refine s_c (by omega) ?_)
      refine c_ref06_look 48 (by decide) S.holds hty fun w3 e3 => ?_
      have S := S.go e3
      (first | refine s_p ?_ | refine s_c (by omega) ?_)
      refine j_borE (c := decide (0 < ss[i].fs[k].2.regs.length)) (fun hl K2 hK2 => ?_) fun w4 e4 => ?_
      · have hl : lookB ss.length 48 ss[i].fs[k].2 = true := by simpa using hl
        (first | refine s_p ?_ | refine s_c (by omega) ?_)
        (first | refine s_p ?_ | refine s_c (by omega) ?_)
        refine hrd S ?_
        refine c_ref06_plain 48 (by decide) hl S.holds hty fun w4 e4 => ?_
        (first | refine s_p ?_ | refine s_c (by omega) ?_)
        rw [show (!decide (ss[i].fs[k].2.regs.length = 0)) = decide (0 < ss[i].fs[k].2.regs.length) by
          rw [← decide_not]; exact decide_eq_decide.2 (by omega)]
        exact hK2 _ e4
      have S := S.go e4
      refine c_b (fun hy => ?_) (fun hn => ?_)
      · refine hbadd ?_ _ S.ext
        have : ((tysAt ss i).any fun t => !lookB ss.length 48 t || decide (0 < t.regs.length)) = true := List.any_eq_true.2 ⟨_, List.getElem_mem hlt3, by rw [hel]; exact hy⟩
        rw [bad1, this, Bool.or_true]
      · (first | refine s_p ?_ | refine s_c (by omega) ?_)
        rw [show ((k : Int) + 1) = ((k + 1 : Nat) : Int) by omega]
        refine hK9 (k + 1) _ ⟨hlt3, ?_, S⟩ (by omega)
        rw [List.take_succ_eq_append_getElem hlt3, List.any_append, hno, hel]
        simp only [List.any_cons, List.any_nil, Bool.false_or, Bool.or_false]
        exact hn
    · have hie : k = (tysAt ss i).length := by
        have : ¬ k < ss[i].fs.length := by simpa using hge2
        omega
      rw [hie, List.take_length] at hno
      (first | refine s_p ?_ | refine s_c (by omega) ?_)
      rw [show ((i : Int) + 1) = ((i + 1 : Nat) : Int) by omega]
      refine hK1 (i + 1) _ ⟨hlt, fun j hj => ?_, S⟩ (by omega)
      by_cases hji : j = i
      · rw [hji, bad1, hl, hno]; rfl
      · exact hb j (by omega)
  have hie : i = ss.length := by
    have : ¬ i < ss.length := by simpa using hge
    omega
  rw [hie] at hb
  have h1 : ¬ fstB ss.length (bad1 ss) < ss.length := by rw [fstB_none hb]; omega
  rw [if_neg h1] at h
  have hgd := good_of hb
  refine l_intro (ι := Nat) (fun i => [.int .i64 i]) (fun i w' => i ≤ ss.length ∧ (∀ j, j < i → bad2 ss j = false) ∧ StX noX w r w' []) (fun i => ss.length - i) 0 rfl ⟨Nat.zero_le _, fun j hj => by omega, S⟩ ?_
  clear S hie hge hi
  rintro i d w5 ⟨hi, hb2, S⟩ K1 hK1
  rw [List.getD_cons_zero]
  (first | refine s_p ?_ | refine s_c (by omega) ?_)
  (first | refine s_p ?_ | refine s_c (by omega) ?_)
  refine c_b (fun hlt => ?_) (fun hge => ?_)
  · have hlt : i < ss.length := by simpa using hlt
    refine c_ref06_endless hgd (by omega) hlt (len8_of hb) S.holds hs fun w6 e6 => ?_
    have S := S.go e6
    refine c_b (fun hy => ?_) (fun hn => ?_)
    · have hf := fstB_some hlt hy hb2
      rw [hf, if_pos hlt] at h
      exact h _ S.ext
    · (first | refine s_p ?_ | refine s_c (by omega) ?_)
      rw [show ((i : Int) + 1) = ((i + 1 : Nat) : Int) by omega]
      refine hK1 (i + 1) _ ⟨hlt, fun j hj => ?_, S⟩ (by omega)
      by_cases hji : j = i
      · rw [hji]; exact hn
      · exact hb2 j (by omega)
  have hie : i = ss.length := by
    have : ¬ i < ss.length := by simpa using hge
    omega
  rw [hie] at hb2
  have h2 : ¬ fstB ss.length (bad2 ss) < ss.length := by rw [fstB_none hb2]; omega
  rw [if_neg h2] at h
  have hac := acyc_of hgd hb2
  refine l_intro (ι := Nat) (fun i => [.int .i64 i]) (fun i w' => i ≤ ss.length ∧ (∀ j, j < i → bad3 ss j = false) ∧ StX noX w r w' []) (fun i => ss.length - i) 0 rfl ⟨Nat.zero_le _, fun j hj => by omega, S⟩ ?_
  clear S hie hge hi
  rintro i d w5 ⟨hi, hb3, S⟩ K1 hK1
  rw [List.getD_cons_zero]
  (first | refine s_p ?_ | refine s_c (by omega) ?_)
  (first | refine s_p ?_ | refine s_c (by omega) ?_)
  refine c_b (fun hlt => ?_) (fun hge => ?_)
  · have hlt : i < ss.length := by simpa using hlt
    refine p_build (cs := #[.int .u8 5, .bool false, .int .i64 0, .int .i64 i, .slice none 0 0]) (by kernel_rfl) ?_
    refine c_ref06_words hgd hac 40 (t := .mk 5 false 0 i []) (most := 16) (by decide) (by decide) (by have := rk_le ss (.mk 5 false 0 i []); omega) ?_ (by omega) (len8_of hb) S.holds hs (ty_leaf (r := r)) fun w9 e9 => ?_
    · rw [lookB_succ]
      simp [TyD.k, TyD.m, TyD.re, TyD.of, TyD.st]
      omega
    have S := S.go e9
    (first | refine s_p ?_ | refine s_c (by omega) ?_)
    rw [show decide ((((min (wF ss 40 (.mk 5 false 0 i [])) (16 + 1) : Nat) : Int)) > 16) = decide (16 < wF ss 40 (.mk 5 false 0 i [])) from decide_eq_decide.2 (by omega)]
    refine c_b (fun hy => ?_) (fun hn => ?_)
    · have hf := fstB_some (p := bad3 ss) hlt hy hb3
      rw [hf, if_pos hlt] at h
      exact h _ S.ext
    · (first | refine s_p ?_ | refine s_c (by omega) ?_)
      rw [show ((i : Int) + 1) = ((i + 1 : Nat) : Int) by omega]
      refine hK1 (i + 1) _ ⟨hlt, fun j hj => ?_, S⟩ (by omega)
      by_cases hji : j = i
      · rw [hji]; exact hn
      · exact hb3 j (by omega)
  have hie : i = ss.length := by
    have : ¬ i < ss.length := by simpa using hge
    omega
  rw [hie] at hb3
  have h3 : ¬ fstB ss.length (bad3 ss) < ss.length := by rw [fstB_none hb3]; omega
  rw [if_neg h3] at h
  exact h _ S.ext
theorem c_ref06_May {ss : List StD} {t : TyD} {p : Option Addr} {cap : Nat} {w : World} {r : Gh} {v : Value} {K : Value → World → Prop} (hr : Holds r w) (hs : StG r p ss) (hm : ss.length ≤ 1000000000) (hmf : ∀ k, (tysAt ss k).length ≤ 1000000000) (hv : TyG r v t)
    (h : ∀ w', Ext w w' → K (.bool (mayB ss t)) w') : oCall Tryd.prog Tryd.n_ref06_May #[.slice p ss.length cap, v] w K := by
  refine Tryd.ok_ref06_May ?_
  unfold Tryd.F_ref06_May
  have hv0 := hv
  obtain ⟨p1, cap1, rfl, _⟩ := hv
  have S := St.start hr
  refine S.box fun b3 w1 S => ?_
  refine c_ref06_Structs S.holds hs hm hmf fun w2 e2 => ?_
  have S := S.go e2
  (first | refine s_p ?_ | refine s_c (by omega) ?_)
  (first | refine s_p ?_ | refine s_c (by omega) ?_)
  (first | refine s_p ?_ | refine s_c (by omega) ?_)
  refine j_bandE (c := lookB ss.length 48 t) (fun _ K2 hK2 => ?_) fun w3 e3 => h _ (S.go e3).ext
  (first | refine S.ld ?_ | refine S.ldB ?_ | refine S.ce ?_ | refine S.ceB ?_)
  (first | refine s_p ?_ | refine s_c (by omega) ?_)
  exact c_ref06_look 48 (by decide) S.holds hv0 fun w3 e3 => hK2 _ e3
theorem c_ref06_Words {ss : List StD} {t : TyD} {p : Option Addr} {cap : Nat} {w : World} {r : Gh} {v : Value} {K : Value → World → Prop} (hr : Holds r w) (hs : StG r p ss) (hm : ss.length ≤ 1000000000) (hmf : ∀ k, (tysAt ss k).length ≤ 1000000000) (hv : TyG r v t)
    (h : ∀ w', Ext w w' → K (.tuple #[.int .i64 (wordsT ss t).1, .int .i64 (wordsT ss t).2]) w') : oCall Tryd.prog Tryd.n_ref06_Words #[.slice p ss.length cap, v] w K := by
  refine Tryd.ok_ref06_Words ?_
  unfold Tryd.F_ref06_Words
  have hv0 := hv
  obtain ⟨p1, cap1, rfl, _⟩ := hv
  have S := St.start hr
  refine S.box fun b3 w1 S => ?_
  (first | refine S.ld ?_ | refine S.ldB ?_ | refine S.ce ?_ | refine S.ceB ?_)
  refine c_ref06_May S.holds hs hm hmf hv0 fun w2 e2 => ?_
  have S := S.go e2
  (first | refine s_p ?_ | refine s_c (by omega) ?_)
  refine c_b (fun hn => ?_) (fun hn => ?_)
  · have hn : mayB ss t = false := by simpa using hn
    rw [wordsT, hn] at h
    exact h _ S.ext
  have hn : mayB ss t = true := by simpa using hn
  rw [wordsT, if_pos hn] at h
  obtain ⟨hok, hl⟩ := may_ok hn
  obtain ⟨h32, hb1, hg, hac, _, _⟩ := structs_ok hok
  (first | refine S.ld ?_ | refine S.ldB ?_ | refine S.ce ?_ | refine S.ceB ?_)
  exact c_ref06_words hg hac 40 (most := 16) (by decide) (by decide) (by have := rk_le ss t; omega) hl h32 (len8_of hb1) S.holds hs hv0 fun w3 e3 => h _ (S.go e3).ext
theorem c_ref06_Drops {ss : List StD} {t : TyD} {p : Option Addr} {cap : Nat} {w : World} {r : Gh} {v : Value} {K : Value → World → Prop} (hr : Holds r w) (hs : StG r p ss) (hm : ss.length ≤ 1000000000) (hmf : ∀ k, (tysAt ss k).length ≤ 1000000000) (hv : TyG r v t)
    (h : ∀ w', Ext w w' → K (.tuple #[.bool (dropsT ss t).1, .int .i64 (dropsT ss t).2]) w') : oCall Tryd.prog Tryd.n_ref06_Drops #[.slice p ss.length cap, v] w K := by
  refine Tryd.ok_ref06_Drops ?_
  unfold Tryd.F_ref06_Drops
  have hv0 := hv
  obtain ⟨p1, cap1, rfl, _⟩ := hv
  have S := St.start hr
  refine S.box fun b3 w1 S => ?_
  (first | refine S.ld ?_ | refine S.ldB ?_ | refine S.ce ?_ | refine S.ceB ?_)
  refine c_ref06_May S.holds hs hm hmf hv0 fun w2 e2 => ?_
  have S := S.go e2
  (first | refine s_p ?_ | refine s_c (by omega) ?_)
  refine c_b (fun hn => ?_) (fun hn => ?_)
  · have hn : mayB ss t = false := by simpa using hn
    rw [dropsT, hn] at h
    exact h _ S.ext
  have hn : mayB ss t = true := by simpa using hn
  rw [dropsT, if_pos hn] at h
  obtain ⟨hok, hl⟩ := may_ok hn
  obtain ⟨h32, hb1, hg, hac, _, _⟩ := structs_ok hok
  (first | refine S.ld ?_ | refine S.ldB ?_ | refine S.ce ?_ | refine S.ceB ?_)
  exact c_ref06_drops hg hac 40 (by decide) (by have := rk_le ss t; omega) hl h32 (len8_of hb1) S.holds hs hv0 fun w3 e3 => h _ (S.go e3).ext
end Go.Proofs
end

section
namespace Go.Proofs
open Go.Sh
set_option maxRecDepth 100000
set_option linter.unusedSimpArgs false
set_option linter.unusedVariables false
theorem c_law06_fits {ss : List StD} {p : Option Addr} {cap : Nat} {w : World} {r : Gh} {K : Value → World → Prop} (hr : Holds r w) (hs : StG r p ss)
    (h : ∀ (b : Bool) w', (b = true → ss.length ≤ 100 ∧ ∀ k, (tysAt ss k).length ≤ 100) → Ext w w' → K (.bool b) w') : oCall Tryd.prog Tryd.n_law06_fits #[.slice p ss.length cap] w K := by
  refine Tryd.ok_law06_fits ?_
  unfold Tryd.F_law06_fits
  have S := St.start hr
  (first | refine s_p ?_ | refine s_c (by omega) ?_)
  (first | refine s_p ?_ | refine s_c (by omega) ?_)
  refine c_b (fun _ => h _ _ (fun hh => by cases hh) S.ext) (fun hsm => ?_)
  have hsm : ss.length ≤ 100 := by have := of_decide_eq_false hsm; omega
  refine l_intro (ι := Nat) (fun i => [.int .i64 i]) (fun i w' => i ≤ ss.length ∧ (∀ j, j < i → (tysAt ss j).length ≤ 100) ∧ StX noX w r w' []) (fun i => ss.length - i) 0 rfl ⟨Nat.zero_le _, fun j hj => by omega, S⟩ ?_
  clear S
  rintro i d w1 ⟨hi, hb, S⟩ K1 hK1
  rw [List.getD_cons_zero]
  (first | refine s_p ?_ | refine s_c (by omega) ?_)
  (first | refine s_p ?_ | refine s_c (by omega) ?_)
  refine c_b (fun hlt => ?_) (fun hge => ?_)
  · have hlt : i < ss.length := by simpa using hlt
    obtain ⟨b, off, q, capq, rfl, hcell, hq0, hqc, hf⟩ := st_at hs hlt
    (first | refine s_p ?_ | refine s_c (by omega) ?_)
    (first | refine s_p ?_ | refine s_c (by omega) ?_)
    refine s_ld1 (by rw [Int.toNat_natCast]; exact S.at hcell) ?_
    have hlen := tysAt_len hlt
    (first | refine s_p ?_ | refine s_c (by omega) ?_)
    (first | refine s_p ?_ | refine s_c (by omega) ?_)
    refine c_b (fun _ => h _ _ (fun hh => by cases hh) S.ext) (fun hfl => ?_)
    have hfl : ss[i].fs.length ≤ 100 := by have := of_decide_eq_false hfl; omega
    refine l_intro (ι := Nat) (fun k => [.int .i64 k]) (fun k w' => k ≤ ss[i].fs.length ∧ StX noX w r w' []) (fun k => ss[i].fs.length - k) 0 rfl ⟨Nat.zero_le _, S⟩ ?_
    clear S
    rintro k d w2 ⟨hk, S⟩ K5 hK5
    rw [List.getD_cons_zero]
    (first | refine s_p ?_ | refine s_c (by omega) ?_)
    (first | refine s_p ?_ | refine s_c (by omega) ?_)
    refine s_ld1 (by rw [Int.toNat_natCast]; exact S.at hcell) ?_
    (first | refine s_p ?_ | refine s_c (by omega) ?_)
    (first | refine s_p ?_ | refine s_c (by omega) ?_)
    refine c_b (fun hlt2 => ?_) (fun hge2 => ?_)
    · have hlt2 : k < ss[i].fs.length := by simpa using hlt2
      (first | refine s_p ?_ | refine s_c (by omega) ?_)
      (first | refine s_p ?_ | refine s_c (by omega) ?_)
      refine s_ld1 (by rw [Int.toNat_natCast]; exact S.at hcell) ?_
      obtain ⟨b2, off2, c, rfl, hcl, hcc, hty⟩ := fl_at hf hlt2
      (first | refine s_p ?_ | refine s_c (by omega) ?_)
      (first | refine s_p ?_ | refine s_c (by omega) ?_)
      refine s_ldN (n := 5) (c := c) hcl (fun j v hj => by
        have := S.at (hcc (j + 1) v (by simpa using hj))
        rw [Int.toNat_natCast, Nat.add_assoc _ 1 j, Nat.add_comm 1 j]; exact this) ?_
      refine c_law06_typeFits 60 (by decide) (by decide) (by decide) S.holds hty fun x w3 e3 => ?_
      have S := S.go e3
      (first | refine s_p ?_ | refine s_c (by omega) ?_)
      refine c_b (fun _ => h _ _ (fun hh => by cases hh) S.ext) (fun _ => ?_)
      (first | refine s_p ?_ | refine s_c (by omega) ?_)
      rw [show ((k : Int) + 1) = ((k + 1 : Nat) : Int) by omega]
      exact hK5 (k + 1) _ ⟨hlt2, S⟩ (by omega)
    · (first | refine s_p ?_ | refine s_c (by omega) ?_)
      rw [show ((i : Int) + 1) = ((i + 1 : Nat) : Int) by omega]
      refine hK1 (i + 1) _ ⟨hlt, fun j hj => ?_, S⟩ (by omega)
      by_cases hji : j = i
      · rw [hji, hlen]; exact hfl
      · exact hb j (by omega)
  · have hie : i = ss.length := by
      have : ¬ i < ss.length := by simpa using hge
      omega
    refine h _ _ (fun _ => ⟨hsm, fun k => ?_⟩) S.ext
    by_cases hk : k.toNat < ss.length
    · have := hb k.toNat (by omega)
      rw [show tysAt ss k = tysAt ss (k.toNat : Int) by rw [tysAt, tysAt, Int.toNat_natCast]]
      exact this
    · rw [tysAt_out hk]; simp
/-! ### Lists of types -/
/-- the union of some of a family -/
def un (gs : Nat → Gh) (i n : Nat) : Gh := fun b o => ∃ j, i ≤ j ∧ j < n ∧ gs j b o
/-- a slice of types; those inside each have memory of their own -/
structure FdsG (top : Gh) (gs : Nat → Gh) (q : Option Addr) (ts : List TyD) : Prop where
  at' : ∀ (i : Nat) (hi : i < ts.length), ∃ (b off : Nat) (c : List Value), q = some ⟨b, off, none⟩ ∧ c.length = 5 ∧ (∀ j v, c[j]? = some v → Ob top fun w => w.cell? ⟨b, off + i * 5 + j, none⟩ = some v) ∧ TyG (gs i) (.agg c.toArray) ts[i] ∧ ChnG (gs i) (.agg c.toArray) ts[i]
  dis : ∀ i j, i ≠ j → i < ts.length → j < ts.length → Dis (gs i) (gs j)
  dtop : ∀ i, i < ts.length → Dis (gs i) top
/-- a slice of types -/
def TysG (s : Gh) (q : Option Addr) (ts : List TyD) : Prop :=
  ∀ (i : Nat) (hi : i < ts.length), ∃ (b off : Nat) (c : List Value), q = some ⟨b, off, none⟩ ∧ c.length = 5 ∧ (∀ j v, c[j]? = some v → Ob s fun w => w.cell? ⟨b, off + i * 5 + j, none⟩ = some v) ∧ TyG s (.agg c.toArray) ts[i]
theorem ChnL.frz2 {X : Nat → Prop} {w0 w : World} {c : List Value} {t : TyD} {N : List Asr} (h : ChnL c t N) : ∀ {r : Gh} {L : List Asr}, StX X w0 r w (N ++ L) →
    ∃ sn, StX X w0 (r.or sn) w L ∧ TyG sn (.agg c.toArray) t ∧ ChnG sn (.agg c.toArray) t ∧ (∀ b o, sn b o → w0.heap.size ≤ b ∨ X b) ∧ Dis sn r := by
  induction h with
  | nil =>
    intro r L S
    exact ⟨nothing, S.to _, ty_leaf, .nil, fun _ _ h => h.elim, fun _ _ _ h => h.elim⟩
  | @one b c k re st m u N hu ih =>
    intro r L S
    have S : StX X w0 r w (N ++ (.cell b c 25 :: L)) := S.perm List.perm_middle.symm
    have hm0 := S.mine (.cell b c 25) (by simp) b rfl
    obtain ⟨sn, S, ht, hg, hf, hd⟩ := ih S
    have hm := S.mine (.cell b c 25) (by simp) b rfl
    have S := S.frz
    refine ⟨sn.or (Go.Sh.one b c 25), S.to _, ty_one ht, .one (fun o ho => hm.2 o (.inr ho)) hu.len ht hg, fun b' o ho => ?_, fun b' o o' ho hr => ?_⟩
    · rcases ho with ho | ⟨rfl, _⟩
      · exact hf b' o ho
      · exact hm.1
    · rcases ho with ho | ⟨rfl, _⟩
      · exact hd b' o o' ho hr
      · exact hm0.2 o' hr
theorem chn_lit {c : List Value} {t : TyD} {N : List Asr} (h : ChnL c t N) : bslT Tryd.prog 23 1 #[(0, .agg c.toArray)] = some (25, c) := by
  cases h <;> kernel_rfl
/-- what Fields tells -/
noncomputable def fieldsT (ss : List StD) (t : TyD) : List TyD × Int := if mayB ss t && decide (t.k = 5) then (tysAt ss t.st, 0) else ([], 2)
theorem c_types_Fields {ss : List StD} {t : TyD} {p : Option Addr} {cap : Nat} {w : World} {r : Gh} {v : Value} {K : Value → World → Prop} (hr : Holds r w) (hs : StG r p ss) (hv : TyG r v t)
    (h : ∀ q cp top gs w', Ext w w' → New w (top.or (un gs 0 (fieldsT ss t).1.length)) w' → FdsG top gs q (fieldsT ss t).1 → (fieldsT ss t).1.length ≤ cp → K (.tuple #[.slice q (fieldsT ss t).1.length cp, .int .i64 (fieldsT ss t).2]) w') : oCall Tryd.prog Tryd.n_types_Fields #[.slice p ss.length cap, v] w K := by
  refine Tryd.ok_types_Fields ?_
  unfold Tryd.F_types_Fields
  have hv0 := hv
  obtain ⟨p1, cap1, rfl, _⟩ := hv
  have S := St.start hr
  refine S.box fun b3 w1 S => ?_
  (first | refine S.ld ?_ | refine S.ldB ?_ | refine S.ce ?_ | refine S.ceB ?_)
  refine c_types_May S.holds hs hv0 fun w2 e2 => ?_
  have S := S.go e2
  (first | refine s_p ?_ | refine s_c (by omega) ?_)
  refine j_borH (c := decide (t.k ≠ 5)) (fun _ K2 hK2 => ?_) ?_
  · (repeat (first | refine s_p ?_ | refine s_c (by omega) ?_ | refine S.ld ?_ | refine S.ldB ?_ | refine S.ce ?_ | refine S.ceB ?_ | refine s_q ?_ | refine s_qc (by omega) ?_ | refine n_some ?_ | rw [List.getD_cons_zero] | rw [List.getD_cons_succ]))
    exact hK2
  refine c_b (fun hn => ?_) (fun hn => ?_)
  · have hn : (mayB ss t && decide (t.k = 5)) = false := by
      cases hm : mayB ss t
      · rfl
      · rw [hm] at hn; simpa using hn
    rw [fieldsT, hn] at h
    exact h none 0 nothing (fun _ => nothing) _ S.ext ⟨fun b o ho => by rcases ho with ho | ⟨_, _, _, ho⟩ <;> exact ho.elim, fun b o ho => by rcases ho with ho | ⟨_, _, _, ho⟩ <;> exact ho.elim⟩
      ⟨fun i hi => by simp at hi, fun i j _ hi => by simp at hi, fun i hi => by simp at hi⟩ (Nat.le_refl _)
  have hn : mayB ss t = true ∧ t.k = 5 := by
    cases hm : mayB ss t
    · rw [hm] at hn; simp at hn
    · rw [hm] at hn; exact ⟨rfl, by simpa using hn⟩
  obtain ⟨hm, h5⟩ := hn
  rw [fieldsT, hm, decide_eq_true h5] at h
  simp only [Bool.and_true, if_true] at h
  obtain ⟨hok, hl⟩ := may_ok hm
  obtain ⟨h32, hb1, hg, hac, _, _⟩ := structs_ok hok
  obtain ⟨hst0, hst1, _⟩ := look_st hl h5
  have hlt : t.st.toNat < ss.length := by omega
  obtain ⟨b, off, q, capq, rfl, hcell, _, _, hf⟩ := st_at hs hlt
  have htl : tysAt ss t.st = ss[t.st.toNat].fs.map (·.2) := by
    rw [← tysAt_eq hlt]; simp only [tysAt, Int.toNat_natCast]
  have hlen : (tysAt ss t.st).length = ss[t.st.toNat].fs.length := by rw [htl, List.length_map]
  have h88 := len8_of hb1 t.st
  (repeat (first | refine s_p ?_ | refine s_c (by omega) ?_ | refine S.ld ?_ | refine S.ldB ?_ | refine S.ce ?_ | refine S.ceB ?_ | refine s_q ?_ | refine s_qc (by omega) ?_ | refine n_some ?_ | rw [List.getD_cons_zero] | rw [List.getD_cons_succ]))
  refine s_ld1 (S.at hcell) ?_
  (first | refine s_p ?_ | refine s_c (by omega) ?_)
  have S := S.tl
  have S := S.ownNil 25 5
  have S := S.to (r.or (un (fun _ => nothing) 0 0)) (l := ⟨fun b o ho => by rcases ho with ho | ⟨_, _, h2, _⟩; exact ho; omega⟩)
  refine l_intro (ι := Nat × Value × List Value × (Nat → Gh)) (fun i => [i.2.1, .int .i64 i.1]) (fun i w' => i.1 ≤ (tysAt ss t.st).length ∧ i.2.2.1.length = i.1 * 5 ∧
      (∀ j (hj : j < (tysAt ss t.st).length), j < i.1 → ((i.2.2.1.drop (j * 5)).take 5).length = 5 ∧ TyG (i.2.2.2 j) (.agg ((i.2.2.1.drop (j * 5)).take 5).toArray) (tysAt ss t.st)[j] ∧ ChnG (i.2.2.2 j) (.agg ((i.2.2.1.drop (j * 5)).take 5).toArray) (tysAt ss t.st)[j]) ∧
      (∀ j, j < i.1 → ∀ b o, i.2.2.2 j b o → w.heap.size ≤ b) ∧ (∀ j k, j ≠ k → j < i.1 → k < i.1 → Dis (i.2.2.2 j) (i.2.2.2 k)) ∧ StX noX w (r.or (un i.2.2.2 0 i.1)) w' [.row i.2.1 25 5 i.1 i.2.2.1])
    (fun i => (tysAt ss t.st).length - i.1) (0, .slice none 0 0, [], fun _ => nothing) rfl ⟨Nat.zero_le _, rfl, fun j _ hj => by omega, fun j hj => by omega, fun j k _ hj => by omega, S⟩ ?_
  clear S
  rintro ⟨i, v, xs, gs⟩ d w3 ⟨hi, hxl, hel, hfr, hdis, S⟩ K7 hK7
  simp only at hi hxl hel hfr hdis S ⊢
  rw [List.getD_cons_zero, List.getD_cons_succ, List.getD_cons_zero]
  (first | refine s_p ?_ | refine s_c (by omega) ?_)
  refine c_b (fun hlt2 => ?_) (fun hge => ?_)
  · have hlt2 : i < ss[t.st.toNat].fs.length := by simpa using hlt2
    have hlt3 : i < (tysAt ss t.st).length := by omega
    have hel2 : (tysAt ss t.st)[i] = ss[t.st.toNat].fs[i].2 := by simp only [htl, List.getElem_map]
    have hmem : ss[t.st.toNat].fs[i].2 ∈ tysAt ss t.st := by rw [← hel2]; exact List.getElem_mem hlt3
    obtain ⟨b2, off2, c, rfl, hcl, hcc, hty⟩ := fl_at hf hlt2
    (first | refine s_p ?_ | refine s_c (by omega) ?_)
    refine s_ldN (n := 6) (c := .string ss[t.st.toNat].fs[i].1 :: c) (by simp [hcl]) (fun j v hj => by rw [Int.toNat_natCast]; exact S.at (hcc j v hj)) ?_
    refine S.al fun b8 w4 S => ?_
    refine S.stB (b := b8) (cs := (Value.string ss[t.st.toNat].fs[i].1 :: c).toArray) (fun w5 S => ?_) rfl (by simp [hcl]) (fld_ones hty)
    (first | refine s_p ?_ | refine s_c (by omega) ?_)
    refine S.fty hcl ?_
    refine c_types_own (s := ss.length) 48 (by decide) (hg _ _ hmem) S.tl hty.up fun c' N w6 hch S => ?_
    have hcl' := hch.len
    have hone' := hch.ones
    obtain ⟨sn, S, ht, hcg, hfn, hdn⟩ := hch.frz2 S
    refine S.lit (e := 25) (cs := c') (chn_lit hch) fun b33 w7 S => ?_
    refine S.ap (m' := 1) (Sl.blk (S.blk b33)) (fun v34 w8 S => ?_) (by omega) (by omega) (by simp) hone'
    have S := S.tl
    (first | refine s_p ?_ | refine s_c (by omega) ?_)
    rw [show ((i : Int) + 1) = ((i + 1 : Nat) : Int) by omega]
    refine hK7 (i + 1, v34, xs ++ c', fun j => if j = i then sn else gs j) _ ⟨hlt3, by simp only [List.length_append]; omega, fun j hj hji => ?_, fun j hj b o ho => ?_, fun j k hjk hj hk => ?_, ?_⟩ (by simp only; omega)
    · by_cases hji' : j = i
      · subst hji'
        simp only [if_true]
        have e : ((xs ++ c').drop (j * 5)).take 5 = c' := by
          rw [← hxl, List.drop_left', List.take_of_length_le (by omega)]; rfl
        rw [e, hel2]
        exact ⟨hcl', ht, hcg⟩
      · simp only [if_neg hji']
        have e : ((xs ++ c').drop (j * 5)).take 5 = (xs.drop (j * 5)).take 5 := by
          rw [List.drop_append_of_le_length (by omega), List.take_append_of_le_length (by rw [List.length_drop]; omega)]
        rw [e]
        exact hel j hj (by omega)
    · simp only at ho
      split at ho
      · exact (hfn b o ho).elim id fun h => h.elim
      · exact hfr j (by omega) b o ho
    · simp only
      by_cases h1 : j = i
      · rw [if_pos h1, if_neg (by omega)]
        exact fun b o o' ho ho' => hdn b o o' ho (.inr ⟨k, Nat.zero_le _, by omega, ho'⟩)
      · rw [if_neg h1]
        by_cases h2 : k = i
        · rw [if_pos h2]
          exact fun b o o' ho ho' => hdn b o' o ho' (.inr ⟨j, Nat.zero_le _, by omega, ho⟩)
        · rw [if_neg h2]
          exact hdis j k hjk (by omega) (by omega)
    · simp only
      exact S.to _ (l := ⟨fun b o ho => by
        rcases ho with ho | ⟨j, _, hj, ho⟩
        · exact .inl (.inl ho)
        · split at ho
          · exact .inr ho
          · exact .inl (.inr ⟨j, Nat.zero_le _, by omega, ho⟩)⟩)
  · have hge : i = (tysAt ss t.st).length := by
      have : ¬ i < ss[t.st.toNat].fs.length := by simpa using hge
      omega
    subst hge
    have hpos : (tysAt ss t.st).length ≠ 0 := by
      have := hb1 t.st.toNat hlt
      have e : tysAt ss (t.st.toNat : Int) = tysAt ss t.st := by rw [tysAt, tysAt, Int.toNat_natCast]
      rw [bad1, e, Bool.or_eq_false_iff, Bool.or_eq_false_iff] at this
      simp only [decide_eq_false_iff_not] at this
      omega
    obtain ⟨b9, cap9, c9, rfl, hc9, hcl9, htk9, S⟩ := S.rowCell v hpos
    have hm9 := S.mine (.cell b9 c9 25) (by simp) b9 rfl
    have S := S.frz
    refine h _ _ (one b9 c9 25) gs _ S.ext ⟨S.holds.le (h := ⟨fun b o ho => by
      rcases ho with ho | ho
      · exact .inr ho
      · exact .inl (.inr ho)⟩), fun b o ho => ?_⟩ ⟨fun j hj => ?_, fun j k hjk hj hk => hdis j k hjk hj hk, fun j hj b o o' ho ho' => ?_⟩ hc9
    · rcases ho with ⟨rfl, _⟩ | ⟨j, _, hj, ho⟩
      · exact hm9.1.resolve_right id
      · exact hfr j hj b o ho
    · obtain ⟨h1, h2, h3⟩ := hel j hj hj
      refine ⟨b9, 0, _, rfl, h1, fun k v hk w' hw => ?_, h2, h3⟩
      have B := one_blk (b := b9) (c := c9) (T := 25) w' hw
      show w'.cell? _ = some v
      rw [Nat.zero_add, B.cell]
      have hk5 : k < 5 := by have := (List.getElem?_eq_some_iff.1 hk).1; omega
      rw [List.getElem?_take, if_pos hk5, List.getElem?_drop, ← htk9, List.getElem?_take] at hk
      split at hk
      · exact hk
      · cases hk
    · obtain ⟨rfl, _⟩ := ho'
      exact hm9.2 o (.inr ⟨j, Nat.zero_le _, hj, ho⟩)
/-- a node, whatever room its slice has -/
theorem ty_oneC {r : Gh} {cs c : List Value} {u : TyD} {b cap : Nat} {k re st : Int} {m : Bool} (h : TyG r (.agg cs.toArray) u) (hc : c.take 5 = cs) (hcap : 1 ≤ cap) :
    TyG (r.or (one b c 25)) (.agg #[.int .u8 k, .bool m, .int .i64 re, .int .i64 st, .slice (some ⟨b, 0, none⟩) 1 cap]) (.mk k m re st [u]) := by
  obtain ⟨c1, hc1, hcl, hr⟩ := h.rep
  have hc1 : cs = c1 := List.toArray_inj (Value.agg.inj hc1)
  subst hc1
  refine ⟨_, cap, rfl, by simp, hcap, ?_⟩
  refine ⟨⟨cs, hcl, fun j x hj => ⟨b, 0, rfl, fun w hw => ?_⟩, hr.up⟩, trivial⟩
  have B := one_blk (b := b) (c := c) (T := 25) w (hw.le (h := inferInstance))
  show w.cell? ⟨b, 0 + 0 * 5 + j, none⟩ = some x
  rw [show 0 + 0 * 5 + j = j by omega, B.cell]
  rw [← hc, List.getElem?_take] at hj
  split at hj
  · exact hj
  · cases hj
theorem c_ref06_Own {s : Int} : ∀ (n : Nat) {t : TyD} {w : World} {r : Gh} {v : Value} {K : Value → World → Prop}, n ≤ 1000 → lookB s n t = true → Holds r w → TyG r v t →
    (∀ v' sn w', Ext w w' → New w sn w' → TyG sn v' t → K v' w') → oCall Tryd.prog Tryd.n_ref06_Own #[v] w K := by
  intro n
  induction n with
  | zero => intro t w r v K _ h; cases h
  | succ n ih =>
    intro t w r v K hn hl hr hv h
    refine Tryd.ok_ref06_Own ?_
    unfold Tryd.F_ref06_Own
    obtain ⟨p1, cap1, rfl, hp1, hcap1, hof⟩ := hv
    have S := St.start hr
    refine S.box fun b1 w1 S => ?_
    refine S.al fun b2 w2 S => ?_
    have S : StX noX w r w2 [.cell b2 [.int .u8 0, .bool false, .int .i64 0, .int .i64 0, .slice none 0 0] 25, .cell b1 [.int .u8 t.k, .bool t.m, .int .i64 t.re, .int .i64 t.st, .slice p1 t.of.length cap1] 25] := S
    have he : t = .mk t.k t.m t.re t.st t.of := by cases t; rfl
    (repeat (first | refine s_p ?_ | refine s_c (by omega) ?_ | refine S.ld ?_ | refine S.ldB ?_ | refine S.ce ?_ | refine S.ceB ?_ | refine s_q ?_ | refine s_qc (by omega) ?_ | refine n_some ?_ | rw [List.getD_cons_zero] | rw [List.getD_cons_succ]))
    refine S.st fun w3 S => ?_
    have fin : ∀ {w9 : World} {q : Gh} {v9 : Value}, StX noX w q w9 [.cell b2 [.int .u8 0, .bool false, .int .i64 0, .int .i64 0, .slice none 0 0] 25, .cell b1 [.int .u8 t.k, .bool t.m, .int .i64 t.re, .int .i64 t.st, v9] 25] → v9.oneCell' = true →
        (∃ sn, Le sn q ∧ (∀ b o, sn b o → w.heap.size ≤ b) ∧ TyG sn (.agg #[.int .u8 t.k, .bool t.m, .int .i64 t.re, .int .i64 t.st, v9]) t) →
        opQ Tryd.prog w9 (Instr.loadAt 25 (.pointer (some ⟨b1, 0, none⟩))) fun t24 => opU Tryd.prog w9 (Instr.storeAt 25 (.pointer (some ⟨b2, 0, none⟩)) t24) fun w12 => opQ Tryd.prog w12 (cellSem 25 (.pointer (some ⟨b2, 0, none⟩))) fun r13 => K r13 w12 := by
      intro w9 q v9 S h1 ⟨sn, hle, hf, hty⟩
      (repeat (first | refine s_p ?_ | refine s_c (by omega) ?_ | refine S.ld ?_ | refine S.ldB ?_ | refine S.ce ?_ | refine S.ceB ?_ | refine s_q ?_ | refine s_qc (by omega) ?_ | refine n_some ?_ | rw [List.getD_cons_zero] | rw [List.getD_cons_succ]))
      refine S.stB (h1 := by
        intro u hu
        simp only [List.mem_cons, List.not_mem_nil, or_false] at hu
        rcases hu with rfl | rfl | rfl | rfl | rfl <;> first | rfl | exact h1) fun w7 S => ?_
      (repeat (first | refine s_p ?_ | refine s_c (by omega) ?_ | refine S.ld ?_ | refine S.ldB ?_ | refine S.ce ?_ | refine S.ceB ?_ | refine s_q ?_ | refine s_qc (by omega) ?_ | refine n_some ?_ | rw [List.getD_cons_zero] | rw [List.getD_cons_succ]))
      exact h _ sn _ S.ext ⟨S.holds.le (h := hle), hf⟩ hty
    rcases look_cases hl with ⟨ho, _⟩ | ⟨u, ho, hu, _⟩
    · refine l_intro (ι := Unit) (fun _ => [.int .i64 0]) (fun _ w' => w' = w3) (fun _ => 0) () rfl rfl ?_
      rintro ⟨⟩ d w5 rfl K6 hK6
      rw [List.getD_cons_zero]
      (first | refine s_p ?_ | refine s_c (by omega) ?_)
      (first | refine s_p ?_ | refine s_c (by omega) ?_)
      refine c_f (by rw [ho]; rfl) ?_
      refine fin S rfl ⟨nothing, inferInstance, fun _ _ h => h.elim, ?_⟩
      rw [he, ho]
      exact ty_leaf
    · have hlen : t.of.length = 1 := by rw [ho]; rfl
      have S3 := S
      obtain ⟨ba, oa, rfl, c, hc, hcell, ht⟩ := NdG.of hof (i := 0) (by omega)
      have ht : TyG r (.agg c.toArray) u := by simpa [ho] using ht
      refine l_intro (ι := Bool) (fun i => [.int .i64 (if i then 1 else 0)]) (fun i w' => if i then ∃ q v9, StX noX w q w' [.cell b2 [.int .u8 0, .bool false, .int .i64 0, .int .i64 0, .slice none 0 0] 25, .cell b1 [.int .u8 t.k, .bool t.m, .int .i64 t.re, .int .i64 t.st, v9] 25] ∧ v9.oneCell' = true ∧
          ∃ sn, Le sn q ∧ (∀ b o, sn b o → w.heap.size ≤ b) ∧ TyG sn (.agg #[.int .u8 t.k, .bool t.m, .int .i64 t.re, .int .i64 t.st, v9]) t
        else StX noX w r w' [.cell b2 [.int .u8 0, .bool false, .int .i64 0, .int .i64 0, .slice none 0 0] 25, .cell b1 [.int .u8 t.k, .bool t.m, .int .i64 t.re, .int .i64 t.st, .slice none 0 0] 25]) (fun i => if i then 0 else 1) false rfl S3 ?_
      clear S S3
      rintro i d w5 hI K6 hK6
      rw [List.getD_cons_zero]
      (first | refine s_p ?_ | refine s_c (by omega) ?_)
      cases i with
      | true =>
        obtain ⟨q, v9, S, h1, hx⟩ := hI
        (first | refine s_p ?_ | refine s_c (by omega) ?_)
        refine c_f (by rw [hlen]; rfl) ?_
        exact fin S h1 hx
      | false =>
        have S : StX noX w r w5 [.cell b2 [.int .u8 0, .bool false, .int .i64 0, .int .i64 0, .slice none 0 0] 25, .cell b1 [.int .u8 t.k, .bool t.m, .int .i64 t.re, .int .i64 t.st, .slice none 0 0] 25] := hI
        (first | refine s_p ?_ | refine s_c (by omega) ?_)
        refine c_t (by rw [hlen]; rfl) ?_
        have S := S.go (Ext.drew _)
        simp only [Bool.false_eq_true, if_false]
        (repeat (first | refine s_p ?_ | refine s_c (by omega) ?_ | refine S.ld ?_ | refine S.ldB ?_ | refine S.ce ?_ | refine S.ceB ?_ | refine s_q ?_ | refine s_qc (by omega) ?_ | refine n_some ?_ | rw [List.getD_cons_zero] | rw [List.getD_cons_succ]))
        refine s_ldN (n := 5) hc (fun j v hj => by simpa using S.at (hcell j v hj)) ?_
        refine ih (by omega) hu S.holds ht fun v4 sn w6 e6 n6 ht6 => ⟨e6, ?_⟩
        obtain ⟨S, _, hf⟩ := S.tell e6 n6
        obtain ⟨p6, cap6, rfl, _⟩ := id ht6
        refine S.litU (e := 25) (cs := [.int .u8 u.k, .bool u.m, .int .i64 u.re, .int .i64 u.st, .slice p6 u.of.length cap6]) (by kernel_rfl) fun b7 w7 S => ?_
        have S := S.ownNil 25 5
        refine S.ap (m' := 1) (Sl.blk (S.blk b7)) (fun v8 w8 S => ?_) (by omega)
        obtain ⟨b9, cap9, c9, rfl, hc9, hcl9, htk9, S⟩ := S.rowCell v8 (by decide)
        have hm9 := S.mine (.cell b9 c9 25) (by simp) b9 rfl
        have S := S.frz
        (first | refine s_p ?_ | refine s_c (by omega) ?_)
        refine S.st (b := b1) fun w9 S => ?_
        (first | refine s_p ?_ | refine s_c (by omega) ?_)
        refine hK6 true _ ⟨_, .slice (some ⟨b9, 0, none⟩) 1 cap9, S.tl, rfl, sn.or (one b9 c9 25), inferInstance, fun b o hb => ?_, ?_⟩ (by decide)
        · rcases hb with hb | ⟨rfl, _⟩
          · exact hf b o hb
          · exact hm9.1.resolve_right id
        · rw [he, ho]
          exact ty_oneC ht6 htk9 (by omega)
theorem c_ref06_Fields {ss : List StD} {t : TyD} {p : Option Addr} {cap : Nat} {w : World} {r : Gh} {v : Value} {K : Value → World → Prop} (hr : Holds r w) (hs : StG r p ss) (hm1 : ss.length ≤ 1000000000) (hmf : ∀ k, (tysAt ss k).length ≤ 1000000000) (hv : TyG r v t)
    (h : ∀ q cp sn w', Ext w w' → New w sn w' → TysG sn q (fieldsT ss t).1 → K (.tuple #[.slice q (fieldsT ss t).1.length cp, .int .i64 (fieldsT ss t).2]) w') : oCall Tryd.prog Tryd.n_ref06_Fields #[.slice p ss.length cap, v] w K := by
  refine Tryd.ok_ref06_Fields ?_
  unfold Tryd.F_ref06_Fields
  have hv0 := hv
  obtain ⟨p1, cap1, rfl, _⟩ := hv
  have S := St.start hr
  refine S.box fun b3 w1 S => ?_
  (first | refine S.ld ?_ | refine S.ldB ?_ | refine S.ce ?_ | refine S.ceB ?_)
  refine c_ref06_May S.holds hs hm1 hmf hv0 fun w2 e2 => ?_
  have S := S.go e2
  (first | refine s_p ?_ | refine s_c (by omega) ?_)
  refine j_borH (c := decide (t.k ≠ 5)) (fun _ K2 hK2 => ?_) ?_
  · (repeat (first | refine s_p ?_ | refine s_c (by omega) ?_ | refine S.ld ?_ | refine S.ldB ?_ | refine S.ce ?_ | refine S.ceB ?_ | refine s_q ?_ | refine s_qc (by omega) ?_ | refine n_some ?_ | rw [List.getD_cons_zero] | rw [List.getD_cons_succ]))
    exact hK2
  refine c_b (fun hn => ?_) (fun hn => ?_)
  · have hn : (mayB ss t && decide (t.k = 5)) = false := by
      cases hm : mayB ss t
      · rfl
      · rw [hm] at hn; simpa using hn
    rw [fieldsT, hn] at h
    exact h none 0 nothing _ S.ext New.nothing fun i hi => by simp at hi
  have hn : mayB ss t = true ∧ t.k = 5 := by
    cases hm : mayB ss t
    · rw [hm] at hn; simp at hn
    · rw [hm] at hn; exact ⟨rfl, by simpa using hn⟩
  obtain ⟨hm, h5⟩ := hn
  rw [fieldsT, hm, decide_eq_true h5] at h
  simp only [Bool.and_true, if_true] at h
  obtain ⟨hok, hl⟩ := may_ok hm
  obtain ⟨h32, hb1, hg, hac, _, _⟩ := structs_ok hok
  obtain ⟨hst0, hst1, _⟩ := look_st hl h5
  have hlt : t.st.toNat < ss.length := by omega
  obtain ⟨b, off, q, capq, rfl, hcell, _, _, hf⟩ := st_at hs hlt
  have htl : tysAt ss t.st = ss[t.st.toNat].fs.map (·.2) := by
    rw [← tysAt_eq hlt]; simp only [tysAt, Int.toNat_natCast]
  have hlen : (tysAt ss t.st).length = ss[t.st.toNat].fs.length := by rw [htl, List.length_map]
  have h88 := len8_of hb1 t.st
  (repeat (first | refine s_p ?_ | refine s_c (by omega) ?_ | refine S.ld ?_ | refine S.ldB ?_ | refine S.ce ?_ | refine S.ceB ?_ | refine s_q ?_ | refine s_qc (by omega) ?_ | refine n_some ?_ | rw [List.getD_cons_zero] | rw [List.getD_cons_succ]))
  refine s_ld1 (S.at hcell) ?_
  have S := S.tl
  have S := S.ownNil 25 5
  have S := S.to (r.or nothing) (l := ⟨fun b o ho => ho.elim id fun h => h.elim⟩)
  refine l_intro (ι := Nat × Value × List Value × Gh) (fun i => [i.2.1, .int .i64 i.1]) (fun i w' => i.1 ≤ (tysAt ss t.st).length ∧ i.2.2.1.length = i.1 * 5 ∧
      (∀ j (hj : j < (tysAt ss t.st).length), j < i.1 → ((i.2.2.1.drop (j * 5)).take 5).length = 5 ∧ TyG i.2.2.2 (.agg ((i.2.2.1.drop (j * 5)).take 5).toArray) (tysAt ss t.st)[j]) ∧
      (∀ b o, i.2.2.2 b o → w.heap.size ≤ b) ∧ StX noX w (r.or i.2.2.2) w' [.row i.2.1 25 5 i.1 i.2.2.1])
    (fun i => (tysAt ss t.st).length - i.1) (0, .slice none 0 0, [], nothing) rfl ⟨Nat.zero_le _, rfl, fun j _ hj => by omega, fun b o ho => ho.elim, S⟩ ?_
  clear S
  rintro ⟨i, v, xs, sn⟩ d w3 ⟨hi, hxl, hel, hfr, S⟩ K7 hK7
  simp only at hi hxl hel hfr S ⊢
  rw [List.getD_cons_zero, List.getD_cons_succ, List.getD_cons_zero]
  (first | refine s_p ?_ | refine s_c (by omega) ?_)
  (first | refine s_p ?_ | refine s_c (by omega) ?_)
  refine c_b (fun hlt2 => ?_) (fun hge => ?_)
  · have hlt2 : i < ss[t.st.toNat].fs.length := by simpa using hlt2
    have hlt3 : i < (tysAt ss t.st).length := by omega
    have hel2 : (tysAt ss t.st)[i] = ss[t.st.toNat].fs[i].2 := by simp only [htl, List.getElem_map]
    have hmem : ss[t.st.toNat].fs[i].2 ∈ tysAt ss t.st := by rw [← hel2]; exact List.getElem_mem hlt3
    obtain ⟨b2, off2, c, rfl, hcl, hcc, hty⟩ := fl_at hf hlt2
    (first | refine s_p ?_ | refine s_c (by omega) ?_)
    (first | refine s_p ?_ | refine s_c (by omega) ?_)
    refine s_ldN (n := 5) (c := c) hcl (fun j v hj => by
      have := S.at (hcc (j + 1) v (by simpa using hj))
      rw [Int.toNat_natCast, Nat.add_assoc _ 1 j, Nat.add_comm 1 j]; exact this) ?_
    refine c_ref06_Own (s := ss.length) 48 (by decide) (hg _ _ hmem) S.holds hty.up fun v4 s4 w4 e4 n4 ht4 => ?_
    obtain ⟨S, _, hf4⟩ := S.tell e4 n4
    obtain ⟨p4, cap4, rfl, _⟩ := id ht4
    refine S.lit (e := 25) (cs := [.int .u8 ss[t.st.toNat].fs[i].2.k, .bool ss[t.st.toNat].fs[i].2.m, .int .i64 ss[t.st.toNat].fs[i].2.re, .int .i64 ss[t.st.toNat].fs[i].2.st, .slice p4 ss[t.st.toNat].fs[i].2.of.length cap4]) (by kernel_rfl) fun b33 w7 S => ?_
    refine S.ap (m' := 1) (Sl.blk (S.blk b33)) (fun v34 w8 S => ?_) (by omega)
    have S := S.tl
    (first | refine s_p ?_ | refine s_c (by omega) ?_)
    rw [show ((i : Int) + 1) = ((i + 1 : Nat) : Int) by omega]
    refine hK7 (i + 1, v34, xs ++ [.int .u8 ss[t.st.toNat].fs[i].2.k, .bool ss[t.st.toNat].fs[i].2.m, .int .i64 ss[t.st.toNat].fs[i].2.re, .int .i64 ss[t.st.toNat].fs[i].2.st, .slice p4 ss[t.st.toNat].fs[i].2.of.length cap4], sn.or s4) _ ⟨hlt3, by simp only [List.length_append, List.length_cons, List.length_nil]; omega, fun j hj hji => ?_, fun b o ho => ho.elim (hfr b o) (hf4 b o), ?_⟩ (by simp only; omega)
    rotate_left
    · exact S.to _ (l := ⟨fun b o ho => by
        rcases ho with ho | ho | ho
        · exact .inl (.inl ho)
        · exact .inl (.inr ho)
        · exact .inr ho⟩)
    · simp only
      by_cases hji' : j = i
      · subst hji'
        rw [← hxl, List.drop_left', hel2]
        · exact ⟨rfl, ht4.up⟩
        · rfl
      · rw [List.drop_append_of_le_length (by omega), List.take_append_of_le_length (by rw [List.length_drop]; omega)]
        exact ⟨(hel j hj (by omega)).1, (hel j hj (by omega)).2.up⟩
  · have hge : i = (tysAt ss t.st).length := by
      have : ¬ i < ss[t.st.toNat].fs.length := by simpa using hge
      omega
    subst hge
    have hpos : (tysAt ss t.st).length ≠ 0 := by
      have := hb1 t.st.toNat hlt
      have e : tysAt ss (t.st.toNat : Int) = tysAt ss t.st := by rw [tysAt, tysAt, Int.toNat_natCast]
      rw [bad1, e, Bool.or_eq_false_iff, Bool.or_eq_false_iff] at this
      simp only [decide_eq_false_iff_not] at this
      omega
    obtain ⟨b9, cap9, c9, rfl, hc9, hcl9, htk9, S⟩ := S.rowCell v hpos
    have hm9 := S.mine (.cell b9 c9 25) (by simp) b9 rfl
    have S := S.frz
    refine h _ _ (sn.or (one b9 c9 25)) _ S.ext ⟨S.holds.le (h := ⟨fun b o ho => by
      rcases ho with ho | ho
      · exact .inl (.inr ho)
      · exact .inr ho⟩), fun b o ho => ?_⟩ fun j hj => ?_
    · rcases ho with ho | ⟨rfl, _⟩
      · exact hfr b o ho
      · exact hm9.1.resolve_right id
    · obtain ⟨h1, h2⟩ := hel j hj hj
      refine ⟨b9, 0, _, rfl, h1, fun k v hk w' hw => ?_, h2.up⟩
      have B := one_blk (b := b9) (c := c9) (T := 25) w' (hw.le (h := inferInstance))
      show w'.cell? _ = some v
      rw [Nat.zero_add, B.cell]
      have hk5 : k < 5 := by have := (List.getElem?_eq_some_iff.1 hk).1; omega
      rw [List.getElem?_take, if_pos hk5, List.getElem?_drop, ← htk9, List.getElem?_take] at hk
      split at hk
      · exact hk
      · cases hk
end Go.Proofs
end

section
namespace Go.Proofs
open Go.Sh
set_option maxRecDepth 100000
set_option linter.unusedSimpArgs false

def i64D : TyD := .mk 1 false 0 0 []
def refD (m : Bool) (re : Int) (u : TyD) : TyD := .mk 4 m re 0 [u]
theorem c_law06_i64 {w : World} {K : Value → World → Prop} (h : ∀ v w', Ext w w' → TyG nothing v i64D → K v w') : oCall Tryd.prog Tryd.n_law06_i64 #[] w K := by
  refine Tryd.ok_law06_i64 ?_
  unfold Tryd.F_law06_i64
  have S := St.start (r := nothing) (w := w) (fun _ _ h => h.elim)
  refine S.al fun b2 w1 S => ?_
  (first | refine s_p ?_ | refine s_c (by omega) ?_)
  refine S.stB fun w2 S => ?_
  (repeat (first | refine s_p ?_ | refine s_c (by omega) ?_ | refine S.ld ?_ | refine S.ldB ?_ | refine S.ce ?_ | refine S.ceB ?_ | refine s_q ?_ | refine s_qc (by omega) ?_ | refine n_some ?_ | rw [List.getD_cons_zero] | rw [List.getD_cons_succ]))
  exact h _ _ S.ext ty_leaf
theorem c_law06_ref {m : Bool} {re : Int} {u : TyD} {v : Value} {w : World} {r : Gh} {K : Value → World → Prop} (hr : Holds r w) (hv : TyG r v u)
    (h : ∀ v' sn w', Ext w w' → New w sn w' → TyG (r.or sn) v' (refD m re u) → K v' w') : oCall Tryd.prog Tryd.n_law06_ref #[.bool m, .int .i64 re, v] w K := by
  refine Tryd.ok_law06_ref ?_
  unfold Tryd.F_law06_ref
  have hv0 := hv
  obtain ⟨p, cap, rfl, _⟩ := hv
  have S := St.start hr
  refine S.box fun b2 w1 S => ?_
  refine S.al fun b3 w2 S => ?_
  (repeat (first | refine s_p ?_ | refine s_c (by omega) ?_ | refine S.ld ?_ | refine S.ldB ?_ | refine S.ce ?_ | refine S.ceB ?_ | refine s_q ?_ | refine s_qc (by omega) ?_ | refine n_some ?_ | rw [List.getD_cons_zero] | rw [List.getD_cons_succ]))
  have esz := S.ext.size
  refine w_lit (e := 25) (cs := [.int .u8 u.k, .bool u.m, .int .i64 u.re, .int .i64 u.st, .slice p u.of.length cap]) (by kernel_rfl) fun b9 w9 hb9 e9 _ B9 => ?_
  have S := S.add e9 (by omega) B9
  have S := S.frz
  (first | refine s_p ?_ | refine s_c (by omega) ?_)
  refine S.stB fun w10 S => ?_
  (repeat (first | refine s_p ?_ | refine s_c (by omega) ?_ | refine S.ld ?_ | refine S.ldB ?_ | refine S.ce ?_ | refine S.ceB ?_ | refine s_q ?_ | refine s_qc (by omega) ?_ | refine n_some ?_ | rw [List.getD_cons_zero] | rw [List.getD_cons_succ]))
  refine h _ (one b9 [.int .u8 u.k, .bool u.m, .int .i64 u.re, .int .i64 u.st, .slice p u.of.length cap] 25) _ S.ext ⟨S.holds.le (h := inferInstance), ?_⟩ (ty_one hv0)
  rintro b o ⟨rfl, _⟩
  omega
end Go.Proofs
end

section
namespace Go.Proofs
open Go.Sh
set_option maxRecDepth 100000
set_option linter.unusedSimpArgs false

def awA : TyD := refD true 0 (refD false 1 i64D)
def awB : TyD := refD true 2 (refD false 3 i64D)
def awS : List UInt8 := [38, 39, 48, 32, 109, 117, 116, 32, 38, 39, 49, 32, 105, 54, 52]
theorem aw_asks : asksT awA awB = ([(0, 2), (1, 3), (3, 1)], 0) := by decide +kernel
theorem aw_text : textT awA = (awS, 0) := by decide +kernel
theorem aw_read : readT awS = (awA, 0, 0) := by rfl
theorem aw_look : lookB 0 48 awA = true := by decide +kernel
theorem aw_same : alikeT fEq awA awA = true := by decide +kernel
theorem aw_copies : copiesB awA = false := by decide +kernel
theorem c_law06_awake {w : World} {K : Value → World → Prop} (h : ∀ w', Ext w w' → K (.bool true) w') : oCall Tryd.prog Tryd.n_law06_awake #[] w K := by
  refine Tryd.ok_law06_awake ?_
  unfold Tryd.F_law06_awake
  have S := St.start (r := nothing) (w := w) (fun _ _ h => h.elim)
  refine c_law06_i64 fun v1 w1 e1 h1 => ?_
  have S := S.go e1
  refine c_law06_ref S.holds h1 fun v2 s2 w2 e2 n2 h2 => ?_
  have S := S.new e2 n2
  refine c_law06_ref S.holds h2 fun v3 s3 w3 e3 n3 h3 => ?_
  have S := S.new e3 n3
  have h3' := h3
  obtain ⟨p3, cap3, rfl, _⟩ := h3
  refine S.al fun b1 w4 S => ?_
  refine S.stB fun w5 S => ?_
  have S := S.go (Ext.drew _)
  (repeat (first | refine s_p ?_ | refine s_c (by omega) ?_ | refine S.ld ?_ | refine S.ldB ?_ | refine S.ce ?_ | refine S.ceB ?_ | refine s_q ?_ | refine s_qc (by omega) ?_ | refine n_some ?_ | rw [List.getD_cons_zero] | rw [List.getD_cons_succ]))
  refine c_law06_i64 fun v6 w6 e6 h6 => ⟨e6, ?_⟩
  have S := S.go e6
  refine c_law06_ref S.holds (h6.up (l := inferInstance)) fun v7 s7 w7 e7 n7 h7 => ⟨e7, ?_⟩
  have S := S.new e7 n7
  refine c_law06_ref S.holds h7 fun v8 s8 w8 e8 n8 h8 => ⟨e8, ?_⟩
  have S := S.new e8 n8
  have hA := h3'.up (s := ((((nothing.or s2).or s3).or s7).or s8))
  refine c_types_Asks S.holds hA h8 fun v9 w9 e9 o9 => ?_
  rw [show asksT (refD true 0 (refD false 1 i64D)) (refD true 2 (refD false 3 i64D)) = ([(0, 2), (1, 3), (3, 1)], 0) from aw_asks] at o9 ⊢
  have S := S.take e9 o9
  obtain ⟨p9, cap9, rfl, hp9, _, _, _⟩ := S.rowS v9
  (repeat (first | refine s_p ?_ | refine s_c (by omega) ?_ | refine S.ld ?_ | refine S.ldB ?_ | refine S.ce ?_ | refine S.ceB ?_ | refine s_q ?_ | refine s_qc (by omega) ?_ | refine n_some ?_ | rw [List.getD_cons_zero] | rw [List.getD_cons_succ]))
  have hI : NumsOK ((((nothing.or s2).or s3).or s7).or s8) awA := by
    intro u hu
    have hu : u = awA ∨ u = refD false 1 i64D ∨ u = i64D := by
      have e : awA.chain = [awA, refD false 1 i64D, i64D] := rfl
      rw [e] at hu; simpa using hu
    rcases hu with rfl | rfl | rfl
    · exact ⟨fun _ => itoa_ok_small (by decide) (by decide), fun _ => itoa_ok_small (by decide) (by decide)⟩
    · exact ⟨fun _ => itoa_ok_small (by decide) (by decide), fun _ => itoa_ok_small (by decide) (by decide)⟩
    · exact ⟨fun _ => itoa_ok_small (by decide) (by decide), fun _ => itoa_ok_small (by decide) (by decide)⟩
  refine c_types_Text S.holds hA hI fun w10 e10 => ?_
  rw [show textT (refD true 0 (refD false 1 i64D)) = (awS, 0) from aw_text]
  have S := S.go e10
  (repeat (first | refine s_p ?_ | refine s_c (by omega) ?_ | refine S.ld ?_ | refine S.ldB ?_ | refine S.ce ?_ | refine S.ceB ?_ | refine s_q ?_ | refine s_qc (by omega) ?_ | refine n_some ?_ | rw [List.getD_cons_zero] | rw [List.getD_cons_succ]))
  refine c_types_Read (s := awS) S.holds (by decide) fun v11 s11 w11 e11 n11 h11 _ => ?_
  rw [aw_read] at h11 ⊢
  have S := S.new e11 n11
  have h11' := h11
  obtain ⟨p11, cap11, rfl, _⟩ := h11
  (repeat (first | refine s_p ?_ | refine s_c (by omega) ?_ | refine S.ld ?_ | refine S.ldB ?_ | refine S.ce ?_ | refine S.ceB ?_ | refine s_q ?_ | refine s_qc (by omega) ?_ | refine n_some ?_ | rw [List.getD_cons_zero] | rw [List.getD_cons_succ]))
  refine S.al fun b12 w12 S => ?_
  refine S.stB fun w13 S => ?_
  (repeat (first | refine s_p ?_ | refine s_c (by omega) ?_ | refine S.ld ?_ | refine S.ldB ?_ | refine S.ce ?_ | refine S.ceB ?_ | refine s_q ?_ | refine s_qc (by omega) ?_ | refine n_some ?_ | rw [List.getD_cons_zero] | rw [List.getD_cons_succ]))
  refine c_types_Words_none S.holds hA.up fun w14 e14 => ?_
  rw [show lookB 0 48 (refD true 0 (refD false 1 i64D)) = true from aw_look, if_pos rfl]
  have S := S.go e14
  (repeat (first | refine s_p ?_ | refine s_c (by omega) ?_ | refine S.ld ?_ | refine S.ldB ?_ | refine S.ce ?_ | refine S.ceB ?_ | refine s_q ?_ | refine s_qc (by omega) ?_ | refine n_some ?_ | rw [List.getD_cons_zero] | rw [List.getD_cons_succ]))
  refine j_bandH (c := true) (fun _ K2 hK2 => ?_) ?_
  · (repeat (first | refine s_p ?_ | refine s_c (by omega) ?_ | refine S.ld ?_ | refine S.ldB ?_ | refine S.ce ?_ | refine S.ceB ?_ | refine s_q ?_ | refine s_qc (by omega) ?_ | refine n_some ?_ | rw [List.getD_cons_zero] | rw [List.getD_cons_succ]))
    exact hK2
  refine j_bandH (c := true) (fun _ K2 hK2 => ?_) ?_
  · obtain ⟨_, _, hv, _, _, _, hs⟩ := S.rowS (.slice p9 3 cap9)
    cases hv
    obtain ⟨b9, off9, rfl, _⟩ := hs.at (i := 0) (by decide)
    refine s_c ⟨by decide, by decide⟩ ?_
    refine s_ldN (n := 2) (c := [.int .i64 3, .int .i64 1]) rfl (fun j v hj => ?_) ?_
    · have hx : (cons2 [(0, 2), (1, 3), (3, 1)])[4 + j]? = some v := by
        rw [← hj]
        show ([.int .i64 0, .int .i64 2, .int .i64 1, .int .i64 3, .int .i64 3, .int .i64 1] : List Value)[4 + j]? = _
        rw [Nat.add_comm]; rfl
      obtain ⟨b, off, hp, hc⟩ := hs _ _ hx
      cases hp
      rw [← hc]; congr 2; simp; omega
    (repeat (first | refine s_p ?_ | refine s_c (by omega) ?_ | refine S.ld ?_ | refine S.ldB ?_ | refine S.ce ?_ | refine S.ceB ?_ | refine s_q ?_ | refine s_qc (by omega) ?_ | refine n_some ?_ | rw [List.getD_cons_zero] | rw [List.getD_cons_succ]))
    exact hK2
  refine j_bandH (c := true) (fun _ K2 hK2 => ?_) ?_
  · (repeat (first | refine s_p ?_ | refine s_c (by omega) ?_ | refine S.ld ?_ | refine S.ldB ?_ | refine S.ce ?_ | refine S.ceB ?_ | refine s_q ?_ | refine s_qc (by omega) ?_ | refine n_some ?_ | rw [List.getD_cons_zero] | rw [List.getD_cons_succ]))
    exact hK2
  refine j_bandH (c := true) (fun _ K2 hK2 => ?_) ?_
  · (repeat (first | refine s_p ?_ | refine s_c (by omega) ?_ | refine S.ld ?_ | refine S.ldB ?_ | refine S.ce ?_ | refine S.ceB ?_ | refine s_q ?_ | refine s_qc (by omega) ?_ | refine n_some ?_ | rw [List.getD_cons_zero] | rw [List.getD_cons_succ]))
    exact hK2
  refine j_bandH (c := true) (fun _ K2 hK2 => ?_) ?_
  · (repeat (first | refine s_p ?_ | refine s_c (by omega) ?_ | refine S.ld ?_ | refine S.ldB ?_ | refine S.ce ?_ | refine S.ceB ?_ | refine s_q ?_ | refine s_qc (by omega) ?_ | refine n_some ?_ | rw [List.getD_cons_zero] | rw [List.getD_cons_succ]))
    exact hK2
  refine j_bandH (c := true) (fun _ K2 hK2 => ?_) ?_
  · (repeat (first | refine s_p ?_ | refine s_c (by omega) ?_ | refine S.ld ?_ | refine S.ldB ?_ | refine S.ce ?_ | refine S.ceB ?_ | refine s_q ?_ | refine s_qc (by omega) ?_ | refine n_some ?_ | rw [List.getD_cons_zero] | rw [List.getD_cons_succ]))
    exact hK2
  refine j_bandE (c := true) (fun _ K2 hK2 => ?_) fun w15 e15 => ?_
  · (repeat (first | refine s_p ?_ | refine s_c (by omega) ?_ | refine S.ld ?_ | refine S.ldB ?_ | refine S.ce ?_ | refine S.ceB ?_ | refine s_q ?_ | refine s_qc (by omega) ?_ | refine n_some ?_ | rw [List.getD_cons_zero] | rw [List.getD_cons_succ]))
    refine c_types_Same S.holds (a := awA) (b := awA) h11'.up hA.up fun w16 e16 => ?_
    rw [aw_same]
    exact hK2 _ e16
  have S := S.go e15
  refine j_bandH (c := true) (fun _ K2 hK2 => ?_) ?_
  · (repeat (first | refine s_p ?_ | refine s_c (by omega) ?_ | refine S.ld ?_ | refine S.ldB ?_ | refine S.ce ?_ | refine S.ceB ?_ | refine s_q ?_ | refine s_qc (by omega) ?_ | refine n_some ?_ | rw [List.getD_cons_zero] | rw [List.getD_cons_succ]))
    exact hK2
  refine j_bandH (c := true) (fun _ K2 hK2 => ?_) ?_
  · (repeat (first | refine s_p ?_ | refine s_c (by omega) ?_ | refine S.ld ?_ | refine S.ldB ?_ | refine S.ce ?_ | refine S.ceB ?_ | refine s_q ?_ | refine s_qc (by omega) ?_ | refine n_some ?_ | rw [List.getD_cons_zero] | rw [List.getD_cons_succ]))
    exact hK2
  refine j_bandE (c := true) (fun _ K2 hK2 => ?_) fun w17 e17 => ?_
  · (repeat (first | refine s_p ?_ | refine s_c (by omega) ?_ | refine S.ld ?_ | refine S.ldB ?_ | refine S.ce ?_ | refine S.ceB ?_ | refine s_q ?_ | refine s_qc (by omega) ?_ | refine n_some ?_ | rw [List.getD_cons_zero] | rw [List.getD_cons_succ]))
    refine c_types_May_none S.holds hA.up fun w16 e16 => ?_
    rw [show lookB 0 48 (refD true 0 (refD false 1 i64D)) = true from aw_look]
    exact hK2 _ e16
  have S := S.go e17
  refine j_bandE (c := true) (fun _ K2 hK2 => ?_) fun w18 e18 => ?_
  · (repeat (first | refine s_p ?_ | refine s_c (by omega) ?_ | refine S.ld ?_ | refine S.ldB ?_ | refine S.ce ?_ | refine S.ceB ?_ | refine s_q ?_ | refine s_qc (by omega) ?_ | refine n_some ?_ | rw [List.getD_cons_zero] | rw [List.getD_cons_succ]))
    refine c_types_Copies S.holds hA.up fun w16 e16 => ?_
    rw [show copiesB (refD true 0 (refD false 1 i64D)) = false from aw_copies]
    (first | refine s_p ?_ | refine s_c (by omega) ?_)
    exact hK2 _ e16
  exact h _ (S.go e18).ext
end Go.Proofs
end

section
namespace Go.Proofs
open Go.Sh
set_option maxRecDepth 100000
set_option linter.unusedSimpArgs false

/-- a pair of a row, to be read -/
theorem pair_at {w : World} {p : Option Addr} {l : List (Int × Int)} (h : Sl w p (cons2 l)) {i : Nat} (hi : i < l.length) :
    ∃ b off, p = some ⟨b, off, none⟩ ∧ ∀ j v, ([.int .i64 l[i].1, .int .i64 l[i].2] : List Value)[j]? = some v → w.cell? ⟨b, off + i * 2 + j, none⟩ = some v := by
  have hx : ∀ (l : List (Int × Int)) (i : Nat) (hi : i < l.length) (j : Nat) (v : Value), ([.int .i64 l[i].1, .int .i64 l[i].2] : List Value)[j]? = some v → (cons2 l)[i * 2 + j]? = some v := by
    intro l
    induction l with
    | nil => intro i hi; cases hi
    | cons p l ih =>
      intro i hi j v hj
      rw [show cons2 (p :: l) = [.int .i64 p.1, .int .i64 p.2] ++ cons2 l from rfl]
      cases i with
      | zero =>
        have hj2 : j < 2 := (List.getElem?_eq_some_iff.1 hj).1
        rw [Nat.zero_mul, Nat.zero_add, List.getElem?_append_left (by simpa using hj2)]
        exact hj
      | succ i =>
        rw [List.getElem?_append_right (by simp; omega)]
        have := ih i (by simpa using hi) j v hj
        rw [← this]; congr 1; simp; omega
  have h0 := hx l i hi 0 _ rfl
  obtain ⟨b, off, rfl, _⟩ := h _ _ h0
  refine ⟨b, off, rfl, fun j v hj => ?_⟩
  obtain ⟨b', off', hp, hc⟩ := h _ _ (hx l i hi j v hj)
  cases hp
  rw [← hc, Nat.add_assoc]
/-- an element of a row of one's own is written over -/
theorem _root_.Go.Sh.StX.stRow {P : Program} {X : Nat → Prop} {w0 w : World} {r : Gh} {L : List Asr} {e t : TypeId} {sz n cap b i : Nat} {xs : List Value} {f : Asr → List Asr} {cs : Array Value} {K : World → Prop} (S : StX X w0 r w L)
    [h : RowAt (.slice (some ⟨b, 0, none⟩) n cap) L e sz n xs f] [z : SzT P t sz] (hi : i < n) (k : ∀ w', StX X w0 r w' (f (.row (.slice (some ⟨b, 0, none⟩) n cap) e sz n (xs.take (i * sz) ++ cs.toList ++ xs.drop (i * sz + sz)))) → K w')
    (hcs : cs.size = sz := by rfl) (h1 : ∀ u ∈ cs.toList, u.oneCell' = true := by simp [Value.oneCell']) : opU P w (Instr.storeAt t (.pointer (some ⟨b, i * sz, none⟩)) (.agg cs)) K := by
  obtain ⟨pp, qq, h2, h3⟩ := h.h
  have hr := S.has (.row (.slice (some ⟨b, 0, none⟩) n cap) e sz n xs) (by rw [h2]; simp)
  rcases own_blk hr with ⟨h0, _⟩ | ⟨g, cap', c, hv, hb, B, hn, hm, hc, ht⟩
  · cases h0
  cases hv
  have hle : i * sz + sz ≤ n * sz := by rw [← Nat.succ_mul]; exact Nat.mul_le_mul_right _ hi
  have hle2 : n * sz ≤ cap * sz := Nat.mul_le_mul_right _ hn
  refine w_store (v := .agg cs) (by rw [show (Value.agg cs).cells.size = sz from hcs]; exact z.h) B (by rw [show (Value.agg cs).cells.size = sz from hcs]; omega) h1 fun w' x _ B' => k w' ?_
  rw [show (Value.agg cs).cells.size = sz from hcs, show (Value.agg cs).cells = cs from rfl] at B'
  rw [h3]
  rw [h2] at S
  refine S.turn (x := .row (.slice (some ⟨b, 0, none⟩) n cap) e sz n xs) (y := .row (.slice (some ⟨b, 0, none⟩) n cap) e sz n (xs.take (i * sz) ++ cs.toList ++ xs.drop (i * sz + sz))) ⟨x.os, x.tape, x.output, x.size, fun k hk hn => x.block k hk fun he => hn (by subst he; rfl)⟩ ?_ fun k hk => .inl hk
  have hcl : cs.toList.length = sz := by simpa using hcs
  have := own_of_blk (base := 0) (size := sz) (n := n) (cap := cap) (Nat.zero_le _) B' hn hm (by simp only [List.length_append, List.length_take, List.length_drop, hcl, hc]; omega)
  have he : (c.take (i * sz) ++ cs.toList ++ c.drop (i * sz + sz)).take (n * sz) = xs.take (i * sz) ++ cs.toList ++ xs.drop (i * sz + sz) := by
    rw [← ht, List.take_take, Nat.min_eq_left (by omega), List.take_append, List.take_of_length_le (by simp only [List.length_append, List.length_take, hcl, hc]; omega), List.drop_take]
    congr 2
    simp only [List.length_append, List.length_take, hcl, hc]
    omega
  rw [he] at this
  exact this
/-- a row of one's own that is not empty begins at the head of its block -/
theorem _root_.Go.Sh.StX.row0 {X : Nat → Prop} {w0 w : World} {r : Gh} {L : List Asr} {e : TypeId} {sz n cap : Nat} {p : Option Addr} {xs : List Value} {f : Asr → List Asr} (S : StX X w0 r w L)
    (_ : True) [h : RowAt (.slice p n cap) L e sz n xs f] (hn : n ≠ 0) : ∃ b, p = some ⟨b, 0, none⟩ := by
  obtain ⟨b, cap', c, hv, _⟩ := S.rowCell (.slice p n cap) hn
  cases hv
  exact ⟨b, rfl⟩
/-- the pairs from i on stay as they were when the one at i is written over -/
theorem cons2_set : ∀ (m : List (Int × Int)) (i : Nat) (x y : Int), i < m.length → (cons2 m).take (i * 2) ++ [.int .i64 x, .int .i64 y] ++ (cons2 m).drop (i * 2 + 2) = cons2 (m.set i (x, y)) := by
  intro m
  induction m with
  | nil => intro i x y h; cases h
  | cons p m ih =>
    intro i x y h
    cases i with
    | zero => rfl
    | succ i =>
      have := ih i x y (by simpa using h)
      rw [show cons2 (p :: m) = .int .i64 p.1 :: .int .i64 p.2 :: cons2 m from rfl, show (i + 1) * 2 = i * 2 + 1 + 1 by omega, List.set_cons_succ, show cons2 (p :: m.set i (x, y)) = .int .i64 p.1 :: .int .i64 p.2 :: cons2 (m.set i (x, y)) from rfl, ← this]
      simp [show i * 2 + 1 + 1 + 2 = (i * 2 + 2) + 1 + 1 by omega]
theorem j_borX {w : World} {A : (List Value → World → Prop) → Prop} {Z : Value → World → Prop} {b : Bool} (hA : b = false → ∀ K : List Value → World → Prop, (∀ c w', Ext w w' → K [.bool c] w') → A K) (hZ : ∀ c w', Ext w w' → Z (.bool c) w') :
    sJoin (fun K => gIf (.bool b) false (A K) (K [undef] w)) fun s _ w' => oPick (.bool b) (.bool true) (s.getD 0 undef) fun t => Z t w' := by
  intro K hK
  cases b with
  | true => exact hK _ _ fun _ => ⟨true, rfl, by simpa using hZ true w (.refl w)⟩
  | false => exact hA rfl K fun c w' e => hK _ _ fun _ => ⟨false, rfl, by simpa using hZ c w' e⟩
theorem c_law06_TypesAsk {a b : TyD} {w : World} {r : Gh} {va vb : Value} {K : Value → World → Prop} (hr : Holds r w) (ha : TyG r va a) (hb : TyG r vb b)
    (h : ∀ w', Ext w w' → K (.bool true) w') : oCall Tryd.prog Tryd.n_law06_TypesAsk #[va, vb] w K := by
  refine Tryd.ok_law06_TypesAsk ?_
  unfold Tryd.F_law06_TypesAsk
  have ha0 := ha; have hb0 := hb
  obtain ⟨p, cap, rfl, _⟩ := ha
  obtain ⟨q, cap', rfl, _⟩ := hb
  have S := St.start hr
  refine S.box fun b2 w1 S => ?_
  refine S.box fun b3 w2 S => ?_
  (repeat (first | refine s_p ?_ | refine s_c (by omega) ?_ | refine S.ld ?_ | refine S.ldB ?_ | refine S.ce ?_ | refine S.ceB ?_ | refine s_q ?_ | refine s_qc (by omega) ?_ | refine n_some ?_ | rw [List.getD_cons_zero] | rw [List.getD_cons_succ]))
  refine c_law06_typeFits 60 (by decide) (by decide) (by decide) S.holds ha0 fun x w3 e3 => ?_
  have S := S.go e3
  (repeat (first | refine s_p ?_ | refine s_c (by omega) ?_ | refine S.ld ?_ | refine S.ldB ?_ | refine S.ce ?_ | refine S.ceB ?_ | refine s_q ?_ | refine s_qc (by omega) ?_ | refine n_some ?_ | rw [List.getD_cons_zero] | rw [List.getD_cons_succ]))
  refine j_borX (fun _ K2 hK2 => ?_) fun y w4 e4 => ?_
  · (repeat (first | refine s_p ?_ | refine s_c (by omega) ?_ | refine S.ld ?_ | refine S.ldB ?_ | refine S.ce ?_ | refine S.ceB ?_ | refine s_q ?_ | refine s_qc (by omega) ?_ | refine n_some ?_ | rw [List.getD_cons_zero] | rw [List.getD_cons_succ]))
    refine c_law06_typeFits 60 (by decide) (by decide) (by decide) S.holds hb0 fun x w3 e3 => ?_
    (first | refine s_p ?_ | refine s_c (by omega) ?_)
    exact hK2 _ _ e3
  have S := S.go e4
  refine c_b (fun _ => ?_) (fun _ => ?_)
  · exact c_law06_awake fun w5 e5 => h _ (S.go e5).ext
  (repeat (first | refine s_p ?_ | refine s_c (by omega) ?_ | refine S.ld ?_ | refine S.ldB ?_ | refine S.ce ?_ | refine S.ceB ?_ | refine s_q ?_ | refine s_qc (by omega) ?_ | refine n_some ?_ | rw [List.getD_cons_zero] | rw [List.getD_cons_succ]))
  refine c_types_Asks S.holds ha0 hb0 fun v5 w5 e5 o5 => ?_
  have S := S.take e5 o5
  obtain ⟨p5, cap5, rfl, hp5, hc5, _, _⟩ := S.rowS v5
  (repeat (first | refine s_p ?_ | refine s_c (by omega) ?_ | refine S.ld ?_ | refine S.ldB ?_ | refine S.ce ?_ | refine S.ceB ?_ | refine s_q ?_ | refine s_qc (by omega) ?_ | refine n_some ?_ | rw [List.getD_cons_zero] | rw [List.getD_cons_succ]))
  refine c_types_Asks S.holds ha0 hb0 fun v6 w6 e6 o6 => ?_
  have S := S.take e6 o6
  obtain ⟨p6, cap6, rfl, hp6, hc6, _, _⟩ := S.rowS v6
  (repeat (first | refine s_p ?_ | refine s_c (by omega) ?_ | refine S.ld ?_ | refine S.ldB ?_ | refine S.ce ?_ | refine S.ceB ?_ | refine s_q ?_ | refine s_qc (by omega) ?_ | refine n_some ?_ | rw [List.getD_cons_zero] | rw [List.getD_cons_succ]))
  refine c_ref06_Asks S.holds ha0 hb0 fun v7 w7 e7 o7 => ?_
  have S := S.take e7 o7
  obtain ⟨p7, cap7, rfl, hp7, hc7, _, _⟩ := S.rowS v7
  have hlen := asksT_len (a := a) (b := b)
  generalize asksT a b = R at *
  obtain ⟨l, e⟩ := R
  simp only at S hlen o5 o6 o7 hc5 hc6 hc7 ⊢
  (repeat (first | refine s_p ?_ | refine s_c (by omega) ?_ | refine S.ld ?_ | refine S.ldB ?_ | refine S.ce ?_ | refine S.ceB ?_ | refine s_q ?_ | refine s_qc (by omega) ?_ | refine n_some ?_ | rw [List.getD_cons_zero] | rw [List.getD_cons_succ]))
  refine j_borH (c := false) (fun _ K2 hK2 => ?_) ?_
  · (repeat (first | refine s_p ?_ | refine s_c (by omega) ?_ | refine S.ld ?_ | refine S.ldB ?_ | refine S.ce ?_ | refine S.ceB ?_ | refine s_q ?_ | refine s_qc (by omega) ?_ | refine n_some ?_ | rw [List.getD_cons_zero] | rw [List.getD_cons_succ]))
    simpa using hK2
  refine j_borH (c := false) (fun _ K2 hK2 => ?_) ?_
  · (repeat (first | refine s_p ?_ | refine s_c (by omega) ?_ | refine S.ld ?_ | refine S.ldB ?_ | refine S.ce ?_ | refine S.ceB ?_ | refine s_q ?_ | refine s_qc (by omega) ?_ | refine n_some ?_ | rw [List.getD_cons_zero] | rw [List.getD_cons_succ]))
    simpa using hK2
  refine j_borH (c := false) (fun _ K2 hK2 => ?_) ?_
  · (repeat (first | refine s_p ?_ | refine s_c (by omega) ?_ | refine S.ld ?_ | refine S.ldB ?_ | refine S.ce ?_ | refine S.ceB ?_ | refine s_q ?_ | refine s_qc (by omega) ?_ | refine n_some ?_ | rw [List.getD_cons_zero] | rw [List.getD_cons_succ]))
    simpa using hK2
  refine c_f (by simp) ?_
  refine l_intro (ι := Nat × List (Int × Int)) (fun i => [.int .i64 i.1])
    (fun i w' => i.1 ≤ l.length ∧ i.2.length = l.length ∧ (∀ k, i.1 ≤ k → i.2[k]? = l[k]?) ∧ StX noX w r w' [.row (.slice p7 l.length cap7) 35 2 l.length (cons2 l), .row (.slice p6 l.length cap6) 35 2 l.length (cons2 l), .row (.slice p5 l.length cap5) 35 2 l.length (cons2 i.2),
      .cell b3 (Value.agg #[.int .u8 b.k, .bool b.m, .int .i64 b.re, .int .i64 b.st, .slice q b.of.length cap']).cells.toList 25, .cell b2 (Value.agg #[.int .u8 a.k, .bool a.m, .int .i64 a.re, .int .i64 a.st, .slice p a.of.length cap]).cells.toList 25])
    (fun i => l.length - i.1) (0, l) rfl ⟨Nat.zero_le _, rfl, fun _ _ => rfl, S⟩ ?_
  clear S
  rintro ⟨i, m⟩ d w8 ⟨hi, hm, hmk, S⟩ K6 hK6
  simp only at hi hm hmk S ⊢
  rw [List.getD_cons_zero]
  (repeat (first | refine s_p ?_ | refine s_c (by omega) ?_ | refine S.ld ?_ | refine S.ldB ?_ | refine S.ce ?_ | refine S.ceB ?_ | refine s_q ?_ | refine s_qc (by omega) ?_ | refine n_some ?_ | rw [List.getD_cons_zero] | rw [List.getD_cons_succ]))
  refine c_b (fun hlt => ?_) (fun hge => ?_)
  · have hlt : i < l.length := by simpa using hlt
    have S := S.go (Ext.drew _)
    have hmi : m[i]? = l[i]? := hmk i (Nat.le_refl _)
    have hmi' : m[i]'(by omega) = l[i] := by
      rw [List.getElem?_eq_getElem (by omega), List.getElem?_eq_getElem hlt] at hmi
      exact Option.some.inj hmi
    obtain ⟨b5, rfl⟩ := S.row0 (p := p5) (n := l.length) (cap := cap5) trivial (by omega)
    obtain ⟨_, _, hv, _, _, _, h5⟩ := S.rowS (.slice (some ⟨b5, 0, none⟩) l.length cap5)
    cases hv
    obtain ⟨_, _, hv, _, _, _, h7⟩ := S.rowS (.slice p7 l.length cap7)
    cases hv
    obtain ⟨_, _, hv, h5⟩ := pair_at h5 (i := i) (by omega)
    cases hv
    obtain ⟨b7, o7, rfl, k7⟩ := pair_at h7 hlt
    rw [hmi'] at h5
    refine s_c (by omega) ?_
    refine s_ldN (n := 2) rfl (fun j v hj => by rw [Int.toNat_natCast]; exact h5 j v hj) ?_
    refine s_c (by omega) ?_
    refine s_ldN (n := 2) rfl (fun j v hj => by rw [Int.toNat_natCast]; exact k7 j v hj) ?_
    refine s_q ?_
    refine c_f (by simp) ?_
    refine p_build (cs := #[.int .i64 (-9), .int .i64 0]) (by kernel_rfl) ?_
    refine s_c (by omega) ?_
    rw [Int.toNat_natCast, Nat.zero_add]
    refine S.stRow (cap := cap5) hlt fun w9 S => ?_
    refine s_c (by omega) ?_
    rw [show ((i : Int) + 1) = ((i + 1 : Nat) : Int) by omega]
    rw [cons2_set m i _ _ (by omega)] at S
    refine hK6 (i + 1, m.set i (-9, 0)) _ ⟨hlt, by simpa using hm, fun k hk => ?_, S⟩ (by simp only; omega)
    rw [List.getElem?_set_ne (by omega)]
    exact hmk k (by omega)
  refine l_intro (ι := Nat) (fun i => [.int .i64 i])
    (fun i w' => i ≤ l.length ∧ StX noX w r w' [.row (.slice p7 l.length cap7) 35 2 l.length (cons2 l), .row (.slice p6 l.length cap6) 35 2 l.length (cons2 l), .row (.slice p5 l.length cap5) 35 2 l.length (cons2 m),
      .cell b3 (Value.agg #[.int .u8 b.k, .bool b.m, .int .i64 b.re, .int .i64 b.st, .slice q b.of.length cap']).cells.toList 25, .cell b2 (Value.agg #[.int .u8 a.k, .bool a.m, .int .i64 a.re, .int .i64 a.st, .slice p a.of.length cap]).cells.toList 25])
    (fun i => l.length - i) 0 rfl ⟨Nat.zero_le _, S⟩ ?_
  clear S hi hmk hge
  rintro i d w8 ⟨hi, S⟩ K6 hK6
  rw [List.getD_cons_zero]
  (repeat (first | refine s_p ?_ | refine s_c (by omega) ?_ | refine S.ld ?_ | refine S.ldB ?_ | refine S.ce ?_ | refine S.ceB ?_ | refine s_q ?_ | refine s_qc (by omega) ?_ | refine n_some ?_ | rw [List.getD_cons_zero] | rw [List.getD_cons_succ]))
  refine c_b (fun hlt => ?_) (fun hge => ?_)
  · have hlt : i < l.length := by simpa using hlt
    have S := S.go (Ext.drew _)
    obtain ⟨_, _, hv, _, _, _, h6⟩ := S.rowS (.slice p6 l.length cap6)
    cases hv
    obtain ⟨_, _, hv, _, _, _, h7⟩ := S.rowS (.slice p7 l.length cap7)
    cases hv
    obtain ⟨b6, o6, rfl, k6⟩ := pair_at h6 hlt
    obtain ⟨b7, o7, rfl, k7⟩ := pair_at h7 hlt
    refine s_c (by omega) ?_
    refine s_ldN (n := 2) rfl (fun j v hj => by rw [Int.toNat_natCast]; exact k6 j v hj) ?_
    refine s_c (by omega) ?_
    refine s_ldN (n := 2) rfl (fun j v hj => by rw [Int.toNat_natCast]; exact k7 j v hj) ?_
    refine s_q ?_
    refine c_f (by simp) ?_
    refine s_c (by omega) ?_
    rw [show ((i : Int) + 1) = ((i + 1 : Nat) : Int) by omega]
    exact hK6 (i + 1) _ ⟨hlt, S⟩ (by omega)
  exact c_law06_awake fun w5 e5 => h _ (S.go e5).ext
end Go.Proofs
end

section
namespace Go.Proofs
open Go.Shelf
def Tryd.lays171_ren : Go.Shelf.Ren := ⟨fun | 171 => 88 | 243 => 99 | 246 => 101 | 283 => 103 | 284 => 104 | 285 => 105 | 286 => 106 | 129 => 108 | 317 => 107 | 318 => 109 | 319 => 110 | 320 => 111 | 337 => 112 | 338 => 113 | n => n, fun | 3 => 3 | 9 => 9 | 2 => 2 | 4 => 4 | 171 => 129 | 0 => 0 | 53 => 123 | 37 => 131 | 5 => 5 | 173 => 132 | 212 => 135 | 51 => 136 | 20 => 20 | 213 => 137 | 46 => 138 | 232 => 141 | 233 => 142 | n => n, fun | 17 => 0 | 18 => 1 | 19 => 2 | n => n⟩
theorem Tryd.lays171 : Go.Proofs.LaysM.n171 Tryd.prog Tryd.lays171_ren := {
  mixed := by kernel_rfl
  f129 := Tryd.func108.trans (congrArg some (by kernel_rfl))
  f171 := Tryd.func88.trans (congrArg some (by kernel_rfl))
  f243 := Tryd.func99.trans (congrArg some (by kernel_rfl))
  f246 := Tryd.func101.trans (congrArg some (by kernel_rfl))
  f283 := Tryd.func103.trans (congrArg some (by kernel_rfl))
  f284 := Tryd.func104.trans (congrArg some (by kernel_rfl))
  f285 := Tryd.func105.trans (congrArg some (by kernel_rfl))
  f286 := Tryd.func106.trans (congrArg some (by kernel_rfl))
  f317 := Tryd.func107.trans (congrArg some (by kernel_rfl))
  f318 := Tryd.func109.trans (congrArg some (by kernel_rfl))
  f319 := Tryd.func110.trans (congrArg some (by kernel_rfl))
  f320 := Tryd.func111.trans (congrArg some (by kernel_rfl))
  f337 := Tryd.func112.trans (congrArg some (by kernel_rfl))
  f338 := Tryd.func113.trans (congrArg some (by kernel_rfl))
  t0 := Tryd.underlying0
  a0 := Tryd.isAgg0
  z0 := Tryd.sizeOf0
  v0 := Tryd.zeroValue0
  t2 := Tryd.underlying2
  a2 := Tryd.isAgg2
  z2 := Tryd.sizeOf2
  v2 := Tryd.zeroValue2
  t3 := Tryd.underlying3
  a3 := Tryd.isAgg3
  z3 := Tryd.sizeOf3
  v3 := Tryd.zeroValue3
  t4 := Tryd.underlying4
  a4 := Tryd.isAgg4
  z4 := Tryd.sizeOf4
  v4 := Tryd.zeroValue4
  t5 := Tryd.underlying5
  a5 := Tryd.isAgg5
  z5 := Tryd.sizeOf5
  v5 := Tryd.zeroValue5
  t9 := Tryd.underlying9
  a9 := Tryd.isAgg9
  z9 := Tryd.sizeOf9
  v9 := Tryd.zeroValue9
  t20 := Tryd.underlying20
  a20 := Tryd.isAgg20
  z20 := Tryd.sizeOf20
  v20 := Tryd.zeroValue20
  t37 := Tryd.underlying131
  a37 := Tryd.isAgg131
  z37 := Tryd.sizeOf131
  v37 := Tryd.zeroValue131
  t46 := Tryd.underlying138
  a46 := Tryd.isAgg138
  z46 := Tryd.sizeOf138
  v46 := Tryd.zeroValue138
  t51 := Tryd.underlying136
  a51 := Tryd.isAgg136
  z51 := Tryd.sizeOf136
  v51 := Tryd.zeroValue136
  t53 := Tryd.underlying123
  a53 := Tryd.isAgg123
  z53 := Tryd.sizeOf123
  v53 := Tryd.zeroValue123
  t171 := Tryd.underlying129
  a171 := Tryd.isAgg129
  z171 := Tryd.sizeOf129
  v171 := Tryd.zeroValue129
  t173 := Tryd.underlying132
  a173 := Tryd.isAgg132
  z173 := Tryd.sizeOf132
  v173 := Tryd.zeroValue132
  t212 := Tryd.underlying135
  a212 := Tryd.isAgg135
  z212 := Tryd.sizeOf135
  v212 := Tryd.zeroValue135
  t213 := Tryd.underlying137
  a213 := Tryd.isAgg137
  z213 := Tryd.sizeOf137
  t232 := Tryd.underlying141
  a232 := Tryd.isAgg141
  z232 := Tryd.sizeOf141
  v232 := Tryd.zeroValue141
  t233 := Tryd.underlying142
  a233 := Tryd.isAgg142
  z233 := Tryd.sizeOf142
  v233 := Tryd.zeroValue142
  g17 := by kernel_rfl
  g18 := by kernel_rfl
  g19 := by kernel_rfl
  i0 := by kernel_rfl
  i2 := by kernel_rfl
  i3 := by kernel_rfl
  i4 := by kernel_rfl
  i5 := by kernel_rfl
  i9 := by kernel_rfl
  i20 := by kernel_rfl
  i37 := by kernel_rfl
  i46 := by kernel_rfl
  i51 := by kernel_rfl
  i53 := by kernel_rfl
  i171 := by kernel_rfl
  i173 := by kernel_rfl
  i212 := by kernel_rfl
  i232 := by kernel_rfl
  i233 := by kernel_rfl
  m17 := by kernel_rfl
  m18 := by kernel_rfl
  m19 := by kernel_rfl }
end Go.Proofs
namespace Go.Proofs
open Go.Sh
set_option linter.unusedSimpArgs false
/-- the table of tens lies as it was laid -/
def TabG (r : Gh) : Prop := Ob r fun w => Lib.TabIs Tryd.prog w "internal/strconv.uint64pow10" .u64 Lib.pow10Tab
theorem TabG.up {r s : Gh} (h : TabG r) [l : Le r s] : TabG s := Ob.up h
theorem digs_eq : ∀ (f n : Nat), n < 10 ^ f → 0 < f → digsF f n = Lib.decDigits n
  | 0, _, _, h => absurd h (Nat.lt_irrefl _)
  | f + 1, n, h, _ => by
    rw [digsF, Lib.decDigits]
    by_cases h1 : n < 10
    · rw [if_pos h1, dif_pos h1]
    · rw [if_neg h1, dif_neg h1]
      have h2 : n / 10 < 10 ^ f := by
        rw [Nat.pow_succ] at h
        omega
      have h3 : 0 < f := by
        rcases Nat.eq_zero_or_pos f with rfl | h3
        · simp at h; omega
        · exact h3
      rw [digs_eq f (n / 10) h2 h3]
theorem ext_grow {w : World} {k : Nat} {os : Array Obj} : Ext w (Sort.grow (w.drewN k) os) :=
  ⟨rfl, rfl, rfl, by simp [Sort.grow, World.drewN], fun j hj => by
    show (w.heap ++ os)[j]? = _
    exact Array.getElem?_append_left hj⟩
theorem c_Itoa {r : Gh} {x : Int} (hT : TabG r) (h0 : 0 ≤ x) (h1 : x ≤ 9223372036854775807) : ItoaOK r x := by
  intro w K hr h
  refine Calls.mono (Any.strconv_Itoa Tryd.lays171 x (by omega) h1 w (hT w hr)) ?_
  rintro e w' ⟨rfl, k, os, rfl⟩
  refine ⟨_, rfl, ?_⟩
  have := h _ (ext_grow (w := w) (k := k) (os := os))
  rw [itoa, digs_eq 20 x.toNat (by omega) (by decide)] at this
  rw [Lib.itoa, if_neg (by omega)]
  exact this
theorem nums_ok {r : Gh} (hT : TabG r) {t : TyD} (h : ∀ u ∈ t.chain, u.re ≤ 9223372036854775807 ∧ u.st ≤ 9223372036854775807) : NumsOK r t := fun u hu =>
  ⟨fun h0 => c_Itoa hT h0 (h u hu).1, fun h0 => c_Itoa hT h0 (h u hu).2⟩
end Go.Proofs
end

section
namespace Go.Sh
open Go.ChangeShapes Go.WideShapes Go.ChangeAt Go.RowKit
section
variable {H : Type} {enc : TypeId × Value → H} {P : Program}
theorem same_ext {W W' : World} (e : Ext W W') {p : MemPlace} (hp : p.block < W.heap.size) : W.sameAt W' p := Below.same e hp
theorem trodAll_ext {W W' : World} (e : Ext W W') (K : Kids P (· < P.types.size)) (hz : ∀ t e, t < P.types.size → P.underlying t = some (.slice e) → 0 < P.cellsOf e) {sp : Nat → Bool} :
    ∀ {ts : List TypeId} {vs : List Value} {ds : List (DataW H)} {ps : List MemPlace}, (∀ t ∈ ts, t < P.types.size) → DataW.TrodAll enc P W 0 (fun _ => true) true ts vs ds ps → (∀ p ∈ ps, p.block < W.heap.size) → (∀ p ∈ ps, sp p.block = true) →
      DataW.TrodAll enc P W' 0 sp true ts vs ds ps
  | [], [], [], _, _, h, _, _ => h
  | _ :: _, _ :: _, _ :: _, _, hT, ⟨p, q, ⟨n, h1⟩, h2, he⟩, hl, hs =>
    ⟨p, q, ⟨n, DataW.trod_stays K (fun {t e} => hz t e) (fun h => by cases h) (hT _ (List.mem_cons.2 (Or.inl rfl))) h1 (fun x hx => same_ext e (hl x (by rw [he]; exact List.mem_append_left _ hx))) (fun x hx => hs x (by rw [he]; exact List.mem_append_left _ hx))⟩,
      trodAll_ext e K hz (fun t ht => hT t (List.mem_cons.2 (Or.inr ht))) h2 (fun x hx => hl x (by rw [he]; exact List.mem_append_right _ hx)) (fun x hx => hs x (by rw [he]; exact List.mem_append_right _ hx)), he⟩
/-- WHAT THE LAWS' ROWS ASK: true; the input reads as it did. -/
theorem post_told {f : Func} {s : ChangeSpec} {W W' : World} {args : Array Value} {ds gs : List (DataW H)} {before : List MemPlace} {tb : TypeId} {fr ho : Bool}
    (hl : laidOutB P = true) (hm : mapsRowed P = true) (hz : ((List.range P.types.size).all fun t => match P.underlying t with | some (.slice e) => decide (0 < P.cellsOf e) | _ => true) = true)
    (hts : ∀ t ∈ f.params.toList, t < P.types.size) (hv : s.vars = []) (hrt : f.resultTypes = #[tb]) (htb : P.underlying tb = some .bool)
    (hW : DataW.Whole enc P f.params.toList s.vars false W args.toList ds gs before) (hs : s.fn H (ds ++ gs) = { results := [.lit (.bool true)], args := ds }) (e : Ext W W') :
    s.post enc P f false fr ho false W args (.bool true) W' := by
  have hW' := hW
  obtain ⟨p, q, hA, hV, rfl, hfz, hnd⟩ := hW
  rw [hv] at hV
  obtain ⟨rfl, rfl⟩ := trodVars_none hV
  have hlt := hW'.lt
  refine ⟨ds, [], p ++ [], [], p, [], hW', ?_, ?_, ?_, Below.frame e _, fun h => by cases h⟩
  · rw [hs, hrt]
    exact trodAll_mk1 (shut_bool htb _)
  · rw [hs]
    exact trodAll_ext e (kids_rows hl hm) (slices_full_of P hz) hts hA (fun x hx => hlt x (by simpa using hx)) (fun x hx => by simpa using hlt x (by simpa using hx))
  · rw [hv, hs]; rfl
end
end Go.Sh
end

section
namespace Go.Sh
open Go.RowKit

mutual
/-- is it a datum of the type? -/
def Dat.ok (P : Program) : Dat → TypeId → Prop
  | .int k n, t => P.underlying t = some (.int k) ∧ (Lit.int k n).wf = true
  | .bool _, t => P.underlying t = some .bool
  | .str s, t => P.underlying t = some .string ∧ s.size ≤ maxLen
  | .agg ds, t => ∃ fs, P.underlying t = some (.struct fs) ∧ Dat.okF P ds (fs.toList.map (·.type))
  | .sl sz es, t => ∃ e, P.underlying t = some (.slice e) ∧ sz = P.cellsOf e ∧ es.length ≤ maxLen ∧ Dat.okS P es e
def Dat.okF (P : Program) : List Dat → List TypeId → Prop
  | [], ts => ts = []
  | d :: ds, ts => ∃ t r, ts = t :: r ∧ Dat.ok P d t ∧ Dat.okF P ds r
def Dat.okS (P : Program) : List Dat → TypeId → Prop
  | [], _ => True
  | d :: ds, t => Dat.ok P d t ∧ Dat.okS P ds t
end
theorem okS_of {P : Program} {t : TypeId} : ∀ {es : List Dat}, (∀ (i : Nat) (d : Dat), es[i]? = some d → d.ok P t) → Dat.okS P es t
  | [], _ => trivial
  | d :: es, h => ⟨h 0 d rfl, okS_of fun i d hi => h (i + 1) d (by simpa using hi)⟩
theorem okS_mem {P : Program} {t : TypeId} : ∀ {es : List Dat}, Dat.okS P es t → ∀ d ∈ es, d.ok P t
  | [], _, d, hd => by cases hd
  | e :: es, h, d, hd => by
    rcases List.mem_cons.1 hd with rfl | hd
    · exact h.1
    · exact okS_mem h.2 d hd
def layT (P : Program) (total : Nat) : Nat → List Field → Bool
  | off, [] => off == total
  | off, f :: fs => f.offset == off && layT P total (off + P.cellsOf f.type) fs
/-- types of numbers, texts, structs and slices, each of whose parts is among them -/
def plainS (P : Program) (ts : List TypeId) : Bool :=
  ts.all fun t => match P.underlying t with
    | some (.int _) => true
    | some .bool => true
    | some .string => true
    | some (.struct fs) => layT P (P.cellsOf t) 0 fs.toList && fs.toList.all (fun f => ts.contains f.type)
    | some (.slice e) => decide (0 < P.cellsOf e) && ts.contains e
    | _ => false
theorem choose_list {Q : Nat → Dat → Prop} : ∀ n : Nat, (∀ i, i < n → ∃ d, Q i d) → ∃ es : List Dat, es.length = n ∧ ∀ i d, es[i]? = some d → Q i d
  | 0, _ => ⟨[], rfl, fun i d h => by cases h⟩
  | n + 1, h => by
    obtain ⟨es, h1, h2⟩ := choose_list n fun i hi => h i (by omega)
    obtain ⟨d, hd⟩ := h n (by omega)
    refine ⟨es ++ [d], by simp [h1], fun i x hx => ?_⟩
    rcases Nat.lt_or_ge i es.length with hi | hi
    · rw [List.getElem?_append_left hi] at hx; exact h2 i x hx
    · rw [List.getElem?_append_right hi] at hx
      have hl := (List.getElem?_eq_some_iff.1 hx).1
      have : i = n := by simp at hl; omega
      subst this
      rw [h1, Nat.sub_self] at hx
      cases hx; exact hd
section
variable {H : Type} {enc : TypeId × Value → H} {P : Program} {W : World}
theorem rep_fields {cs : List Value} {total : Nat} (hcs : cs.length = total) : ∀ (fl : List Field) (off : Nat), layT P total off fl = true →
    (∀ f ∈ fl, ∃ d, Rep (all W) d ((cs.drop f.offset).take (P.cellsOf f.type)) ∧ d.ok P f.type) → ∃ ds, RepA (all W) ds (cs.drop off) ∧ Dat.okF P ds (fl.map (·.type))
  | [], off, hl, _ => ⟨[], by
    have : off = total := by simpa [layT] using hl
    rw [RepA, List.drop_eq_nil_iff]; omega, rfl⟩
  | f :: fl, off, hl, h => by
    simp only [layT, Bool.and_eq_true, beq_iff_eq] at hl
    obtain ⟨d, h1, h2⟩ := h f List.mem_cons_self
    obtain ⟨ds, h3, h4⟩ := rep_fields hcs fl _ hl.2 fun g hg => h g (List.mem_cons_of_mem _ hg)
    refine ⟨d :: ds, ⟨_, _, ?_, h1, h3⟩, _, _, rfl, h2, h4⟩
    rw [hl.1, ← List.drop_drop, List.take_append_drop]
theorem rep_of_trod {ts : List TypeId} (hp : plainS P ts = true) {sp : Nat → Bool} : ∀ (fuel : Nat) (t : TypeId) (cs : List Value) (x : DataW H × List MemPlace), t ∈ ts →
    DataW.trod enc P W 0 sp true fuel t cs = some x → ∃ d, Rep (all W) d cs ∧ d.ok P t
  | 0, _, _, _, _, h => by simp [DataW.trod] at h
  | fuel + 1, t, cs, x, ht, h => by
    have hpt := List.all_eq_true.1 hp t ht
    cases hu : P.underlying t with
    | none => rw [hu] at hpt; cases hpt
    | some k =>
      rw [hu] at hpt
      cases k with
      | int k => obtain ⟨n, rfl, _, hw⟩ := DataW.trod_int hu h; exact ⟨.int k n, rfl, hu, hw⟩
      | bool => obtain ⟨b, rfl, _⟩ := DataW.trod_bool hu h; exact ⟨.bool b, rfl, hu⟩
      | string => obtain ⟨s, rfl, _, hs⟩ := DataW.trod_string hu h; exact ⟨.str s, rfl, hu, hs⟩
      | struct fs =>
        simp only [Bool.and_eq_true] at hpt
        obtain ⟨xs, n, hn, _, hl, hxl, hx⟩ := DataW.trod_struct hu h
        obtain rfl : fuel = n := by omega
        obtain ⟨ds, h1, h2⟩ := rep_fields (P := P) (W := W) hl fs.toList 0 hpt.1 (fun f hf => by
          obtain ⟨i, hi, rfl⟩ := List.getElem_of_mem hf
          have hi' : i < fs.size := by simpa using hi
          have h1 := hx i fs[i] (Array.getElem?_eq_getElem hi')
          rw [List.getElem?_eq_getElem (by omega)] at h1
          have hmem : fs[i].type ∈ ts := by
            have := List.all_eq_true.1 hpt.2 _ hf
            simpa using this
          exact rep_of_trod hp fuel _ _ _ hmem h1)
        rw [List.drop_zero] at h1
        exact ⟨.agg ds, h1, fs, hu, h2⟩
      | slice e =>
        simp only [Bool.and_eq_true, decide_eq_true_eq] at hpt
        have he : e ∈ ts := by simpa using hpt.2
        rcases DataW.trod_slice hu h with ⟨rfl, _⟩ | ⟨a, len, cap, elems, rest, n, hn, rfl, _, _, hlc, hcm, hel, hget, _, _⟩
        · exact ⟨.sl (P.cellsOf e) [], ⟨none, 0, rfl, fun _ => rfl, Nat.le_refl _, trivial⟩, e, hu, rfl, Nat.zero_le _, trivial⟩
        obtain rfl : fuel = n := by omega
        have hspot : 0 < len → a.spot = none := fun h0 => by
          have h1 := hget 0 h0
          rw [List.getElem?_eq_getElem (by omega)] at h1
          obtain ⟨c, hc, _⟩ := Option.bind_eq_some_iff.1 h1
          obtain ⟨_, hcl, hcc⟩ := World.cells?_some hc
          have hcell := (hcc 0 hpt.1).trans (List.getElem?_eq_getElem (by omega))
          have := World.cell?_spot hcell
          simpa [Addr.add] using this
        obtain ⟨es, h1, h2⟩ := choose_list (Q := fun i d => d.ok P e ∧ ∃ c, c.length = P.cellsOf e ∧ CellsAt (all W) (some a) (i * P.cellsOf e) c ∧ Rep (all W) d c) len (fun i hi => by
          have h1 := hget i hi
          rw [List.getElem?_eq_getElem (by omega)] at h1
          obtain ⟨c, hc, ht⟩ := Option.bind_eq_some_iff.1 h1
          obtain ⟨_, hcl, hcc⟩ := World.cells?_some hc
          obtain ⟨d, hd, hok⟩ := rep_of_trod hp fuel e c _ he ht
          refine ⟨d, hok, c, hcl, fun j v hj => ?_, hd⟩
          have hjl := (List.getElem?_eq_some_iff.1 hj).1
          have hcell : W.cell? ((a.add (i * P.cellsOf e)).add j) = some v := (hcc j (by omega)).trans hj
          obtain ⟨b, off, sp⟩ := a
          have hsp : sp = none := hspot (by omega)
          subst hsp
          rw [addr_add', addr_add'] at hcell
          exact ⟨b, off, rfl, cell_all hcell⟩)
        refine ⟨.sl (P.cellsOf e) es, ⟨some a, cap, by rw [h1], by simp, by omega, RepS.of fun i d hi => ?_⟩, e, hu, rfl, by omega, okS_of fun i d hi => (h2 i d hi).1⟩
        rw [Nat.zero_add]; exact (h2 i d hi).2
      | _ => cases hpt
end
end Go.Sh
end

section
namespace Go.Proofs
open Go.Sh
set_option maxRecDepth 100000
set_option linter.unusedSimpArgs false
set_option linter.unusedVariables false
def inI (n : Int) : Prop := -9223372036854775808 ≤ n ∧ n ≤ 9223372036854775807
mutual
/-- the numbers of a type are of their kinds -/
def TyD.good : TyD → Prop
  | .mk k _ re st of => (0 ≤ k ∧ k ≤ 255) ∧ inI re ∧ inI st ∧ of.length ≤ Go.maxLen ∧ TyD.goods of
def TyD.goods : List TyD → Prop
  | [] => True
  | t :: l => TyD.good t ∧ TyD.goods l
end
theorem TyD.goods_mem : ∀ {l : List TyD}, TyD.goods l → ∀ t ∈ l, t.good
  | [], _, t, h => by cases h
  | x :: l, h, t, ht => by
    rcases List.mem_cons.1 ht with rfl | ht
    · exact h.1
    · exact TyD.goods_mem h.2 t ht
theorem TyD.goods_of : ∀ {l : List TyD}, (∀ t ∈ l, t.good) → TyD.goods l
  | [], _ => trivial
  | x :: l, h => ⟨h x List.mem_cons_self, TyD.goods_of fun t ht => h t (List.mem_cons_of_mem _ ht)⟩
end Go.Proofs
namespace Go.Proofs.YtajllnahceaipaaDoor.open6
open Go.Sh Go.ChangeShapes Go.WideShapes Go.ChangeAt Go.RowKit
set_option maxRecDepth 100000
set_option linter.unusedSimpArgs false
set_option linter.unusedVariables false

theorem own : ownKnob Tryd.prog.godebug = none := by kernel_rfl
theorem u3 : Tryd.prog.underlying 3 = some (.int .i64) := by kernel_rfl
theorem u4 : Tryd.prog.underlying 4 = some .bool := by kernel_rfl
theorem u9 : Tryd.prog.underlying 9 = some .string := by kernel_rfl
theorem u22 : Tryd.prog.underlying 22 = some (.int .u8) := by kernel_rfl
theorem u23 : Tryd.prog.underlying 23 = some (.slice 25) := by kernel_rfl
theorem c25 : Tryd.prog.cellsOf 25 = 5 := by kernel_rfl
noncomputable def structB (t : TypeId) (ts : List TypeId) : Bool := match Tryd.prog.underlying t with | some (.struct fs) => decide (fs.toList.map (·.type) = ts) | _ => false
theorem struct_of {t : TypeId} {ts : List TypeId} (h : structB t ts = true) : ∃ fs, Tryd.prog.underlying t = some (.struct fs) ∧ fs.toList.map (·.type) = ts := by
  unfold structB at h
  split at h
  · rename_i fs hu; exact ⟨fs, hu, of_decide_eq_true h⟩
  · cases h
theorem u25 : ∃ fs, Tryd.prog.underlying 25 = some (.struct fs) ∧ fs.toList.map (·.type) = [22, 4, 3, 3, 23] := struct_of (by kernel_rfl)
theorem laidOut : laidOutB Tryd.prog = true := by kernel_rfl
theorem rowed : mapsRowed Tryd.prog = true := by kernel_rfl
theorem full : ((List.range Tryd.prog.types.size).all fun t => match Tryd.prog.underlying t with | some (.slice e) => decide (0 < Tryd.prog.cellsOf e) | _ => true) = true := by kernel_rfl
theorem plain25 : plainS Tryd.prog [25, 22, 4, 3, 23] = true := by kernel_rfl

theorem dat_int {d : Dat} {t : TypeId} {k : IntKind} (u : Tryd.prog.underlying t = some (.int k)) (h : d.ok Tryd.prog t) : ∃ n, d = .int k n ∧ (Lit.int k n).wf = true := by
  cases d <;> simp only [Dat.ok, u] at h <;> try simp at h
  obtain ⟨rfl, h⟩ := h
  exact ⟨_, rfl, h⟩
theorem dat_bool {d : Dat} (h : d.ok Tryd.prog 4) : ∃ b, d = .bool b := by
  cases d <;> simp only [Dat.ok, u4] at h <;> try simp at h
  exact ⟨_, rfl⟩
theorem dat_str {d : Dat} (h : d.ok Tryd.prog 9) : ∃ s, d = .str s ∧ s.size ≤ maxLen := by
  cases d <;> simp only [Dat.ok, u9] at h <;> try simp at h
  exact ⟨_, rfl, h⟩
theorem dat_sl {d : Dat} {t e : TypeId} (u : Tryd.prog.underlying t = some (.slice e)) (h : d.ok Tryd.prog t) : ∃ es, d = .sl (Tryd.prog.cellsOf e) es ∧ es.length ≤ maxLen ∧ ∀ x ∈ es, x.ok Tryd.prog e := by
  cases d <;> simp only [Dat.ok, u] at h <;> try simp at h
  obtain ⟨rfl, h1, h2⟩ := h
  exact ⟨_, rfl, h1, okS_mem h2⟩
theorem dat_agg {d : Dat} {t : TypeId} {ts : List TypeId} (u : ∃ fs, Tryd.prog.underlying t = some (.struct fs) ∧ fs.toList.map (·.type) = ts) (h : d.ok Tryd.prog t) : ∃ ds, d = .agg ds ∧ Dat.okF Tryd.prog ds ts := by
  obtain ⟨fs, u, rfl⟩ := u
  cases d <;> simp only [Dat.ok, u] at h <;> try simp at h
  exact ⟨_, rfl, by simpa using h⟩
theorem okF_cons {ds : List Dat} {t : TypeId} {ts : List TypeId} (h : Dat.okF Tryd.prog ds (t :: ts)) : ∃ d r, ds = d :: r ∧ d.ok Tryd.prog t ∧ Dat.okF Tryd.prog r ts := by
  cases ds with
  | nil => cases h
  | cons d r => obtain ⟨t', r', h1, h2, h3⟩ := h; cases h1; exact ⟨d, r, rfl, h2, h3⟩
theorem okF_nil {ds : List Dat} (h : Dat.okF Tryd.prog ds []) : ds = [] := by
  cases ds with
  | nil => rfl
  | cons d r => obtain ⟨t', r', h1, _⟩ := h; cases h1
theorem wf_int {n : Int} (h : (Lit.int .i64 n).wf = true) : inI n := by
  simp only [Lit.wf, Bool.and_eq_true, decide_eq_true_eq] at h
  exact ⟨h.1, h.2⟩
theorem wf_u8 {n : Int} (h : (Lit.int .u8 n).wf = true) : 0 ≤ n ∧ n ≤ 255 := by
  simp only [Lit.wf, Bool.and_eq_true, decide_eq_true_eq] at h
  exact ⟨h.1, h.2⟩
theorem list_of {α : Type} {Q : Dat → α → Prop} : ∀ es : List Dat, (∀ d ∈ es, ∃ t, Q d t) → ∃ l : List α, l.length = es.length ∧ ∀ (i : Nat) d t, es[i]? = some d → l[i]? = some t → Q d t
  | [], _ => ⟨[], rfl, fun i d t h => by cases h⟩
  | d :: es, h => by
    obtain ⟨t, ht⟩ := h d List.mem_cons_self
    obtain ⟨l, hl, hq⟩ := list_of es fun x hx => h x (List.mem_cons_of_mem _ hx)
    refine ⟨t :: l, by simp [hl], fun i x y hx hy => ?_⟩
    cases i with
    | zero => simp at hx hy; subst hx hy; exact ht
    | succ i => exact hq i x y (by simpa using hx) (by simpa using hy)
theorem list_map {α : Type} {f : α → Dat} {G : α → Prop} : ∀ es : List Dat, (∀ d ∈ es, ∃ t, d = f t ∧ G t) → ∃ l : List α, es = l.map f ∧ ∀ t ∈ l, G t
  | [], _ => ⟨[], rfl, fun t h => by cases h⟩
  | d :: es, h => by
    obtain ⟨t, rfl, ht⟩ := h d List.mem_cons_self
    obtain ⟨l, rfl, hq⟩ := list_map es fun x hx => h x (List.mem_cons_of_mem _ hx)
    refine ⟨t :: l, rfl, fun x hx => ?_⟩
    rcases List.mem_cons.1 hx with rfl | hx
    · exact ht
    · exact hq x hx
theorem ty_of_ok : ∀ (n : Nat) (d : Dat), SizeOf.sizeOf d ≤ n → d.ok Tryd.prog 25 → ∃ t : TyD, d = t.dat ∧ t.good := by
  intro n
  induction n with
  | zero => intro d h _; cases d <;> simp at h
  | succ n ih =>
    intro d hs h
    obtain ⟨ds, rfl, e0⟩ := dat_agg u25 h
    obtain ⟨d0, ds, rfl, h0, e1⟩ := okF_cons e0
    obtain ⟨d1, ds, rfl, h1, e2⟩ := okF_cons e1
    obtain ⟨d2, ds, rfl, h2, e3⟩ := okF_cons e2
    obtain ⟨d3, ds, rfl, h3, e4⟩ := okF_cons e3
    obtain ⟨d4, ds, rfl, h4, e5⟩ := okF_cons e4
    obtain rfl := okF_nil e5
    obtain ⟨k, rfl, g0⟩ := dat_int u22 h0
    obtain ⟨m, rfl⟩ := dat_bool h1
    obtain ⟨re, rfl, g2⟩ := dat_int u3 h2
    obtain ⟨st, rfl, g3⟩ := dat_int u3 h3
    obtain ⟨es, rfl, hl, k4⟩ := dat_sl u23 h4
    obtain ⟨l, rfl, hg⟩ := list_map (f := TyD.dat) (G := TyD.good) es fun x hx => ih x (by
      have := List.sizeOf_lt_of_mem hx
      simp only [Dat.agg.sizeOf_spec, List.cons.sizeOf_spec, Dat.sl.sizeOf_spec] at hs
      omega) (k4 x hx)
    refine ⟨.mk k m re st l, ?_, wf_u8 g0, wf_int g2, wf_int g3, by simpa using hl, TyD.goods_of hg⟩
    rw [TyD.dat, TyD.dats_map, c25]
theorem ty_open {H : Type} {enc : TypeId × Value → H} {W : World} {base : Nat} {v : Value} {d : DataW H} {p : List MemPlace} (hv : Value.okWide Tryd.prog W .any base 25 v) (h : DataW.Trod enc Tryd.prog W 0 (fun _ => true) true 25 v d p) :
    ∃ t : TyD, TyG (all W) v t ∧ t.good := by
  obtain ⟨fs, hu, _⟩ := u25
  obtain ⟨cs, rfl, hsz⟩ := okWide_struct hu hv
  obtain ⟨fuel, hf⟩ := h
  obtain ⟨d, hr, hd⟩ := rep_of_trod plain25 fuel 25 _ _ (by simp) hf
  obtain ⟨t, rfl, hg⟩ := ty_of_ok _ d (Nat.le_refl _) hd
  exact ⟨t, by simpa [Value.cells] using TyG.of_rep hr, hg⟩
def cellsD : DataW Unit → List Value
  | .agg l => l.map fun
    | .lit (.int k n) => .int k n
    | _ => undef
  | _ => []
def laying (d : DataW Unit) : Obj → Obj
  | .cells _ t frozen => .cells (cellsD d).toArray t frozen
  | o => o
/-- A WORLD FOR THE WITNESSES: the settled one, the tables holding what their initialisers lay. -/
noncomputable def laidWorld (os : Os) : World :=
  { World.holding Tryd.prog os ⟨#[], #[], []⟩ with heap := (((World.holding Tryd.prog os ⟨#[], #[], []⟩).heap.modify 0 (laying Rows.laid_internal_strconv_uint64pow10)).modify 1 (laying Rows.laid_math_bits_deBruijn32tab)).modify 2 (laying Rows.laid_math_bits_deBruijn64tab) }
end Go.Proofs.YtajllnahceaipaaDoor.open6
end

section
namespace Go.Proofs
open Go.Sh
set_option maxRecDepth 100000
set_option linter.unusedSimpArgs false
set_option linter.unusedVariables false
theorem TyD.good.good_in {t : TyD} (h : t.good) : (0 ≤ t.k ∧ t.k ≤ 255) ∧ inI t.re ∧ inI t.st ∧ t.of.length ≤ maxLen ∧ ∀ u ∈ t.of, u.good := by
  cases t with | mk k m re st of => exact ⟨h.1, h.2.1, h.2.2.1, h.2.2.2.1, TyD.goods_mem h.2.2.2.2⟩
theorem good_chain : ∀ (n : Nat) (t : TyD), t.ht ≤ n → t.good → ∀ u ∈ t.chain, u.good := by
  intro n
  induction n with
  | zero => intro t h; cases t; simp [TyD.ht] at h
  | succ n ih =>
    intro t hn hg u hu
    rw [TyD.chain_eq] at hu
    rcases List.mem_cons.1 hu with rfl | hu
    · exact hg
    · cases hof : t.of with
      | nil => rw [hof] at hu; cases hu
      | cons x l =>
        have hx : x ∈ t.of := by rw [hof]; exact List.mem_cons_self
        rw [hof] at hu
        exact ih x (by have := TyD.ht_of hx; omega) (hg.good_in.2.2.2.2 x hx) u hu
theorem good_nums {r : Gh} (hT : TabG r) {t : TyD} (h : t.good) : NumsOK r t := nums_ok hT fun u hu => by
  have := (good_chain _ t (Nat.le_refl _) h u hu).good_in
  exact ⟨this.2.1.2, this.2.2.1.2⟩
/-- blocks of one's own, told, are overwritten: the rest stays -/
theorem spoilt {X : Nat → Prop} {w0 w w' : World} {r q s : Gh} {L : List Asr} (S : StX X w0 r w L) (e : ExtBut (Gh.dom s) w w') (hs : ∀ b o, s b o → r b o) (ha : Above w0 s) (hq : ∀ b o, q b o → r b o) (hd : Dis s q) : StX X w0 q w' L :=
  S.but e (fun b o hb => ⟨hq b o hb, fun ⟨o', ho⟩ => hd b o' o ho hb⟩) (fun b ⟨o, ho⟩ => ha b o ho) (fun x hx k hk ⟨o, ho⟩ => (S.mine x hx k hk).2 o (hs k o ho))
theorem c_law06_TypesTexts {t : TyD} {s : List UInt8} {w : World} {r : Gh} {v : Value} {K : Value → World → Prop} (hr : Holds r w) (hT : TabG r) (ht : TyG r v t) (hg : t.good)
    (h : ∀ w', Ext w w' → K (.bool true) w') : oCall Tryd.prog Tryd.n_law06_TypesTexts #[v, .string (bs s)] w K := by
  refine Tryd.ok_law06_TypesTexts ?_
  unfold Tryd.F_law06_TypesTexts
  have ht0 := ht
  obtain ⟨p, cap, rfl, _⟩ := ht
  have S := St.start hr
  refine S.box fun b2 w1 S => ?_
  (repeat (first | refine s_p ?_ | refine s_c (by omega) ?_ | refine S.ld ?_ | refine S.ldB ?_ | refine S.ce ?_ | refine S.ceB ?_ | refine s_q ?_ | refine s_qc (by omega) ?_ | refine n_some ?_ | rw [List.getD_cons_zero] | rw [List.getD_cons_succ]))
  refine c_law06_typeFits 60 (by decide) (by decide) (by decide) S.holds ht0 fun x w3 e3 => ?_
  have S := S.go e3
  (repeat (first | refine s_p ?_ | refine s_c (by omega) ?_ | refine S.ld ?_ | refine S.ldB ?_ | refine S.ce ?_ | refine S.ceB ?_ | refine s_q ?_ | refine s_qc (by omega) ?_ | refine n_some ?_ | rw [List.getD_cons_zero] | rw [List.getD_cons_succ]))
  refine j_borH (c := decide (8192 < s.length)) (fun _ K2 hK2 => ?_) ?_
  · (repeat (first | refine s_p ?_ | refine s_c (by omega) ?_ | refine S.ld ?_ | refine S.ldB ?_ | refine S.ce ?_ | refine S.ceB ?_ | refine s_q ?_ | refine s_qc (by omega) ?_ | refine n_some ?_ | rw [List.getD_cons_zero] | rw [List.getD_cons_succ]))
    rw [show decide ((8192 : Int) < (s.length : Int)) = decide (8192 < s.length) from decide_eq_decide.2 (by omega)]
    exact hK2
  refine c_b (fun _ => ?_) (fun hc => ?_)
  · exact c_law06_awake fun w5 e5 => h _ (S.go e5).ext
  have hs : s.length ≤ 8192 := by
    simp only [Bool.or_eq_false_iff, decide_eq_false_iff_not] at hc
    omega
  have hN := good_nums hT hg
  (repeat (first | refine s_p ?_ | refine s_c (by omega) ?_ | refine S.ld ?_ | refine S.ldB ?_ | refine S.ce ?_ | refine S.ceB ?_ | refine s_q ?_ | refine s_qc (by omega) ?_ | refine n_some ?_ | rw [List.getD_cons_zero] | rw [List.getD_cons_succ]))
  refine c_types_Text S.holds ht0 hN fun w4 e4 => ?_
  have S := S.go e4
  (repeat (first | refine s_p ?_ | refine s_c (by omega) ?_ | refine S.ld ?_ | refine S.ldB ?_ | refine S.ce ?_ | refine S.ceB ?_ | refine s_q ?_ | refine s_qc (by omega) ?_ | refine n_some ?_ | rw [List.getD_cons_zero] | rw [List.getD_cons_succ]))
  refine c_ref06_Text S.holds ht0 hN fun w5 e5 => ?_
  have S := S.go e5
  (repeat (first | refine s_p ?_ | refine s_c (by omega) ?_ | refine S.ld ?_ | refine S.ldB ?_ | refine S.ce ?_ | refine S.ceB ?_ | refine s_q ?_ | refine s_qc (by omega) ?_ | refine n_some ?_ | rw [List.getD_cons_zero] | rw [List.getD_cons_succ]))
  refine j_borH (c := false) (fun _ K2 hK2 => ?_) ?_
  · (repeat (first | refine s_p ?_ | refine s_c (by omega) ?_ | refine S.ld ?_ | refine S.ldB ?_ | refine S.ce ?_ | refine S.ceB ?_ | refine s_q ?_ | refine s_qc (by omega) ?_ | refine n_some ?_ | rw [List.getD_cons_zero] | rw [List.getD_cons_succ]))
    simpa using hK2
  refine c_f (by simp) ?_
  refine c_types_Read (s := s) S.holds (by omega) fun va sa w6 e6 n6 ha hca => ?_
  obtain ⟨S, da, aa⟩ := S.tell e6 n6
  have ha0 := ha
  obtain ⟨pa, capa, rfl, _⟩ := ha
  (repeat (first | refine s_p ?_ | refine s_c (by omega) ?_ | refine S.ld ?_ | refine S.ldB ?_ | refine S.ce ?_ | refine S.ceB ?_ | refine s_q ?_ | refine s_qc (by omega) ?_ | refine n_some ?_ | rw [List.getD_cons_zero] | rw [List.getD_cons_succ]))
  refine S.al fun b9 w7 S => ?_
  refine S.stB fun w8 S => ?_
  refine c_types_Read (s := s) S.holds (by omega) fun vb sb w9 e9 n9 hb _ => ?_
  obtain ⟨S, db, ab⟩ := S.tell e9 n9
  have hb0 := hb
  obtain ⟨pb, capb, rfl, _⟩ := hb
  (repeat (first | refine s_p ?_ | refine s_c (by omega) ?_ | refine S.ld ?_ | refine S.ldB ?_ | refine S.ce ?_ | refine S.ceB ?_ | refine s_q ?_ | refine s_qc (by omega) ?_ | refine n_some ?_ | rw [List.getD_cons_zero] | rw [List.getD_cons_succ]))
  refine S.al fun b11 w10 S => ?_
  refine S.stB fun w11 S => ?_
  refine c_ref06_Read (s := s) S.holds (by omega) fun vx sx w12 e12 n12 hx => ?_
  obtain ⟨S, dx, ax⟩ := S.tell e12 n12
  have hx0 := hx
  obtain ⟨px, capx, rfl, _⟩ := hx
  (repeat (first | refine s_p ?_ | refine s_c (by omega) ?_ | refine S.ld ?_ | refine S.ldB ?_ | refine S.ce ?_ | refine S.ceB ?_ | refine s_q ?_ | refine s_qc (by omega) ?_ | refine n_some ?_ | rw [List.getD_cons_zero] | rw [List.getD_cons_succ]))
  refine S.al fun b14 w13 S => ?_
  refine S.stB fun w14 S => ?_
  (repeat (first | refine s_p ?_ | refine s_c (by omega) ?_ | refine S.ld ?_ | refine S.ldB ?_ | refine S.ce ?_ | refine S.ceB ?_ | refine s_q ?_ | refine s_qc (by omega) ?_ | refine n_some ?_ | rw [List.getD_cons_zero] | rw [List.getD_cons_succ]))
  have hfew := hca.few
  refine j_borH (c := false) (fun _ K2 hK2 => ?_) ?_
  · (repeat (first | refine s_p ?_ | refine s_c (by omega) ?_ | refine S.ld ?_ | refine S.ldB ?_ | refine S.ce ?_ | refine S.ceB ?_ | refine s_q ?_ | refine s_qc (by omega) ?_ | refine n_some ?_ | rw [List.getD_cons_zero] | rw [List.getD_cons_succ]))
    simpa using hK2
  rw [show (decide ((readT s).2.1 ≠ (readT s).2.1) || false) = false by simp]
  refine j_borE (c := false) (fun _ K2 hK2 => ?_) fun w15 e15 => ?_
  · (repeat (first | refine s_p ?_ | refine s_c (by omega) ?_ | refine S.ld ?_ | refine S.ldB ?_ | refine S.ce ?_ | refine S.ceB ?_ | refine s_q ?_ | refine s_qc (by omega) ?_ | refine n_some ?_ | rw [List.getD_cons_zero] | rw [List.getD_cons_succ]))
    refine c_law06_equal _ (readT s).1 (Nat.le_refl _) hfew S.holds ha0.up hx0.up fun w16 e16 => ?_
    (repeat (first | refine s_p ?_ | refine s_c (by omega) ?_ | refine S.ld ?_ | refine S.ldB ?_ | refine S.ce ?_ | refine S.ceB ?_ | refine s_q ?_ | refine s_qc (by omega) ?_ | refine n_some ?_ | rw [List.getD_cons_zero] | rw [List.getD_cons_succ]))
    exact hK2 _ e16
  have S := S.go e15
  refine c_f (by simp) ?_
  (repeat (first | refine s_p ?_ | refine s_c (by omega) ?_ | refine S.ld ?_ | refine S.ldB ?_ | refine S.ce ?_ | refine S.ceB ?_ | refine s_q ?_ | refine s_qc (by omega) ?_ | refine n_some ?_ | rw [List.getD_cons_zero] | rw [List.getD_cons_succ]))
  refine c_law06_spoil hca ha0 (S.holds.le (h := inferInstance)) fun w17 e17 => ?_
  have S := spoilt (q := (r.or sb).or sx) (s := sa) S e17 (fun b o hb => .inl (.inl (.inr hb))) aa (fun b o hb => hb.elim (fun hb => hb.elim (fun hb => .inl (.inl (.inl hb))) fun hb => .inl (.inr hb)) fun hb => .inr hb)
    ((da.or (db.of (l := inferInstance))).or (dx.of (l := inferInstance)))
  (repeat (first | refine s_p ?_ | refine s_c (by omega) ?_ | refine S.ld ?_ | refine S.ldB ?_ | refine S.ce ?_ | refine S.ceB ?_ | refine s_q ?_ | refine s_qc (by omega) ?_ | refine n_some ?_ | rw [List.getD_cons_zero] | rw [List.getD_cons_succ]))
  refine c_law06_equal _ (readT s).1 (Nat.le_refl _) hfew S.holds hb0.up hx0.up fun w18 e18 => ?_
  have S := S.go e18
  refine j_bandE (c := true) (fun _ K2 hK2 => ?_) fun w19 e19 => ?_
  · exact c_law06_awake fun w20 e20 => hK2 _ e20
  exact h _ (S.go e19).ext
end Go.Proofs
end

section
namespace Go.Proofs
open Go.Sh
set_option maxRecDepth 100000
set_option linter.unusedSimpArgs false
set_option linter.unusedVariables false
/-- what a type's cells are -/
def tyCs (t : TyD) (p : Option Addr) (cap : Nat) : List Value := [.int .u8 t.k, .bool t.m, .int .i64 t.re, .int .i64 t.st, .slice p t.of.length cap]
set_option maxHeartbeats 2000000 in
theorem c_law06_TypesTurn {a b : TyD} {f : Int} {l : List Int} {p : Option Addr} {cap : Nat} {w : World} {r : Gh} {va vb : Value} {K : Value → World → Prop} (hr : Holds r w) (ha : TyG r va a) (hb : TyG r vb b) (hl : Ob r fun w => Sl w p (ints l)) (hcap : l.length ≤ cap) (hp : p = none → cap = 0)
    (h : ∀ w', Ext w w' → K (.bool true) w') : oCall Tryd.prog Tryd.n_law06_TypesTurn #[va, vb, .int .i64 f, .slice p l.length cap] w K := by
  refine Tryd.ok_law06_TypesTurn ?_
  unfold Tryd.F_law06_TypesTurn
  have ha0 := ha
  obtain ⟨pa, capa, rfl, _⟩ := ha
  have hb0 := hb
  obtain ⟨pb, capb, rfl, _⟩ := hb
  have S := St.start hr
  refine S.box fun b2 w1 S => ?_
  refine S.box fun b3 w2 S => ?_
  have S : StX noX w r w2 [.cell b3 (tyCs b pb capb) 25, .cell b2 (tyCs a pa capa) 25] := S
  refine S.ldB ?_ rfl
  refine c_law06_typeFits 60 (by decide) (by decide) (by decide) S.holds ha0 fun x w3 e3 => ?_
  have S := S.go e3
  (first | refine s_p ?_ | refine s_c (by omega) ?_)
  refine j_borX (fun _ K2 hK2 => ?_) fun x2 w4 e4 => ?_
  · refine S.ldB ?_ rfl
    refine c_law06_typeFits 60 (by decide) (by decide) (by decide) S.holds hb0 fun x w3 e3 => ?_
    (first | refine s_p ?_ | refine s_c (by omega) ?_)
    exact hK2 _ _ e3
  have S := S.go e4
  refine j_borH (c := decide (100 < l.length)) (fun _ K2 hK2 => ?_) ?_
  · (repeat (first | refine s_p ?_ | refine s_c (by omega) ?_ | refine S.ld ?_ | refine S.ldB ?_ | refine S.ce ?_ | refine S.ceB ?_ | refine s_q ?_ | refine s_qc (by omega) ?_ | refine n_some ?_ | rw [List.getD_cons_zero] | rw [List.getD_cons_succ]))
    rw [show decide ((100 : Int) < (l.length : Int)) = decide (100 < l.length) from decide_eq_decide.2 (by omega)]
    exact hK2
  refine c_b (fun _ => ?_) (fun hc => ?_)
  · exact c_law06_awake fun w5 e5 => h _ (S.go e5).ext
  have hlen : l.length ≤ 100 := by
    simp only [Bool.or_eq_false_iff, decide_eq_false_iff_not] at hc
    omega
  clear hc
  refine S.ldB ?_ rfl
  refine c_types_Own S.holds ha0 fun vx sx w5 e5 n5 hx hcx => ?_
  obtain ⟨S, dx, ax⟩ := S.tell e5 n5
  have hx0 := hx
  obtain ⟨px, capx, rfl, _⟩ := hx
  (first | refine s_p ?_ | refine s_c (by omega) ?_)
  (first | refine s_p ?_ | refine s_c (by omega) ?_)
  refine S.al fun b9 w6 S => ?_
  refine S.stB fun w7 S => ?_
  refine S.ldB (b := b2) ?_ rfl
  refine c_types_Own S.holds ha0.up fun vy sy w8 e8 n8 hy hcy => ?_
  obtain ⟨S, dy, ay⟩ := S.tell e8 n8
  have hy0 := hy
  obtain ⟨py, capy, rfl, _⟩ := hy
  (first | refine s_p ?_ | refine s_c (by omega) ?_)
  (first | refine s_p ?_ | refine s_c (by omega) ?_)
  refine S.al fun b11 w9 S => ?_
  refine S.stB fun w10 S => ?_
  generalize hT : (if isB a = true then a else zeroD) = T at hx0 hcx hy0 hcy S
  have hfew := hcx.few
  refine S.ldB (b := b2) ?_ rfl
  refine c_ref06_Is S.holds ha0.up fun w11 e11 => ?_
  have S := S.go e11
  refine j_intro (fun s w' => s = (if isB a then [.bool false] else [undef]) ∧ w' = w11) (fun K2 hK2 => ?_) ?_
  · cases hB : isB a
    · (repeat (first | (first | refine s_p ?_ | refine s_c (by omega) ?_ | refine S.ld ?_ | refine S.ldB ?_ | refine S.ce ?_ | refine S.ceB ?_ | refine s_q ?_ | refine s_qc (by omega) ?_ | refine n_some ?_ | rw [List.getD_cons_zero] | rw [List.getD_cons_succ]) | refine g_TT ?_ | refine g_FF ?_ | refine g_TF ?_ | refine g_FT ?_ | refine g_UU ?_ | refine k_pickT ?_ | refine k_pickF ?_))
      exact hK2 _ _ ⟨by first | rfl | (rw [hB] <;> rfl), rfl⟩
    · (repeat (first | (first | refine s_p ?_ | refine s_c (by omega) ?_ | refine S.ld ?_ | refine S.ldB ?_ | refine S.ce ?_ | refine S.ceB ?_ | refine s_q ?_ | refine s_qc (by omega) ?_ | refine n_some ?_ | rw [List.getD_cons_zero] | rw [List.getD_cons_succ]) | refine g_TT ?_ | refine g_FF ?_ | refine g_TF ?_ | refine g_FT ?_ | refine g_UU ?_ | refine k_pickT ?_ | refine k_pickF ?_))
      exact hK2 _ _ ⟨by first | rfl | (rw [hB] <;> rfl), rfl⟩
  rintro _ w11 ⟨rfl, rfl⟩ d
  refine j_intro (fun s w' => s = (if isB a then [.bool false] else [undef]) ∧ w' = w11) (fun K2 hK2 => ?_) ?_
  · cases hB : isB a
    · (repeat (first | (first | refine s_p ?_ | refine s_c (by omega) ?_ | refine S.ld ?_ | refine S.ldB ?_ | refine S.ce ?_ | refine S.ceB ?_ | refine s_q ?_ | refine s_qc (by omega) ?_ | refine n_some ?_ | rw [List.getD_cons_zero] | rw [List.getD_cons_succ]) | refine g_TT ?_ | refine g_FF ?_ | refine g_TF ?_ | refine g_FT ?_ | refine g_UU ?_ | refine k_pickT ?_ | refine k_pickF ?_))
      exact hK2 _ _ ⟨by first | rfl | (rw [hB] <;> rfl), rfl⟩
    · (repeat (first | (first | refine s_p ?_ | refine s_c (by omega) ?_ | refine S.ld ?_ | refine S.ldB ?_ | refine S.ce ?_ | refine S.ceB ?_ | refine s_q ?_ | refine s_qc (by omega) ?_ | refine n_some ?_ | rw [List.getD_cons_zero] | rw [List.getD_cons_succ]) | refine g_TT ?_ | refine g_FF ?_ | refine g_TF ?_ | refine g_FT ?_ | refine g_UU ?_ | refine k_pickT ?_ | refine k_pickF ?_))
      exact hK2 _ _ ⟨by first | rfl | (rw [hB] <;> rfl), rfl⟩
  rintro _ w11 ⟨rfl, rfl⟩ d
  refine j_intro (fun s w' => s = (if isB a then [.bool false] else [undef]) ∧ w' = w11) (fun K2 hK2 => ?_) ?_
  · cases hB : isB a
    · (repeat (first | (first | refine s_p ?_ | refine s_c (by omega) ?_ | refine S.ld ?_ | refine S.ldB ?_ | refine S.ce ?_ | refine S.ceB ?_ | refine s_q ?_ | refine s_qc (by omega) ?_ | refine n_some ?_ | rw [List.getD_cons_zero] | rw [List.getD_cons_succ]) | refine g_TT ?_ | refine g_FF ?_ | refine g_TF ?_ | refine g_FT ?_ | refine g_UU ?_ | refine k_pickT ?_ | refine k_pickF ?_))
      exact hK2 _ _ ⟨by first | rfl | (rw [hB] <;> rfl), rfl⟩
    · (repeat (first | (first | refine s_p ?_ | refine s_c (by omega) ?_ | refine S.ld ?_ | refine S.ldB ?_ | refine S.ce ?_ | refine S.ceB ?_ | refine s_q ?_ | refine s_qc (by omega) ?_ | refine n_some ?_ | rw [List.getD_cons_zero] | rw [List.getD_cons_succ]) | refine g_TT ?_ | refine g_FF ?_ | refine g_TF ?_ | refine g_FT ?_ | refine g_UU ?_ | refine k_pickT ?_ | refine k_pickF ?_))
      exact hK2 _ _ ⟨by first | rfl | (rw [hB] <;> rfl), rfl⟩
  rintro _ w11 ⟨rfl, rfl⟩ d
  refine j_intro (fun s w' => s = (if isB a then [.bool false] else [undef]) ∧ Ext w11 w') (fun K2 hK2 => ?_) ?_
  · cases hB : isB a
    · (repeat (first | (first | refine s_p ?_ | refine s_c (by omega) ?_ | refine S.ld ?_ | refine S.ldB ?_ | refine S.ce ?_ | refine S.ceB ?_ | refine s_q ?_ | refine s_qc (by omega) ?_ | refine n_some ?_ | rw [List.getD_cons_zero] | rw [List.getD_cons_succ]) | refine g_TT ?_ | refine g_FF ?_ | refine g_TF ?_ | refine g_FT ?_ | refine g_UU ?_ | refine k_pickT ?_ | refine k_pickF ?_))
      exact hK2 _ _ ⟨by first | rfl | (rw [hB] <;> rfl), .refl _⟩
    · rw [if_pos hB] at hT
      subst hT
      refine g_FF ?_
      (repeat (first | refine s_p ?_ | refine s_c (by omega) ?_ | refine S.ld ?_ | refine S.ldB ?_ | refine S.ce ?_ | refine S.ceB ?_ | refine s_q ?_ | refine s_qc (by omega) ?_ | refine n_some ?_ | rw [List.getD_cons_zero] | rw [List.getD_cons_succ]))
      refine c_law06_equal _ a (Nat.le_refl _) hfew S.holds hx0.up ha0.up fun w12 e12 => ?_
      (repeat (first | refine s_p ?_ | refine s_c (by omega) ?_ | refine S.ld ?_ | refine S.ldB ?_ | refine S.ce ?_ | refine S.ceB ?_ | refine s_q ?_ | refine s_qc (by omega) ?_ | refine n_some ?_ | rw [List.getD_cons_zero] | rw [List.getD_cons_succ]))
      exact hK2 _ _ ⟨by first | rfl | (rw [hB] <;> rfl), e12⟩
  rintro _ w12 ⟨rfl, e12⟩ d
  have S := S.go e12
  refine j_intro (fun s w' => s = (if isB a then [.bool false] else [undef]) ∧ w' = w12) (fun K2 hK2 => ?_) ?_
  · cases hB : isB a
    · (repeat (first | (first | refine s_p ?_ | refine s_c (by omega) ?_ | refine S.ld ?_ | refine S.ldB ?_ | refine S.ce ?_ | refine S.ceB ?_ | refine s_q ?_ | refine s_qc (by omega) ?_ | refine n_some ?_ | rw [List.getD_cons_zero] | rw [List.getD_cons_succ]) | refine g_TT ?_ | refine g_FF ?_ | refine g_TF ?_ | refine g_FT ?_ | refine g_UU ?_ | refine k_pickT ?_ | refine k_pickF ?_))
      exact hK2 _ _ ⟨by first | rfl | (rw [hB] <;> rfl), rfl⟩
    · (repeat (first | (first | refine s_p ?_ | refine s_c (by omega) ?_ | refine S.ld ?_ | refine S.ldB ?_ | refine S.ce ?_ | refine S.ceB ?_ | refine s_q ?_ | refine s_qc (by omega) ?_ | refine n_some ?_ | rw [List.getD_cons_zero] | rw [List.getD_cons_succ]) | refine g_TT ?_ | refine g_FF ?_ | refine g_TF ?_ | refine g_FT ?_ | refine g_UU ?_ | refine k_pickT ?_ | refine k_pickF ?_))
      exact hK2 _ _ ⟨by first | rfl | (rw [hB] <;> rfl), rfl⟩
  rintro _ w12 ⟨rfl, rfl⟩ d
  refine ⟨isB a, rfl, ?_⟩
  have e63 : (if isB a = true then (if isB a then [Value.bool false] else [undef]).getD 0 undef else Value.bool false) = .bool false := by cases isB a <;> rfl
  rw [e63]
  refine j_intro (fun s w' => s = [.bool (!isB a)] ∧ w' = w12) (fun K2 hK2 => ?_) ?_
  · (repeat (first | (first | refine s_p ?_ | refine s_c (by omega) ?_ | refine S.ld ?_ | refine S.ldB ?_ | refine S.ce ?_ | refine S.ceB ?_ | refine s_q ?_ | refine s_qc (by omega) ?_ | refine n_some ?_ | rw [List.getD_cons_zero] | rw [List.getD_cons_succ]) | refine g_TT ?_ | refine g_FF ?_ | refine g_TF ?_ | refine g_FT ?_ | refine g_UU ?_ | refine k_pickT ?_ | refine k_pickF ?_))
    exact hK2 _ _ ⟨rfl, rfl⟩
  rintro _ w12 ⟨rfl, rfl⟩ d
  refine j_intro (fun s w' => s = (if isB a then [undef] else [.bool false]) ∧ w' = w12) (fun K2 hK2 => ?_) ?_
  · cases hB : isB a
    · (repeat (first | (first | refine s_p ?_ | refine s_c (by omega) ?_ | refine S.ld ?_ | refine S.ldB ?_ | refine S.ce ?_ | refine S.ceB ?_ | refine s_q ?_ | refine s_qc (by omega) ?_ | refine n_some ?_ | rw [List.getD_cons_zero] | rw [List.getD_cons_succ]) | refine g_TT ?_ | refine g_FF ?_ | refine g_TF ?_ | refine g_FT ?_ | refine g_UU ?_ | refine k_pickT ?_ | refine k_pickF ?_))
      exact hK2 _ _ ⟨by first | rfl | (rw [hB] <;> rfl), rfl⟩
    · (repeat (first | (first | refine s_p ?_ | refine s_c (by omega) ?_ | refine S.ld ?_ | refine S.ldB ?_ | refine S.ce ?_ | refine S.ceB ?_ | refine s_q ?_ | refine s_qc (by omega) ?_ | refine n_some ?_ | rw [List.getD_cons_zero] | rw [List.getD_cons_succ]) | refine g_TT ?_ | refine g_FF ?_ | refine g_TF ?_ | refine g_FT ?_ | refine g_UU ?_ | refine k_pickT ?_ | refine k_pickF ?_))
      exact hK2 _ _ ⟨by first | rfl | (rw [hB] <;> rfl), rfl⟩
  rintro _ w12 ⟨rfl, rfl⟩ d
  refine j_intro (fun s w' => s = (if isB a then [undef] else [.bool false]) ∧ Ext w12 w') (fun K2 hK2 => ?_) ?_
  · cases hB : isB a
    · rw [hB] at hT
      have hT : zeroD = T := hT
      subst hT
      refine g_FF ?_
      (repeat (first | refine s_p ?_ | refine s_c (by omega) ?_ | refine S.ld ?_ | refine S.ldB ?_ | refine S.ce ?_ | refine S.ceB ?_ | refine s_q ?_ | refine s_qc (by omega) ?_ | refine n_some ?_ | rw [List.getD_cons_zero] | rw [List.getD_cons_succ]))
      refine c_law06_equal _ zeroD (Nat.le_refl _) hfew S.holds (hx0.up) (ty_leaf (r := nothing)).up fun w13 e13 => ?_
      (repeat (first | refine s_p ?_ | refine s_c (by omega) ?_ | refine S.ld ?_ | refine S.ldB ?_ | refine S.ce ?_ | refine S.ceB ?_ | refine s_q ?_ | refine s_qc (by omega) ?_ | refine n_some ?_ | rw [List.getD_cons_zero] | rw [List.getD_cons_succ]))
      exact hK2 _ _ ⟨by first | rfl | (rw [hB] <;> rfl), e13⟩
    · (repeat (first | (first | refine s_p ?_ | refine s_c (by omega) ?_ | refine S.ld ?_ | refine S.ldB ?_ | refine S.ce ?_ | refine S.ceB ?_ | refine s_q ?_ | refine s_qc (by omega) ?_ | refine n_some ?_ | rw [List.getD_cons_zero] | rw [List.getD_cons_succ]) | refine g_TT ?_ | refine g_FF ?_ | refine g_TF ?_ | refine g_FT ?_ | refine g_UU ?_ | refine k_pickT ?_ | refine k_pickF ?_))
      exact hK2 _ _ ⟨by first | rfl | (rw [hB] <;> rfl), .refl _⟩
  rintro _ w13 ⟨rfl, e13⟩ d
  have S := S.go e13
  refine j_intro (fun s w' => s = (if isB a then [undef] else [.bool false]) ∧ w' = w13) (fun K2 hK2 => ?_) ?_
  · cases hB : isB a
    · (repeat (first | (first | refine s_p ?_ | refine s_c (by omega) ?_ | refine S.ld ?_ | refine S.ldB ?_ | refine S.ce ?_ | refine S.ceB ?_ | refine s_q ?_ | refine s_qc (by omega) ?_ | refine n_some ?_ | rw [List.getD_cons_zero] | rw [List.getD_cons_succ]) | refine g_TT ?_ | refine g_FF ?_ | refine g_TF ?_ | refine g_FT ?_ | refine g_UU ?_ | refine k_pickT ?_ | refine k_pickF ?_))
      exact hK2 _ _ ⟨by first | rfl | (rw [hB] <;> rfl), rfl⟩
    · (repeat (first | (first | refine s_p ?_ | refine s_c (by omega) ?_ | refine S.ld ?_ | refine S.ldB ?_ | refine S.ce ?_ | refine S.ceB ?_ | refine s_q ?_ | refine s_qc (by omega) ?_ | refine n_some ?_ | rw [List.getD_cons_zero] | rw [List.getD_cons_succ]) | refine g_TT ?_ | refine g_FF ?_ | refine g_TF ?_ | refine g_FT ?_ | refine g_UU ?_ | refine k_pickT ?_ | refine k_pickF ?_))
      exact hK2 _ _ ⟨by first | rfl | (rw [hB] <;> rfl), rfl⟩
  rintro _ w13 ⟨rfl, rfl⟩ d
  refine j_intro (fun s w' => s = [.bool false] ∧ w' = w13) (fun K2 hK2 => ?_) ?_
  · cases hB : isB a
    · (repeat (first | (first | refine s_p ?_ | refine s_c (by omega) ?_ | refine S.ld ?_ | refine S.ldB ?_ | refine S.ce ?_ | refine S.ceB ?_ | refine s_q ?_ | refine s_qc (by omega) ?_ | refine n_some ?_ | rw [List.getD_cons_zero] | rw [List.getD_cons_succ]) | refine g_TT ?_ | refine g_FF ?_ | refine g_TF ?_ | refine g_FT ?_ | refine g_UU ?_ | refine k_pickT ?_ | refine k_pickF ?_))
      exact hK2 _ _ ⟨by first | rfl | (rw [hB] <;> rfl), rfl⟩
    · (repeat (first | (first | refine s_p ?_ | refine s_c (by omega) ?_ | refine S.ld ?_ | refine S.ldB ?_ | refine S.ce ?_ | refine S.ceB ?_ | refine s_q ?_ | refine s_qc (by omega) ?_ | refine n_some ?_ | rw [List.getD_cons_zero] | rw [List.getD_cons_succ]) | refine g_TT ?_ | refine g_FF ?_ | refine g_TF ?_ | refine g_FT ?_ | refine g_UU ?_ | refine k_pickT ?_ | refine k_pickF ?_))
      exact hK2 _ _ ⟨by first | rfl | (rw [hB] <;> rfl), rfl⟩
  rintro _ w13 ⟨rfl, rfl⟩ d
  refine k_pickF ?_
  refine c_f rfl ?_
  -- the one is written over
  refine S.ldB (b := b9) ?_ rfl
  refine c_law06_spoil hcx hx0 (S.holds.le (h := inferInstance)) fun w14 e14 => ?_
  have S := spoilt (q := r.or sy) (s := sx) S e14 (fun b o hb => .inl (.inr hb)) ax (fun b o hb => hb.elim (fun hb => .inl (.inl hb)) fun hb => .inr hb)
    (dx.or (fun b o o' h1 h2 => dy b o' o h2 (.inr h1)))
  have S := S.go (Ext.drew _)
  refine j_intro (fun s w' => s = (if isB a then [.bool false] else [undef]) ∧ Ext w14.drew w') (fun K2 hK2 => ?_) ?_
  · cases hB : isB a
    · (repeat (first | (first | refine s_p ?_ | refine s_c (by omega) ?_ | refine S.ld ?_ | refine S.ldB ?_ | refine S.ce ?_ | refine S.ceB ?_ | refine s_q ?_ | refine s_qc (by omega) ?_ | refine n_some ?_ | rw [List.getD_cons_zero] | rw [List.getD_cons_succ]) | refine g_TT ?_ | refine g_FF ?_ | refine g_TF ?_ | refine g_FT ?_ | refine g_UU ?_ | refine k_pickT ?_ | refine k_pickF ?_))
      exact hK2 _ _ ⟨by first | rfl | (rw [hB] <;> rfl), .refl _⟩
    · rw [if_pos hB] at hT
      subst hT
      refine g_TT ?_
      (repeat (first | refine s_p ?_ | refine s_c (by omega) ?_ | refine S.ld ?_ | refine S.ldB ?_ | refine S.ce ?_ | refine S.ceB ?_ | refine s_q ?_ | refine s_qc (by omega) ?_ | refine n_some ?_ | rw [List.getD_cons_zero] | rw [List.getD_cons_succ]))
      refine c_law06_equal _ a (Nat.le_refl _) hfew S.holds hy0.up ha0.up fun w12 e12 => ?_
      (repeat (first | refine s_p ?_ | refine s_c (by omega) ?_ | refine S.ld ?_ | refine S.ldB ?_ | refine S.ce ?_ | refine S.ceB ?_ | refine s_q ?_ | refine s_qc (by omega) ?_ | refine n_some ?_ | rw [List.getD_cons_zero] | rw [List.getD_cons_succ]))
      exact hK2 _ _ ⟨by first | rfl | (rw [hB] <;> rfl), e12⟩
  rintro _ w15 ⟨rfl, e15⟩ d
  have S := S.go e15
  refine ⟨isB a, rfl, ?_⟩
  rw [e63]
  refine j_borE (c := false) (fun _ K2 hK2 => ?_) fun w16 e16 => ?_
  · (repeat (first | refine s_p ?_ | refine s_c (by omega) ?_ | refine S.ld ?_ | refine S.ldB ?_ | refine S.ce ?_ | refine S.ceB ?_ | refine s_q ?_ | refine s_qc (by omega) ?_ | refine n_some ?_ | rw [List.getD_cons_zero] | rw [List.getD_cons_succ]))
    refine c_types_Alike S.holds ha0.up hb0.up fun w17 e17 => ⟨e17, ?_⟩
    have S := S.go e17
    refine c_ref06_Alike S.holds ha0.up hb0.up fun w18 e18 => ?_
    (repeat (first | refine s_p ?_ | refine s_c (by omega) ?_ | refine S.ld ?_ | refine S.ldB ?_ | refine S.ce ?_ | refine S.ceB ?_ | refine s_q ?_ | refine s_qc (by omega) ?_ | refine n_some ?_ | rw [List.getD_cons_zero] | rw [List.getD_cons_succ]))
    rw [beq_self_eq_true]
    exact hK2 _ (e17.trans e18)
  have S := S.go e16
  refine j_borE (c := false) (fun _ K2 hK2 => ?_) fun w16 e16 => ?_
  · (repeat (first | refine s_p ?_ | refine s_c (by omega) ?_ | refine S.ld ?_ | refine S.ldB ?_ | refine S.ce ?_ | refine S.ceB ?_ | refine s_q ?_ | refine s_qc (by omega) ?_ | refine n_some ?_ | rw [List.getD_cons_zero] | rw [List.getD_cons_succ]))
    refine c_types_Same S.holds ha0.up hb0.up fun w17 e17 => ⟨e17, ?_⟩
    have S := S.go e17
    refine c_ref06_Same S.holds ha0.up hb0.up fun w18 e18 => ?_
    (repeat (first | refine s_p ?_ | refine s_c (by omega) ?_ | refine S.ld ?_ | refine S.ldB ?_ | refine S.ce ?_ | refine S.ceB ?_ | refine s_q ?_ | refine s_qc (by omega) ?_ | refine n_some ?_ | rw [List.getD_cons_zero] | rw [List.getD_cons_succ]))
    rw [beq_self_eq_true]
    exact hK2 _ (e17.trans e18)
  have S := S.go e16
  refine c_f rfl ?_
  -- the regions
  refine S.ldB (b := b2) ?_ rfl
  refine c_types_Regions S.holds ha0.up fun v1 w17 e17 o17 => ?_
  obtain ⟨s1, p1, cap1, n1, nb1, rfl, _, _, hs1⟩ := row_gh o17
  have S := S.new e17 n1
  refine S.ldB (b := b2) ?_ rfl
  refine c_ref06_Regions S.holds ha0.up fun v2 w18 e18 o18 => ?_
  obtain ⟨s2, p2, cap2, n2, nb2, rfl, _, _, hs2⟩ := row_gh o18
  have S := S.new e18 n2
  (first | refine s_p ?_ | refine s_c (by omega) ?_)
  (first | refine s_p ?_ | refine s_c (by omega) ?_)
  (first | refine s_p ?_ | refine s_c (by omega) ?_)
  refine c_f (by simp) ?_
  have hrl : (regsT a).length ≤ 48 := by
    rw [regsT]; split
    · exact regs_le48 (by assumption)
    · simp
  refine l_intro (ι := Nat) (fun i => [.int .i64 i]) (fun i w' => i ≤ (regsT a).length ∧ StX noX w _ w' _) (fun i => (regsT a).length - i) 0 rfl ⟨Nat.zero_le _, S⟩ ?_
  clear S
  rintro i d w19 ⟨hi, S⟩ K6 hK6
  rw [List.getD_cons_zero]
  (first | refine s_p ?_ | refine s_c (by omega) ?_)
  (first | refine s_p ?_ | refine s_c (by omega) ?_)
  refine c_b (fun hlt => ?_) (fun hge => ?_)
  · have hlt : i < (regsT a).length := by simpa using hlt
    obtain ⟨bq1, oq1, rfl, hq1⟩ := ints_at (S.at hs1) hlt
    obtain ⟨bq2, oq2, rfl, hq2⟩ := ints_at (S.at hs2) hlt
    have S := S.go (Ext.drew _)
    (first | refine s_p ?_ | refine s_c (by omega) ?_)
    refine s_ld1 (cell_ext (by simpa using hq1) (Ext.drew _)) ?_
    (first | refine s_p ?_ | refine s_c (by omega) ?_)
    refine s_ld1 (cell_ext (by simpa using hq2) (Ext.drew _)) ?_
    (first | refine s_p ?_ | refine s_c (by omega) ?_)
    refine c_f (by simp) ?_
    (first | refine s_p ?_ | refine s_c (by omega) ?_)
    rw [show ((i : Int) + 1) = ((i + 1 : Nat) : Int) by omega]
    exact hK6 (i + 1) _ ⟨hlt, S⟩ (by omega)
  clear hge hi
  -- the numbers
  have S := S.to (r.or sy)
  refine S.ldB (b := b2) ?_ rfl
  refine c_types_Number S.holds ha0.up fun vx1 sx1 w20 e20 n20 hx1 hcx1 => ?_
  obtain ⟨S, dx1, ax1⟩ := S.tell e20 n20
  have hx10 := hx1
  obtain ⟨px1, capx1, rfl, _⟩ := hx1
  (first | refine s_p ?_ | refine s_c (by omega) ?_)
  (first | refine s_p ?_ | refine s_c (by omega) ?_)
  (first | refine s_p ?_ | refine s_c (by omega) ?_)
  refine S.stB (b := b9) fun w21 S => ?_
  refine S.ldB (b := b2) ?_ rfl
  refine c_types_Number S.holds ha0.up fun vy1 sy1 w22 e22 n22 hy1 hcy1 => ?_
  obtain ⟨S, dy1, ay1⟩ := S.tell e22 n22
  have hy10 := hy1
  obtain ⟨py1, capy1, rfl, _⟩ := hy1
  (first | refine s_p ?_ | refine s_c (by omega) ?_)
  (first | refine s_p ?_ | refine s_c (by omega) ?_)
  (first | refine s_p ?_ | refine s_c (by omega) ?_)
  refine S.stB (b := b11) fun w23 S => ?_
  refine S.ldB (b := b2) ?_ rfl
  refine c_ref06_Number S.holds ha0.up fun vz1 sz1 w24 e24 n24 hz1 => ?_
  obtain ⟨S, dz1, az1⟩ := S.tell e24 n24
  have hz10 := hz1
  obtain ⟨pz1, capz1, rfl, _⟩ := hz1
  (first | refine s_p ?_ | refine s_c (by omega) ?_)
  (first | refine s_p ?_ | refine s_c (by omega) ?_)
  (first | refine s_p ?_ | refine s_c (by omega) ?_)
  refine S.al fun b18 w25 S => ?_
  refine S.stB fun w26 S => ?_
  have hfew1 := hcx1.few
  (first | refine s_p ?_ | refine s_c (by omega) ?_)
  refine j_borH (c := false) (fun _ K2 hK2 => ?_) ?_
  · (repeat (first | refine s_p ?_ | refine s_c (by omega) ?_ | refine S.ld ?_ | refine S.ldB ?_ | refine S.ce ?_ | refine S.ceB ?_ | refine s_q ?_ | refine s_qc (by omega) ?_ | refine n_some ?_ | rw [List.getD_cons_zero] | rw [List.getD_cons_succ]))
    simpa using hK2
  rw [show (decide ((numT a f).2.1 ≠ (numT a f).2.1) || false) = false by simp]
  refine j_borE (c := false) (fun _ K2 hK2 => ?_) fun w27 e27 => ?_
  · refine S.ldB (b := b9) ?_ rfl
    refine S.ldB (b := b18) ?_ rfl
    refine c_law06_equal _ (numT a f).1 (Nat.le_refl _) hfew1 S.holds hx10.up hz10.up fun w28 e28 => ?_
    (first | refine s_p ?_ | refine s_c (by omega) ?_)
    exact hK2 _ e28
  have S := S.go e27
  refine c_f rfl ?_
  refine S.ldB (b := b9) ?_ rfl
  refine c_law06_spoil hcx1 hx10 (S.holds.le (h := inferInstance)) fun w28 e28 => ?_
  have S := spoilt (q := (r.or sy1).or sz1) (s := sx1) S e28 (fun b o hb => .inl (.inl (.inr hb))) ax1 (fun b o hb => hb.elim (fun hb => hb.elim (fun hb => .inl (.inl (.inl (.inl hb)))) fun hb => .inl (.inr hb)) fun hb => .inr hb)
    (((dx1.le (l := ⟨fun _ _ h => .inl h⟩)).or (fun b o o' h1 h2 => dy1 b o' o h2 (.inr h1))).or (fun b o o' h1 h2 => dz1 b o' o h2 (.inl (.inr h1))))
  refine S.ldB (b := b11) ?_ rfl
  refine S.ldB (b := b18) ?_ rfl
  refine c_law06_equal _ (numT a f).1 (Nat.le_refl _) hfew1 S.holds hy10.up hz10.up fun w29 e29 => ?_
  have S := S.go e29
  (first | refine s_p ?_ | refine s_c (by omega) ?_)
  refine c_f rfl ?_
  -- the regions laid anew
  have S := S.to r
  have S := S.ownNil 3 1
  refine S.ap (S.at hl) (fun v30 w30 S => ?_) (by omega) (by rw [ints_len]; omega) hp (ints_ones _)
  refine S.lit (e := 3) (cs := [.int .i64 77]) (by kernel_rfl) fun b31 w31 S => ?_
  refine S.ap (Sl.blk (S.blk b31)) (fun v32 w32 S => ?_) (by omega)
  have S := S.go (Ext.drew _)
  obtain ⟨b33, cap33, c33, rfl, hc33, hcl33, htk33, S⟩ := S.rowCell v32 (by omega)
  have S := S.frzAt b33
  have hown : Ob (one b33 c33 3) fun w => Sl w (some ⟨b33, 0, none⟩) (ints l ++ [.int .i64 77]) := fun w' k => by
    have := (Sl.blk (one_blk w' k)).take ((0 + l.length + 1) * 1)
    rw [htk33] at this
    exact this
  have hown1 : Ob (one b33 c33 3) fun w => Sl w (some ⟨b33, 0, none⟩) (ints l) := hown.mono fun w' k i v hv => k i v (by rw [List.getElem?_append_left (List.getElem?_eq_some_iff.1 hv).1]; exact hv)
  refine S.ldB (b := b2) ?_ rfl
  (first | refine s_p ?_ | refine s_c (by omega) ?_)
  (first | refine s_p ?_ | refine s_c (by omega) ?_)
  rw [Int.toNat_natCast]
  refine c_types_Anew S.holds ha0.up hown1.up (by omega) fun vx2 sx2 w34 e34 n34 hx2 hcx2 => ?_
  obtain ⟨S, dx2, ax2⟩ := S.tell e34 n34
  have hx20 := hx2
  obtain ⟨px2, capx2, rfl, _⟩ := hx2
  (first | refine s_p ?_ | refine s_c (by omega) ?_)
  (first | refine s_p ?_ | refine s_c (by omega) ?_)
  refine S.stB (b := b9) fun w35 S => ?_
  have S := S.go (Ext.drew _)
  refine S.ldB (b := b2) ?_ rfl
  (first | refine s_p ?_ | refine s_c (by omega) ?_)
  (first | refine s_p ?_ | refine s_c (by omega) ?_)
  rw [Int.toNat_natCast]
  refine c_types_Anew S.holds ha0.up hown1.up (by omega) fun vy2 sy2 w36 e36 n36 hy2 hcy2 => ?_
  obtain ⟨S, dy2, ay2⟩ := S.tell e36 n36
  have hy20 := hy2
  obtain ⟨py2, capy2, rfl, _⟩ := hy2
  (first | refine s_p ?_ | refine s_c (by omega) ?_)
  (first | refine s_p ?_ | refine s_c (by omega) ?_)
  refine S.stB (b := b11) fun w37 S => ?_
  refine S.ldB (b := b2) ?_ rfl
  refine c_ref06_Anew S.holds ha0.up hl.up (by omega) hcap fun vz2 sz2 w38 e38 n38 hz2 => ?_
  obtain ⟨S, dz2, az2⟩ := S.tell e38 n38
  have hz20 := hz2
  obtain ⟨pz2, capz2, rfl, _⟩ := hz2
  (first | refine s_p ?_ | refine s_c (by omega) ?_)
  (first | refine s_p ?_ | refine s_c (by omega) ?_)
  refine S.stB (b := b18) fun w39 S => ?_
  have hfew2 := hcx2.few
  (first | refine s_p ?_ | refine s_c (by omega) ?_)
  rw [show decide ((anewT a l).2 ≠ (anewT a l).2) = false by simp]
  refine j_borE (c := false) (fun _ K2 hK2 => ?_) fun w40 e40 => ?_
  · refine S.ldB (b := b9) ?_ rfl
    refine S.ldB (b := b18) ?_ rfl
    refine c_law06_equal _ (anewT a l).1 (Nat.le_refl _) hfew2 S.holds hx20.up hz20.up fun w41 e41 => ?_
    (first | refine s_p ?_ | refine s_c (by omega) ?_)
    exact hK2 _ e41
  have S := S.go e40
  refine c_f rfl ?_
  refine S.ldB (b := b9) ?_ rfl
  refine c_law06_spoil hcx2 hx20 (S.holds.le (h := inferInstance)) fun w42 e42 => ?_
  have S := spoilt (q := ((r.or (one b33 c33 3)).or sy2).or sz2) (s := sx2) S e42 (fun b o hb => .inl (.inl (.inr hb))) ax2
    (fun b o hb => hb.elim (fun hb => hb.elim (fun hb => .inl (.inl (.inl hb))) fun hb => .inl (.inr hb)) fun hb => .inr hb)
    ((dx2.or (fun b o o' h1 h2 => dy2 b o' o h2 (.inr h1))).or (fun b o o' h1 h2 => dz2 b o' o h2 (.inl (.inr h1))))
  refine l_intro (ι := Nat) (fun i => [.int .i64 i]) (fun i w' => i ≤ l.length ∧ StX noX w _ w' _) (fun i => l.length - i) 0 rfl ⟨Nat.zero_le _, S⟩ ?_
  clear S
  rintro i d w43 ⟨hi, S⟩ K6 hK6
  rw [List.getD_cons_zero]
  (first | refine s_p ?_ | refine s_c (by omega) ?_)
  (first | refine s_p ?_ | refine s_c (by omega) ?_)
  refine c_b (fun hlt => ?_) (fun hge => ?_)
  · have hlt : i < l.length := by simpa using hlt
    obtain ⟨bq1, oq1, hq0, hq1⟩ := ints_at (S.at hown1) hlt
    cases hq0
    obtain ⟨bq2, oq2, rfl, hq2⟩ := ints_at (S.at hl) hlt
    have S := S.go (Ext.drew _)
    (first | refine s_p ?_ | refine s_c (by omega) ?_)
    refine s_ld1 (cell_ext (by simpa using hq1) (Ext.drew _)) ?_
    (first | refine s_p ?_ | refine s_c (by omega) ?_)
    refine s_ld1 (cell_ext (by simpa using hq2) (Ext.drew _)) ?_
    (first | refine s_p ?_ | refine s_c (by omega) ?_)
    refine c_f (by simp) ?_
    (first | refine s_p ?_ | refine s_c (by omega) ?_)
    rw [show ((i : Int) + 1) = ((i + 1 : Nat) : Int) by omega]
    exact hK6 (i + 1) _ ⟨hlt, S⟩ (by omega)
  clear hge hi
  refine S.ldB (b := b11) ?_ rfl
  refine S.ldB (b := b18) ?_ rfl
  refine c_law06_equal _ (anewT a l).1 (Nat.le_refl _) hfew2 S.holds hy20.up hz20.up fun w44 e44 => ?_
  have S := S.go e44
  refine j_bandH (c := true) (fun _ K2 hK2 => ?_) ?_
  · obtain ⟨bq1, oq1, hq0, hq1⟩ := (S.at hown).at (i := l.length) (by simp [ints_len])
    cases hq0
    (first | refine s_p ?_ | refine s_c (by omega) ?_)
    (first | refine s_p ?_ | refine s_c (by omega) ?_)
    refine s_ld1 (v := .int .i64 77) ?_ ?_
    · rw [Int.toNat_natCast]
      rw [hq1]
      simp [List.getElem_append_right, ints_len]
    (first | refine s_p ?_ | refine s_c (by omega) ?_)
    exact hK2
  refine j_bandE (c := true) (fun _ K2 hK2 => ?_) fun w49 e49 => ?_
  · exact c_law06_awake fun w20 e20 => hK2 _ e20
  exact h _ (S.go e49).ext
end Go.Proofs
end

section
namespace Go.Proofs
open Go.Sh
set_option maxRecDepth 100000
set_option linter.unusedSimpArgs false
set_option linter.unusedVariables false
theorem j_borHR {w : World} {A : (List Value → World → Prop) → Prop} {Z : Value → World → Prop} {b : Bool} (hA : b = false → ∀ K : List Value → World → Prop, K [.bool false] w → A K) (hZ : Z (.bool b) w) :
    sJoin (fun K => gIf (.bool b) false (A K) (K [undef] w)) fun s _ w' => oPick (.bool b) (.bool true) (s.getD 0 undef) fun t => Z t w' :=
  j_borH (c := false) hA (by rw [Bool.or_false]; exact hZ)
theorem c_law06_TypesAmong {ss : List StD} {t : TyD} {p : Option Addr} {cap : Nat} {w : World} {r : Gh} {v : Value} {K : Value → World → Prop} (hr : Holds r w) (hs : StG r p ss) (ht : TyG r v t)
    (h : ∀ w', Ext w w' → K (.bool true) w') : oCall Tryd.prog Tryd.n_law06_TypesAmong #[.slice p ss.length cap, v] w K := by
  refine Tryd.ok_law06_TypesAmong ?_
  unfold Tryd.F_law06_TypesAmong
  have ht0 := ht
  obtain ⟨p1, cap1, rfl, _⟩ := ht
  have S := St.start hr
  refine S.box fun b3 w1 S => ?_
  have S : StX noX w r w1 [.cell b3 (tyCs t p1 cap1) 25] := S
  refine c_law06_fits S.holds hs fun x w2 hx e2 => ?_
  have S := S.go e2
  (first | refine s_p ?_ | refine s_c (by omega) ?_)
  refine j_intro (fun s w' => ∃ y, (x = true → s = [.bool y]) ∧ Ext w2 w') (fun K2 hK2 => ?_) ?_
  · cases x with
    | false => exact hK2 _ _ ⟨false, (fun h => by cases h), .refl _⟩
    | true =>
      refine g_FF ?_
      refine S.ldB ?_ rfl
      refine c_law06_typeFits 60 (by decide) (by decide) (by decide) S.holds ht0 fun z w3 e3 => ?_
      (first | refine s_p ?_ | refine s_c (by omega) ?_)
      exact hK2 _ _ ⟨!z, fun _ => rfl, e3⟩
  rintro s w4 ⟨y, hy, e4⟩ d
  have S := S.go e4
  refine ⟨!x, rfl, ?_⟩
  have hcase : (if (!x) = true then Value.bool true else s.getD 0 undef) = .bool (!x || y) := by
    cases x with
    | false => rfl
    | true => rw [hy rfl]; rfl
  rw [hcase]
  refine c_b (fun _ => ?_) (fun hc => ?_)
  · exact c_law06_awake fun w5 e5 => h _ (S.go e5).ext
  have hx1 : x = true := by cases x <;> simp at hc ⊢
  obtain ⟨hm1, hmf⟩ := hx hx1
  have hm1 : ss.length ≤ 1000000000 := by omega
  have hmf : ∀ k, (tysAt ss k).length ≤ 1000000000 := fun k => by have := hmf k; omega
  clear hc hcase hy hx hx1
  refine c_types_Structs S.holds hs fun w5 e5 => ?_
  have S := S.go e5
  (first | refine s_p ?_ | refine s_c (by omega) ?_)
  (first | refine s_p ?_ | refine s_c (by omega) ?_)
  refine c_ref06_Structs S.holds hs hm1 hmf fun w6 e6 => ?_
  have S := S.go e6
  (first | refine s_p ?_ | refine s_c (by omega) ?_)
  (first | refine s_p ?_ | refine s_c (by omega) ?_)
  (first | refine s_p ?_ | refine s_c (by omega) ?_)
  have S := S.go (Ext.drew _)
  rw [show decide ((structsT ss).1 ≠ (structsT ss).1) = false by simp]
  refine j_borHR (fun _ K2 hK2 => ?_) ?_
  · (first | refine s_p ?_ | refine s_c (by omega) ?_)
    simpa using hK2
  refine j_borE (c := false) (fun _ K2 hK2 => ?_) fun w7 e7 => ?_
  · refine S.ldB ?_ rfl
    refine S.ldB ?_ rfl
    refine c_types_May S.holds hs ht0 fun w17 e17 => ⟨e17, ?_⟩
    have S := S.go e17
    refine c_ref06_May S.holds hs hm1 hmf ht0 fun w18 e18 => ?_
    (first | refine s_p ?_ | refine s_c (by omega) ?_)
    rw [beq_self_eq_true]
    exact hK2 _ (e17.trans e18)
  have S := S.go e7
  refine j_borE (c := false) (fun _ K2 hK2 => ?_) fun w7 e7 => ?_
  · refine S.ldB ?_ rfl
    refine S.ldB ?_ rfl
    refine c_types_Copies S.holds ht0 fun w17 e17 => ⟨e17, ?_⟩
    have S := S.go e17
    refine c_ref06_Copies S.holds ht0 fun w18 e18 => ?_
    (first | refine s_p ?_ | refine s_c (by omega) ?_)
    rw [beq_self_eq_true]
    exact hK2 _ (e17.trans e18)
  have S := S.go e7
  refine c_f rfl ?_
  refine S.ldB ?_ rfl
  refine c_types_Words S.holds hs ht0 fun w8 e8 => ?_
  have S := S.go e8
  (first | refine s_p ?_ | refine s_c (by omega) ?_)
  (first | refine s_p ?_ | refine s_c (by omega) ?_)
  refine S.ldB ?_ rfl
  refine c_ref06_Words S.holds hs hm1 hmf ht0 fun w8 e8 => ?_
  have S := S.go e8
  (first | refine s_p ?_ | refine s_c (by omega) ?_)
  (first | refine s_p ?_ | refine s_c (by omega) ?_)
  (first | refine s_p ?_ | refine s_c (by omega) ?_)
  rw [show decide ((wordsT ss t).1 ≠ (wordsT ss t).1) = false by simp]
  refine j_borHR (fun _ K2 hK2 => ?_) ?_
  · (first | refine s_p ?_ | refine s_c (by omega) ?_)
    simpa using hK2
  refine c_f rfl ?_
  refine S.ldB ?_ rfl
  refine c_types_Drops S.holds hs ht0 fun w8 e8 => ?_
  have S := S.go e8
  (first | refine s_p ?_ | refine s_c (by omega) ?_)
  (first | refine s_p ?_ | refine s_c (by omega) ?_)
  refine S.ldB ?_ rfl
  refine c_ref06_Drops S.holds hs hm1 hmf ht0 fun w8 e8 => ?_
  have S := S.go e8
  (first | refine s_p ?_ | refine s_c (by omega) ?_)
  (first | refine s_p ?_ | refine s_c (by omega) ?_)
  (first | refine s_p ?_ | refine s_c (by omega) ?_)
  rw [beq_self_eq_true]
  refine j_borHR (b := !true) (fun _ K2 hK2 => ?_) ?_
  · (first | refine s_p ?_ | refine s_c (by omega) ?_)
    simpa using hK2
  refine c_f rfl ?_
  -- the fields
  refine S.ldB ?_ rfl
  refine c_types_Fields S.holds hs ht0 fun qa ca ta ga w9 e9 n9 hfa hca => ?_
  obtain ⟨S, da, aa⟩ := S.tell e9 n9
  (first | refine s_p ?_ | refine s_c (by omega) ?_)
  (first | refine s_p ?_ | refine s_c (by omega) ?_)
  refine S.ldB ?_ rfl
  refine c_types_Fields S.holds hs.up ht0.up fun qb cb tb gb w10 e10 n10 hfb hcb => ?_
  obtain ⟨S, db, ab⟩ := S.tell e10 n10
  (first | refine s_p ?_ | refine s_c (by omega) ?_)
  (first | refine s_p ?_ | refine s_c (by omega) ?_)
  refine S.ldB ?_ rfl
  refine c_ref06_Fields S.holds hs.up hm1 hmf ht0.up fun qw cw sw w11 e11 n11 hfw => ?_
  obtain ⟨S, dw, aw⟩ := S.tell e11 n11
  (first | refine s_p ?_ | refine s_c (by omega) ?_)
  (first | refine s_p ?_ | refine s_c (by omega) ?_)
  (first | refine s_p ?_ | refine s_c (by omega) ?_)
  have hlen : (fieldsT ss t).1.length ≤ 1000000000 := by
    rw [fieldsT]; split
    · exact hmf _
    · simp
  rw [show decide ((fieldsT ss t).2 ≠ (fieldsT ss t).2) = false by simp]
  refine j_borHR (fun _ K2 hK2 => ?_) ?_
  · (first | refine s_p ?_ | refine s_c (by omega) ?_)
    simpa using hK2
  refine j_borHR (fun _ K2 hK2 => ?_) ?_
  · (first | refine s_p ?_ | refine s_c (by omega) ?_)
    (first | refine s_p ?_ | refine s_c (by omega) ?_)
    (first | refine s_p ?_ | refine s_c (by omega) ?_)
    simpa using hK2
  refine j_borHR (fun _ K2 hK2 => ?_) ?_
  · (first | refine s_p ?_ | refine s_c (by omega) ?_)
    (first | refine s_p ?_ | refine s_c (by omega) ?_)
    (first | refine s_p ?_ | refine s_c (by omega) ?_)
    simpa using hK2
  refine c_f rfl ?_
  generalize (fieldsT ss t).1 = ts at *
  have S := S.to ((((r.or ta).or (un ga 0 ts.length)).or (tb.or (un gb 0 ts.length))).or sw) (l := ⟨fun b o ho => by
    rcases ho with (((ho | ho) | ho) | ho) | ho
    · exact .inl (.inl (.inl ho))
    · exact .inl (.inl (.inr (.inl ho)))
    · exact .inl (.inl (.inr (.inr ho)))
    · exact .inl (.inr ho)
    · exact .inr ho⟩)
  refine l_intro (ι := Nat) (fun i => [.int .i64 i]) (fun i w' => i ≤ ts.length ∧ StX noX w ((((r.or ta).or (un ga i ts.length)).or (tb.or (un gb 0 ts.length))).or sw) w' [.cell b3 (tyCs t p1 cap1) 25]) (fun i => ts.length - i) 0 rfl ⟨Nat.zero_le _, S⟩ ?_
  clear S
  rintro i d w12 ⟨hi, S⟩ K6 hK6
  rw [List.getD_cons_zero]
  (first | refine s_p ?_ | refine s_c (by omega) ?_)
  (first | refine s_p ?_ | refine s_c (by omega) ?_)
  refine c_b (fun hlt => ?_) (fun hge => ?_)
  · have hlt : i < ts.length := by simpa using hlt
    obtain ⟨b1, o1, c1, rfl, hc1, hk1, ty1, ch1⟩ := hfa.at' i hlt
    obtain ⟨b2, o2, c2, rfl, hc2, hk2, ty2, ch2⟩ := hfb.at' i hlt
    obtain ⟨b4, o4, c4, rfl, hc4, hk4, ty4⟩ := hfw i hlt
    have la : Le (ga i) ((((r.or ta).or (un ga i ts.length)).or (tb.or (un gb 0 ts.length))).or sw) := ⟨fun b o ho => .inl (.inl (.inr ⟨i, Nat.le_refl _, hlt, ho⟩))⟩
    have lb : Le (gb i) ((((r.or ta).or (un ga (i + 1) ts.length)).or (tb.or (un gb 0 ts.length))).or sw) := ⟨fun b o ho => .inl (.inr (.inr ⟨i, Nat.zero_le _, hlt, ho⟩))⟩
    have hfew := ch1.few
    have S := S.go (Ext.drew _)
    (first | refine s_p ?_ | refine s_c (by omega) ?_)
    refine s_ldN (n := 5) hc1 (fun j v hj => cell_ext (by rw [Int.toNat_natCast]; exact S.at (hk1 j v hj)) (.refl _)) ?_
    (first | refine s_p ?_ | refine s_c (by omega) ?_)
    refine s_ldN (n := 5) hc4 (fun j v hj => by rw [Int.toNat_natCast]; exact S.at (hk4 j v hj)) ?_
    refine c_law06_equal _ ts[i] (Nat.le_refl _) hfew S.holds (ty1.up (l := la)) ty4.up fun w13 e13 => ?_
    have S := S.go e13
    (first | refine s_p ?_ | refine s_c (by omega) ?_)
    refine c_f rfl ?_
    (first | refine s_p ?_ | refine s_c (by omega) ?_)
    refine s_ldN (n := 5) hc1 (fun j v hj => by rw [Int.toNat_natCast]; exact S.at (hk1 j v hj)) ?_
    refine c_law06_spoil ch1 ty1 (S.holds.le (h := la)) fun w14 e14 => ?_
    have S := spoilt (q := (((r.or ta).or (un ga (i + 1) ts.length)).or (tb.or (un gb 0 ts.length))).or sw) (s := ga i) S e14 la.le (fun b o ho => aa b o (.inr ⟨i, Nat.zero_le _, hlt, ho⟩)) (fun b o ho => by
      rcases ho with ((((ho | ho) | ⟨j, h1, h2, ho⟩) | ho) | ho)
      · exact .inl (.inl (.inl (.inl ho)))
      · exact .inl (.inl (.inl (.inr ho)))
      · exact .inl (.inl (.inr ⟨j, by omega, h2, ho⟩))
      · exact .inl (.inr ho)
      · exact .inr ho) (fun b o o' ho ho' => by
      rcases ho' with ((((ho' | ho') | ⟨j, h1, h2, ho'⟩) | ho') | ho')
      · exact da b o o' (.inr ⟨i, Nat.zero_le _, hlt, ho⟩) ho'
      · exact hfa.dtop i hlt b o o' ho ho'
      · exact hfa.dis i j (by omega) hlt h2 b o o' ho ho'
      · exact db b o' o ho' (.inr (.inr ⟨i, Nat.zero_le _, hlt, ho⟩))
      · exact dw b o' o ho' (.inl (.inr (.inr ⟨i, Nat.zero_le _, hlt, ho⟩))))
    have S := S.go (Ext.drew _)
    (first | refine s_p ?_ | refine s_c (by omega) ?_)
    refine s_ldN (n := 5) hc2 (fun j v hj => by rw [Int.toNat_natCast]; exact S.at (hk2 j v hj)) ?_
    (first | refine s_p ?_ | refine s_c (by omega) ?_)
    refine s_ldN (n := 5) hc4 (fun j v hj => by rw [Int.toNat_natCast]; exact S.at (hk4 j v hj)) ?_
    refine c_law06_equal _ ts[i] (Nat.le_refl _) hfew S.holds (ty2.up (l := lb)) ty4.up fun w15 e15 => ?_
    have S := S.go e15
    (first | refine s_p ?_ | refine s_c (by omega) ?_)
    refine c_f rfl ?_
    (first | refine s_p ?_ | refine s_c (by omega) ?_)
    rw [show ((i : Int) + 1) = ((i + 1 : Nat) : Int) by omega]
    exact hK6 (i + 1) _ ⟨hlt, S⟩ (by omega)
  · exact c_law06_awake fun w5 e5 => h _ (S.go e5).ext
end Go.Proofs
end

section
namespace Go.Proofs
open Go.Sh
set_option maxRecDepth 100000
set_option linter.unusedSimpArgs false
set_option linter.unusedVariables false
theorem byte_drop {s rest : List UInt8} {a : Nat} {c : UInt8} (h : s.drop a = c :: rest) : a < s.length ∧ byteAt s a = (c.toNat : Int) ∧ s.drop (a + 1) = rest := by
  have hlt : a < s.length := by
    by_cases hl : a < s.length
    · exact hl
    · rw [List.drop_eq_nil_of_le (by omega)] at h; cases h
  rw [List.drop_eq_getElem_cons hlt] at h
  obtain ⟨h1, h2⟩ := List.cons.inj h
  refine ⟨hlt, ?_, h2⟩
  rw [byteAt, List.getD_eq_getElem?_getD, List.getElem?_eq_getElem hlt, ← h1]; rfl
theorem cm_cons {s rest : List UInt8} {a : Nat} {c : UInt8} (h : s.drop a = c :: rest) (d : UInt8) : cmB s a [d] = decide (c = d) := by
  rw [cmB, prefB, h]
  have h1 : decide ((([d] : List UInt8).length : Int) ≤ ((c :: rest).length : Int)) = true := by simp; omega
  rw [h1, Bool.true_and, show (c :: rest).take ([d] : List UInt8).length = [c] from rfl]
  by_cases h2 : c = d
  · simp [h2]
  · simp [h2]
theorem cm_true {s : List UInt8} {a : Nat} {d : UInt8} (h : cmB s a [d] = true) : ∃ rest, s.drop a = d :: rest := by
  cases hd : s.drop a with
  | nil => rw [cmB, prefB, hd] at h; simp at h
  | cons c rest => rw [cm_cons hd] at h; exact ⟨rest, by rw [of_decide_eq_true h]⟩
theorem take_ok {s : List UInt8} : ∀ (p rest : List UInt8) (a : Nat), a ≤ s.length → s.drop a = p ++ rest → takeR s p a = (a + p.length, true) ∧ s.drop (a + p.length) = rest ∧ a + p.length ≤ s.length
  | [], rest, a, ha, h => ⟨rfl, h, ha⟩
  | c :: p, rest, a, ha, h => by
    obtain ⟨h1, h2, h3⟩ := byte_drop h
    obtain ⟨h4, h5, h6⟩ := take_ok p rest (a + 1) h1 h3
    rw [takeR, if_neg (by simp [h2]; omega), h4]
    have e : a + (c :: p).length = a + 1 + p.length := by simp only [List.length_cons]; omega
    rw [e]
    exact ⟨rfl, h5, h6⟩
theorem tk_ok {s p rest : List UInt8} {a : Nat} (ha : a ≤ s.length) (h : s.drop a = p ++ rest) : ∃ a', tkR s p a = (a', some ()) ∧ s.drop a' = rest ∧ a' ≤ s.length := by
  obtain ⟨h1, h2, h3⟩ := take_ok p rest a ha h
  exact ⟨_, by rw [tkR, h1]; rfl, h2, h3⟩
theorem take_inv {s : List UInt8} : ∀ (p : List UInt8) (a a' : Nat), a ≤ s.length → takeR s p a = (a', true) → a' ≤ s.length ∧ s.drop a = p ++ s.drop a'
  | [], a, a', ha, h => by cases h; exact ⟨ha, rfl⟩
  | c :: p, a, a', ha, h => by
    rw [takeR] at h
    split at h
    · cases h
    · rename_i hn
      simp only [Bool.or_eq_true, decide_eq_true_eq, not_or, Classical.not_not, ne_eq] at hn
      obtain ⟨hn1, hn2⟩ := hn
      have hlt : a < s.length := by omega
      obtain ⟨h1, h2⟩ := take_inv p (a + 1) a' hlt h
      refine ⟨h1, ?_⟩
      have hd := List.drop_eq_getElem_cons hlt
      obtain ⟨_, hb, _⟩ := byte_drop hd
      have hc : s[a] = c := UInt8.toNat_inj.1 (by omega)
      rw [hd, h2, hc]; rfl
theorem tk_inv {s p : List UInt8} {a a' : Nat} (ha : a ≤ s.length) (h : tkR s p a = (a', some ())) : a' ≤ s.length ∧ s.drop a = p ++ s.drop a' := by
  rw [tkR] at h
  obtain ⟨h1, h2⟩ := Prod.mk.inj h
  split at h2
  · rename_i h3
    exact take_inv p a a' ha (Prod.ext h1 h3)
  · cases h2
theorem bd_inv {α β : Type} {x : Rd' α} {k : α → Nat → Rd' β} {a' : Nat} {v : β} (h : bd x k = (a', some v)) : ∃ a1 u, x = (a1, some u) ∧ k u a1 = (a', some v) := by
  obtain ⟨a1, o⟩ := x
  cases o with
  | none => cases h
  | some u => exact ⟨a1, u, rfl, h⟩
/-- no digit comes -/
def noDg (l : List UInt8) : Prop := ∀ c r, l = c :: r → c.toNat < 48 ∨ 57 < c.toNat
theorem dg_byte {d : Nat} (h : d < 10) : (UInt8.ofNat (48 + d)).toNat = 48 + d := by
  rw [UInt8.toNat_ofNat']; omega
theorem dec_pos (x : Nat) : 0 < (Lib.decDigits x).length := by rw [Lib.decDigits_length]; exact Lib.nDigits_pos x
theorem dec_head : ∀ (x : Nat), 0 < x → ∃ c r, Lib.decDigits x = c :: r ∧ 48 < c.toNat ∧ c.toNat ≤ 57 := by
  intro x
  induction x using Nat.strongRecOn with
  | _ x ih =>
    intro hx
    rw [Lib.decDigits]
    split
    · rename_i h
      exact ⟨_, [], rfl, by rw [dg_byte h]; omega, by rw [dg_byte h]; omega⟩
    · rename_i h
      obtain ⟨c, r, e, h1⟩ := ih (x / 10) (by omega) (by omega)
      exact ⟨c, r ++ [UInt8.ofNat (48 + x % 10)], by rw [e]; rfl, h1⟩
theorem dig_run {s : List UInt8} {most : Int} {a : Nat} : ∀ (x fuel : Nat) (rest : List UInt8), s.drop a = Lib.decDigits x ++ rest → (x : Int) ≤ most → (Lib.decDigits x).length ≤ fuel →
    digR s most a fuel a 0 = digR s most a (fuel - (Lib.decDigits x).length) (a + (Lib.decDigits x).length) x := by
  intro x
  induction x using Nat.strongRecOn with
  | _ x ih =>
    intro fuel rest hd hm hf
    rw [Lib.decDigits] at hd hf ⊢
    by_cases hx : x < 10
    · rw [dif_pos hx] at hd hf ⊢
      simp only [List.length_singleton, List.singleton_append] at hd hf ⊢
      obtain ⟨fuel, rfl⟩ : ∃ g, fuel = g + 1 := ⟨fuel - 1, by omega⟩
      obtain ⟨h1, h2, _⟩ := byte_drop hd
      rw [dg_byte hx] at h2
      rw [digR, h2, if_pos (by simp; omega), if_neg (by simp; omega)]
      congr 1
      omega
    · rw [dif_neg hx] at hd hf ⊢
      rw [List.append_assoc] at hd
      rw [List.length_append, List.length_singleton] at hf ⊢
      rw [ih (x / 10) (by omega) fuel _ hd (by omega) (by omega)]
      have hd0 := hd
      obtain ⟨c, r, hc, hc1, _⟩ := dec_head (x / 10) (by omega)
      rw [hc] at hd0
      obtain ⟨_, hba, _⟩ := byte_drop hd0
      have hdb : s.drop (a + (Lib.decDigits (x / 10)).length) = UInt8.ofNat (48 + x % 10) :: rest := by
        rw [← List.drop_drop, hd, List.drop_left]; rfl
      obtain ⟨h1, h2, _⟩ := byte_drop hdb
      rw [dg_byte (by omega)] at h2
      have hp := dec_pos (x / 10)
      obtain ⟨g, hg⟩ : ∃ g, fuel - (Lib.decDigits (x / 10)).length = g + 1 := ⟨fuel - (Lib.decDigits (x / 10)).length - 1, by omega⟩
      rw [hg, digR, h2, if_pos (by simp; omega), if_neg (by simp only [hba, Bool.or_eq_true, Bool.and_eq_true, decide_eq_true_eq]; omega)]
      congr 1
      · omega
      · omega
theorem dig_ok {s rest : List UInt8} {most : Int} {a x : Nat} (ha : a ≤ s.length) (hd : s.drop a = Lib.decDigits x ++ rest) (hm : (x : Int) ≤ most) (hr : noDg rest) :
    ∃ a', digT s most a = (a', some (x : Int)) ∧ s.drop a' = rest ∧ a' ≤ s.length := by
  have hl : s.length - a = (Lib.decDigits x).length + rest.length := by
    have := congrArg List.length hd
    simpa [List.length_drop] using this
  have hp := dec_pos x
  have h1 := dig_run (most := most) x (s.length + 1 - a) rest hd hm (by omega)
  have hdr : s.drop (a + (Lib.decDigits x).length) = rest := by rw [← List.drop_drop, hd, List.drop_left]
  obtain ⟨g, hg⟩ : ∃ g, s.length + 1 - a - (Lib.decDigits x).length = g + 1 := ⟨s.length + 1 - a - (Lib.decDigits x).length - 1, by omega⟩
  rw [hg, digR, if_neg (by
    cases hrest : rest with
    | nil =>
      rw [hrest] at hl
      simp only [List.length_nil] at hl
      simp only [Bool.and_eq_true, decide_eq_true_eq]
      omega
    | cons c r =>
      rw [hrest] at hdr
      obtain ⟨_, h2, _⟩ := byte_drop hdr
      have := hr c r hrest
      simp only [h2, Bool.and_eq_true, decide_eq_true_eq]
      omega)] at h1
  refine ⟨a + (Lib.decDigits x).length, ?_, hdr, by omega⟩
  rw [digT, h1]
  simp only
  rw [if_neg (by omega)]
theorem dec_big {u : Nat} (h : ¬ u < 10) : Lib.decDigits u = Lib.decDigits (u / 10) ++ [UInt8.ofNat (48 + u % 10)] := by
  rw [Lib.decDigits, dif_neg h]
theorem dig_inv_run {s : List UInt8} {most : Int} {a a' : Nat} {x : Int} : ∀ (f b n : Nat), a ≤ b → b ≤ s.length → (b = a → n = 0) → (a < b → s.drop a = Lib.decDigits n ++ s.drop b ∧ (n = 0 → byteAt s a = 48)) →
    digR s most a f b n = (a', x) → a' ≤ s.length ∧ (a' ≠ a → ∃ m : Nat, x = m ∧ s.drop a = Lib.decDigits m ++ s.drop a')
  | 0, b, n, hab, hb, h0, h1, h => by
    cases h
    exact ⟨hb, fun hne => ⟨n, rfl, (h1 (by omega)).1⟩⟩
  | f + 1, b, n, hab, hb, h0, h1, h => by
    rw [digR] at h
    split at h
    · rename_i hc
      simp only [Bool.and_eq_true, decide_eq_true_eq] at hc
      obtain ⟨⟨hc1, hc2⟩, hc3⟩ := hc
      split at h
      · cases h
        exact ⟨hb, fun hne => ⟨n, rfl, (h1 (by omega)).1⟩⟩
      · rename_i hn
        simp only [Bool.or_eq_true, Bool.and_eq_true, decide_eq_true_eq, not_or] at hn
        have hlt : b < s.length := by omega
        obtain ⟨d, hdd⟩ : ∃ d : Nat, byteAt s b - 48 = (d : Int) := ⟨(byteAt s b - 48).toNat, by omega⟩
        have hd10 : d < 10 := by omega
        have hdr := List.drop_eq_getElem_cons hlt
        obtain ⟨_, hby, _⟩ := byte_drop hdr
        have hbyte : s[b] = UInt8.ofNat (48 + d) := UInt8.toNat_inj.1 (by rw [dg_byte hd10]; omega)
        rw [hbyte] at hdr
        rw [hdd, show (10 * (n : Int) + d) = ((10 * n + d : Nat) : Int) by omega] at h
        refine dig_inv_run f (b + 1) (10 * n + d) (by omega) hlt (fun h => by omega) (fun _ => ?_) h
        by_cases hba : b = a
        · have hn0 := h0 hba
          subst hba hn0
          refine ⟨?_, fun h => by omega⟩
          rw [hdr, Lib.decDigits, dif_pos (by omega)]
          simp
        · obtain ⟨h2, h3⟩ := h1 (by omega)
          have hn0 : n ≠ 0 := fun h => hn.1 ⟨by omega, h3 h⟩
          refine ⟨?_, fun h => by omega⟩
          rw [h2, hdr, dec_big (u := 10 * n + d) (by omega), show (10 * n + d) / 10 = n by omega, show (10 * n + d) % 10 = d by omega, List.append_assoc]
          rfl
    · cases h
      exact ⟨hb, fun hne => ⟨n, rfl, (h1 (by omega)).1⟩⟩
theorem dig_inv {s : List UInt8} {most : Int} {a a' : Nat} {x : Int} (ha : a ≤ s.length) (h : digT s most a = (a', some x)) : a' ≤ s.length ∧ ∃ m : Nat, x = m ∧ s.drop a = Lib.decDigits m ++ s.drop a' := by
  rw [digT] at h
  split at h
  · cases h
  · rename_i hne
    have hx : digR s most a (s.length + 1 - a) a ((0 : Nat) : Int) = (a', x) := by
      obtain ⟨h1, h2⟩ := Prod.mk.inj h
      exact Prod.ext h1 (Option.some.inj h2)
    obtain ⟨h1, h2⟩ := dig_inv_run (s.length + 1 - a) a 0 (Nat.le_refl _) ha (fun _ => rfl) (fun h => absurd h (Nat.lt_irrefl _)) hx
    have : (digR s most a (s.length + 1 - a) a 0).1 = a' := congrArg Prod.fst hx
    exact ⟨h1, h2 (by rw [← this]; exact hne)⟩
theorem itoa_dec {x : Int} (h0 : 0 ≤ x) (h1 : x ≤ 9223372036854775807) : itoa x = Lib.decDigits x.toNat := digs_eq 20 x.toNat (by omega) (by decide)
theorem itoa_nat {m : Nat} (h1 : m ≤ 9223372036854775807) : itoa (m : Int) = Lib.decDigits m := by rw [itoa_dec (by omega) (by omega)]; rfl
theorem look_full {n : Nat} {t : TyD} (h : lookB 32 (n + 1) t = true) : t = .mk 1 false 0 0 [] ∨ t = .mk 2 false 0 0 [] ∨ (∃ st, 0 ≤ st ∧ st < 32 ∧ t = .mk 5 false 0 st []) ∨
    (∃ u, t = .mk 3 false 0 0 [u] ∧ lookB 32 n u = true) ∨ (∃ m re u, t = .mk 4 m re 0 [u] ∧ -1 ≤ re ∧ lookB 32 n u = true) := by
  have hc := look_cases h
  rw [lookB_succ] at h
  have he : t = .mk t.k t.m t.re t.st t.of := by cases t; rfl
  rcases hc with ⟨ho, hk⟩ | ⟨u, ho, hu, hk⟩
  · by_cases h1 : t.k = 1 ∨ t.k = 2
    · rw [if_pos h1] at h
      simp only [Bool.and_eq_true, Bool.not_eq_true', decide_eq_true_eq] at h
      obtain ⟨⟨⟨hm, hr⟩, hs⟩, _⟩ := h
      rw [hm, hr, hs, ho] at he
      rcases h1 with h1 | h1
      · rw [h1] at he; exact .inl he
      · rw [h1] at he; exact .inr (.inl he)
    · have h5 : t.k = 5 := by omega
      rw [if_neg h1, if_pos h5] at h
      simp only [Bool.and_eq_true, Bool.not_eq_true', decide_eq_true_eq] at h
      obtain ⟨⟨⟨⟨hm, hr⟩, _⟩, hs1⟩, hs2⟩ := h
      rw [hm, hr, ho, h5] at he
      exact .inr (.inr (.inl ⟨t.st, hs1, hs2, he⟩))
  · rw [if_neg (by omega), if_neg (by omega)] at h
    rcases hk with h3 | h4
    · rw [if_pos h3] at h
      simp only [Bool.and_eq_true, Bool.not_eq_true', decide_eq_true_eq] at h
      obtain ⟨⟨⟨hm, hr⟩, hs⟩, _⟩ := h
      rw [hm, hr, hs, ho, h3] at he
      exact .inr (.inr (.inr (.inl ⟨u, he, hu⟩)))
    · rw [if_neg (by omega), if_pos h4] at h
      simp only [Bool.and_eq_true, Bool.not_eq_true', decide_eq_true_eq] at h
      obtain ⟨⟨hr, hs⟩, _⟩ := h
      rw [hs, ho, h4] at he
      exact .inr (.inr (.inr (.inr ⟨t.m, t.re, u, he, hr, hu⟩)))
/-- all numbers of a type are an int's -/
def inNums (t : TyD) : Prop := ∀ u ∈ t.chain, u.re ≤ 9223372036854775807 ∧ u.st ≤ 9223372036854775807
theorem inNums_one {k re st : Int} {m : Bool} {u : TyD} : inNums (.mk k m re st [u]) ↔ (re ≤ 9223372036854775807 ∧ st ≤ 9223372036854775807) ∧ inNums u := by
  have : (TyD.mk k m re st [u]).chain = .mk k m re st [u] :: u.chain := rfl
  rw [inNums, this]
  simp only [List.mem_cons, forall_eq_or_imp]
  exact Iff.rfl
theorem inNums_nil {k re st : Int} {m : Bool} : inNums (.mk k m re st []) ↔ (re ≤ 9223372036854775807 ∧ st ≤ 9223372036854775807) := by
  have : (TyD.mk k m re st []).chain = [.mk k m re st []] := rfl
  rw [inNums, this]
  simp only [List.mem_singleton, forall_eq]
  exact Iff.rfl
theorem kindR_succ (s : List UInt8) (n a : Nat) : kindR s (n + 1) a = kindS s (kindR s n) (n + 1) a := rfl
/-- how a type's text begins -/
theorem text_head {n : Nat} {t : TyD} (h : lookB 32 n t = true) : ∃ c r, textB n t = c :: r ∧ c ≠ 39 ∧ c ≠ 109 ∧ c ≠ 32 ∧ (c = 38 → 2 ≤ n) := by
  cases n with
  | zero => cases h
  | succ n =>
    rcases look_full h with rfl | rfl | ⟨st, _, _, rfl⟩ | ⟨u, rfl, hu⟩ | ⟨m, re, u, rfl, _, hu⟩
    · exact ⟨105, [54, 52], rfl, by decide, by decide, by decide, fun h => absurd h (by decide)⟩
    · exact ⟨98, [111, 111, 108], rfl, by decide, by decide, by decide, fun h => absurd h (by decide)⟩
    · exact ⟨35, itoa st, rfl, by decide, by decide, by decide, fun h => absurd h (by decide)⟩
    · exact ⟨66, _, rfl, by decide, by decide, by decide, fun h => absurd h (by decide)⟩
    · have hn : 1 ≤ n := by
        cases n with
        | zero => cases hu
        | succ n => omega
      have e : textB (n + 1) (.mk 4 m re 0 [u]) = (if headB re m == [38] && decide (byteAt (textB n u) 0 = 38) then [38, 32] else headB re m) ++ textB n u := rfl
      rw [e]
      split
      · exact ⟨38, _, rfl, by decide, by decide, by decide, fun _ => by omega⟩
      · exact ⟨38, _, rfl, by decide, by decide, by decide, fun _ => by omega⟩
theorem head_bare {re : Int} {m : Bool} : (headB re m == [38]) = (decide (re < 0) && !m) := by
  unfold headB
  by_cases h : 0 ≤ re
  · rw [if_pos h]
    have : ¬ re < 0 := by omega
    cases m <;> simp [this]
  · rw [if_neg h]
    have : re < 0 := by omega
    cases m <;> simp [this]
theorem byte_cons {c : UInt8} {r : List UInt8} : byteAt (c :: r) 0 = (c.toNat : Int) := rfl
/-- OUT: a type's text is read as the type -/
theorem kind_text : ∀ (n : Nat) (t : TyD), lookB 32 n t = true → inNums t → ∀ (s rest : List UInt8) (a : Nat), a ≤ s.length → s.drop a = textB n t ++ rest → noDg rest →
    ∃ a', kindR s n a = (a', some t) ∧ s.drop a' = rest ∧ a' ≤ s.length := by
  intro n
  induction n with
  | zero => intro t h; cases h
  | succ n ih =>
    intro t hl hI s rest a ha hd hr
    rw [kindR_succ]
    rcases look_full hl with rfl | rfl | ⟨st, h0, h1, rfl⟩ | ⟨u, rfl, hu⟩ | ⟨m, re, u, rfl, hre, hu⟩
    · have e : textB (n + 1) (.mk 1 false 0 0 []) = [105, 54, 52] := rfl
      rw [e] at hd
      obtain ⟨a1, e1, d1, l1⟩ := tk_ok ha hd
      have hc := cm_cons (rest := [54, 52] ++ rest) hd
      refine ⟨a1, ?_, d1, l1⟩
      rw [kindS, hc, if_pos (by decide), e1]; rfl
    · have e : textB (n + 1) (.mk 2 false 0 0 []) = [98, 111, 111, 108] := rfl
      rw [e] at hd
      obtain ⟨a1, e1, d1, l1⟩ := tk_ok ha hd
      have hc := cm_cons (rest := [111, 111, 108] ++ rest) hd
      refine ⟨a1, ?_, d1, l1⟩
      rw [kindS, hc, if_neg (by decide), hc, if_pos (by decide), e1]; rfl
    · have e : textB (n + 1) (.mk 5 false 0 st []) = [35] ++ itoa st := rfl
      rw [e, List.append_assoc, itoa_dec h0 (by omega)] at hd
      obtain ⟨a1, e1, d1, l1⟩ := tk_ok ha hd
      have hc := cm_cons (rest := Lib.decDigits st.toNat ++ rest) hd
      obtain ⟨a2, e2, d2, l2⟩ := dig_ok (most := 31) l1 d1 (by omega) hr
      refine ⟨a2, ?_, d2, l2⟩
      rw [kindS, hc, if_neg (by decide), hc, if_neg (by decide), hc, if_pos (by decide), e1]
      simp only [bd]
      rw [e2, Int.toNat_of_nonneg h0]
    · have hn : 1 < n + 1 := by
        cases n with
        | zero => cases hu
        | succ n => omega
      have e : textB (n + 1) (.mk 3 false 0 0 [u]) = [66, 111, 120, 60] ++ textB n u ++ [62] := rfl
      rw [e, List.append_assoc, List.append_assoc] at hd
      obtain ⟨a1, e1, d1, l1⟩ := tk_ok ha hd
      have hc := cm_cons (rest := [111, 120, 60] ++ (textB n u ++ ([62] ++ rest))) hd
      obtain ⟨a2, e2, d2, l2⟩ := ih u hu (inNums_one.1 hI).2 s _ a1 l1 d1 (by
        intro c r h
        obtain ⟨rfl, _⟩ := List.cons.inj h
        exact .inr (by decide))
      obtain ⟨a3, e3, d3, l3⟩ := tk_ok l2 d2
      refine ⟨a3, ?_, d3, l3⟩
      rw [kindS, hc, if_neg (by decide), hc, if_neg (by decide), hc, if_neg (by decide), hc, if_pos (by simp; omega), e1]
      simp only [bd]
      rw [e2]
      simp only [bd]
      rw [e3]
    · have hn : 1 < n + 1 := by
        cases n with
        | zero => cases hu
        | succ n => omega
      obtain ⟨c, tr, ht, hc39, hc109, hc32, hc38⟩ := text_head hu
      have e : textB (n + 1) (.mk 4 m re 0 [u]) = (if headB re m == [38] && decide (byteAt (textB n u) 0 = 38) then [38, 32] else headB re m) ++ textB n u := rfl
      have hb38 : decide (byteAt (textB n u) 0 = 38) = decide (c = 38) := by
        rw [ht, byte_cons]
        refine decide_eq_decide.2 ⟨fun h => UInt8.toNat_inj.1 (by have : c.toNat = 38 := by omega
                                                                  rw [this]; rfl), fun h => by rw [h]; rfl⟩
      rw [e, hb38, head_bare] at hd
      -- what stands behind the sign
      have hd1 : ∃ b, s.drop a = [38] ++ ((if 0 ≤ re then [39] ++ itoa re ++ [32] else []) ++ ((if m then [109, 117, 116, 32] else []) ++ (b ++ (textB n u ++ rest)))) ∧ b = if (decide (re < 0) && !m) && decide (c = 38) then [32] else [] := by
        refine ⟨_, ?_, rfl⟩
        rw [hd]
        by_cases hb : ((decide (re < 0) && !m) && decide (c = 38)) = true
        · rw [if_pos hb, if_pos hb]
          simp only [Bool.and_eq_true, decide_eq_true_eq, Bool.not_eq_true'] at hb
          rw [if_neg (by omega), hb.1.2]
          simp
        · rw [if_neg hb, if_neg hb, headB]
          simp
      obtain ⟨b, hd1, hb⟩ := hd1
      have hcm := cm_cons hd1
      obtain ⟨a1, e1, d1, l1⟩ := tk_ok ha hd1
      have hrg : ∃ a2, rgR s a1 = (a2, some re) ∧ s.drop a2 = (if m then [109, 117, 116, 32] else []) ++ (b ++ (textB n u ++ rest)) ∧ a2 ≤ s.length := by
        by_cases h0 : 0 ≤ re
        · rw [if_pos h0, List.append_assoc, List.append_assoc, itoa_dec h0 (inNums_one.1 hI).1.1] at d1
          obtain ⟨a2, e2, d2, l2⟩ := tk_ok l1 d1
          obtain ⟨a3, e3, d3, l3⟩ := dig_ok (most := 9223372036854775807) l2 d2 (by have := (inNums_one.1 hI).1.1; omega) (by
            intro c r h
            obtain ⟨rfl, _⟩ := List.cons.inj h
            exact .inl (by decide))
          obtain ⟨a4, e4, d4, l4⟩ := tk_ok l3 d3
          refine ⟨a4, ?_, d4, l4⟩
          have hc := cm_cons d1
          rw [rgR, hc, if_pos (by decide), e2]
          simp only [bd]
          rw [e3]
          simp only [bd]
          rw [e4, Int.toNat_of_nonneg h0]
        · rw [if_neg h0, List.nil_append] at d1
          refine ⟨a1, ?_, d1, l1⟩
          have hre1 : re = -1 := by omega
          have hno : cmB s a1 [39] = false := by
            cases m with
            | true => rw [cm_cons d1]; decide
            | false =>
              rw [if_neg (by simp), List.nil_append, hb] at d1
              split at d1
              · rw [cm_cons d1]; decide
              · rw [List.nil_append, ht] at d1
                rw [cm_cons d1]; exact decide_eq_false hc39
          rw [rgR, hno, if_neg (by simp), hre1]
      obtain ⟨a2, e2, d2, l2⟩ := hrg
      have hmt : ∃ a3, mtR s a2 = (a3, some m) ∧ s.drop a3 = b ++ (textB n u ++ rest) ∧ a3 ≤ s.length := by
        cases m with
        | true =>
          rw [if_pos rfl] at d2
          obtain ⟨a3, e3, d3, l3⟩ := tk_ok l2 d2
          refine ⟨a3, ?_, d3, l3⟩
          rw [mtR, cm_cons d2, if_pos (by decide), e3]; rfl
        | false =>
          rw [if_neg (by simp), List.nil_append] at d2
          refine ⟨a2, ?_, d2, l2⟩
          have hno : cmB s a2 [109] = false := by
            rw [hb] at d2
            split at d2
            · rw [cm_cons d2]; decide
            · rw [List.nil_append, ht] at d2
              rw [cm_cons d2]; exact decide_eq_false hc109
          rw [mtR, hno, if_neg (by simp)]
      obtain ⟨a3, e3, d3, l3⟩ := hmt
      have hbr : ∃ a4, brR s (n + 1) re m a3 = (a4, some ()) ∧ s.drop a4 = textB n u ++ rest ∧ a4 ≤ s.length := by
        cases hbare : (decide (re < 0) && !m) with
        | false =>
          rw [hb, hbare, Bool.false_and, if_neg (by simp), List.nil_append] at d3
          exact ⟨a3, by rw [brR, hbare]; rfl, d3, l3⟩
        | true =>
          by_cases h38 : c = 38
          · rw [hb, hbare, decide_eq_true h38, if_pos (by simp)] at d3
            obtain ⟨a4, e4, d4, l4⟩ := tk_ok l3 d3
            refine ⟨a4, ?_, d4, l4⟩
            have hc := cm_cons d3
            have d4' := d4
            rw [ht] at d4'
            rw [brR, hbare, hc, hc, if_neg (by decide), if_pos (by have := hc38 h38; simp; omega), e4]
            simp only [bd]
            rw [cm_cons d4', h38]; rfl
          · rw [hb, hbare, decide_eq_false h38, if_neg (by simp), List.nil_append] at d3
            refine ⟨a3, ?_, d3, l3⟩
            rw [ht] at d3
            have hc := cm_cons d3
            rw [brR, hbare, hc, hc, decide_eq_false h38, decide_eq_false hc32]; rfl
      obtain ⟨a4, e4, d4, l4⟩ := hbr
      obtain ⟨a5, e5, d5, l5⟩ := ih u hu (inNums_one.1 hI).2 s rest a4 l4 d4 hr
      refine ⟨a5, ?_, d5, l5⟩
      rw [kindS, hcm, if_neg (by decide), hcm, if_neg (by decide), hcm, if_neg (by decide), hcm, if_neg (by simp), hcm, if_pos (by simp; omega), refS, e1]
      simp only [bd]
      rw [e2]; simp only [bd]
      rw [e3]; simp only [bd]
      rw [e4]; simp only [bd]
      rw [e5]
end Go.Proofs
end

section
namespace Go.Proofs
open Go.Sh
set_option maxRecDepth 100000
set_option linter.unusedSimpArgs false
set_option linter.unusedVariables false
theorem rg_inv {s : List UInt8} {a a' : Nat} {re : Int} (ha : a ≤ s.length) (h : rgR s a = (a', some re)) :
    a' ≤ s.length ∧ -1 ≤ re ∧ re ≤ 9223372036854775807 ∧ s.drop a = (if 0 ≤ re then [39] ++ itoa re ++ [32] else []) ++ s.drop a' := by
  rw [rgR] at h
  split at h
  · obtain ⟨a1, _, e1, h⟩ := bd_inv h
    obtain ⟨l1, d1⟩ := tk_inv ha e1
    obtain ⟨a2, x, e2, h⟩ := bd_inv h
    obtain ⟨l2, m, hx, d2⟩ := dig_inv l1 e2
    have hle := (digT_le (s := s) (most := 9223372036854775807) l1 (by decide)).2 x (by rw [e2])
    obtain ⟨a3, _, e3, h⟩ := bd_inv h
    obtain ⟨l3, d3⟩ := tk_inv l2 e3
    cases h
    refine ⟨l3, by omega, hle.2, ?_⟩
    rw [if_pos hle.1, d1, d2, d3, hx, itoa_nat (by omega), List.append_assoc, List.append_assoc]
  · cases h
    exact ⟨ha, by decide, by decide, rfl⟩
theorem mt_inv {s : List UInt8} {a a' : Nat} {m : Bool} (ha : a ≤ s.length) (h : mtR s a = (a', some m)) :
    a' ≤ s.length ∧ s.drop a = (if m then [109, 117, 116, 32] else []) ++ s.drop a' := by
  rw [mtR] at h
  split at h
  · obtain ⟨a1, _, e1, h⟩ := bd_inv h
    obtain ⟨l1, d1⟩ := tk_inv ha e1
    cases h
    exact ⟨l1, d1⟩
  · cases h
    exact ⟨ha, rfl⟩
theorem br_inv {s : List UInt8} {a a' left : Nat} {re : Int} {m : Bool} {c : UInt8} {r : List UInt8} (ha : a ≤ s.length) (h : brR s left re m a = (a', some ())) (hc : s.drop a' = c :: r) :
    a' ≤ s.length ∧ s.drop a = (if (decide (re < 0) && !m) && decide (c = 38) then [32] else []) ++ s.drop a' := by
  rw [brR] at h
  split at h
  · cases h
  · rename_i h1
    split at h
    · rename_i h2
      obtain ⟨a1, _, e1, h⟩ := bd_inv h
      obtain ⟨l1, d1⟩ := tk_inv ha e1
      split at h
      · cases h
      · rename_i h3
        cases h
        simp only [Bool.and_eq_true, decide_eq_true_eq, Bool.not_eq_true', Bool.not_eq_true, Bool.not_eq_false'] at h1 h2 h3
        rw [cm_cons hc] at h3
        refine ⟨l1, ?_⟩
        rw [if_pos (by simp only [Bool.and_eq_true, decide_eq_true_eq, Bool.not_eq_true']; exact ⟨h2.1.1, by simpa using h3⟩), d1]
    · cases h
      refine ⟨ha, ?_⟩
      rw [cm_cons hc] at h1
      rw [if_neg h1]; rfl
theorem text_first {n : Nat} {t : TyD} (h : lookB 32 n t = true) (s : List UInt8) (a a' : Nat) (hd : s.drop a = textB n t ++ s.drop a') : ∃ c r, s.drop a = c :: r ∧ decide (byteAt (textB n t) 0 = 38) = decide (c = 38) := by
  obtain ⟨c, tr, ht, _⟩ := text_head h
  refine ⟨c, tr ++ s.drop a', by rw [hd, ht]; rfl, ?_⟩
  rw [ht, byte_cons]
  refine decide_eq_decide.2 ⟨fun h => UInt8.toNat_inj.1 ?_, fun h => by rw [h]; rfl⟩
  have : c.toNat = 38 := by omega
  rw [this]; rfl
/-- BACK: what is read as a type is the type's text -/
theorem kind_inv : ∀ (n : Nat) (s : List UInt8) (a a' : Nat) (t : TyD), a ≤ s.length → kindR s (n + 1) a = (a', some t) → a' ≤ s.length ∧ lookB 32 (n + 1) t = true ∧ inNums t ∧ s.drop a = textB (n + 1) t ++ s.drop a' := by
  intro n
  induction n with
  | zero =>
    intro s a a' t ha h
    rw [kindR_succ, kindS] at h
    split at h
    · obtain ⟨a1, _, e1, h⟩ := bd_inv h
      obtain ⟨l1, d1⟩ := tk_inv ha e1
      cases h
      exact ⟨l1, rfl, inNums_nil.2 ⟨by decide, by decide⟩, d1⟩
    split at h
    · obtain ⟨a1, _, e1, h⟩ := bd_inv h
      obtain ⟨l1, d1⟩ := tk_inv ha e1
      cases h
      exact ⟨l1, rfl, inNums_nil.2 ⟨by decide, by decide⟩, d1⟩
    split at h
    · obtain ⟨a1, _, e1, h⟩ := bd_inv h
      obtain ⟨l1, d1⟩ := tk_inv ha e1
      obtain ⟨a2, x, e2, h⟩ := bd_inv h
      obtain ⟨l2, m, hx, d2⟩ := dig_inv l1 e2
      have hle := (digT_le (s := s) (most := 31) l1 (by decide)).2 x (by rw [e2])
      cases h
      refine ⟨l2, ?_, inNums_nil.2 ⟨by decide, by omega⟩, ?_⟩
      · rw [lookB_succ]
        have hx1 : x < 32 := by omega
        simp [TyD.k, TyD.m, TyD.re, TyD.st, TyD.of, hle.1, hx1]
      · have e : textB (0 + 1) (.mk 5 false 0 x []) = [35] ++ itoa x := rfl
        rw [e, d1, d2, hx, itoa_nat (by omega), List.append_assoc]
    rw [if_neg (by simp), if_neg (by simp)] at h
    cases h
  | succ n ih =>
    intro s a a' t ha h
    rw [kindR_succ, kindS] at h
    split at h
    · obtain ⟨a1, _, e1, h⟩ := bd_inv h
      obtain ⟨l1, d1⟩ := tk_inv ha e1
      cases h
      exact ⟨l1, rfl, inNums_nil.2 ⟨by decide, by decide⟩, d1⟩
    split at h
    · obtain ⟨a1, _, e1, h⟩ := bd_inv h
      obtain ⟨l1, d1⟩ := tk_inv ha e1
      cases h
      exact ⟨l1, rfl, inNums_nil.2 ⟨by decide, by decide⟩, d1⟩
    split at h
    · obtain ⟨a1, _, e1, h⟩ := bd_inv h
      obtain ⟨l1, d1⟩ := tk_inv ha e1
      obtain ⟨a2, x, e2, h⟩ := bd_inv h
      obtain ⟨l2, m, hx, d2⟩ := dig_inv l1 e2
      have hle := (digT_le (s := s) (most := 31) l1 (by decide)).2 x (by rw [e2])
      cases h
      refine ⟨l2, ?_, inNums_nil.2 ⟨by decide, by omega⟩, ?_⟩
      · rw [lookB_succ]
        have hx1 : x < 32 := by omega
        simp [TyD.k, TyD.m, TyD.re, TyD.st, TyD.of, hle.1, hx1]
      · have e : textB (n + 1 + 1) (.mk 5 false 0 x []) = [35] ++ itoa x := rfl
        rw [e, d1, d2, hx, itoa_nat (by omega), List.append_assoc]
    split at h
    · obtain ⟨a1, _, e1, h⟩ := bd_inv h
      obtain ⟨l1, d1⟩ := tk_inv ha e1
      obtain ⟨a2, u, e2, h⟩ := bd_inv h
      obtain ⟨l2, hu, hI, d2⟩ := ih s a1 a2 u l1 e2
      obtain ⟨a3, _, e3, h⟩ := bd_inv h
      obtain ⟨l3, d3⟩ := tk_inv l2 e3
      cases h
      refine ⟨l3, ?_, inNums_one.2 ⟨⟨by decide, by decide⟩, hI⟩, ?_⟩
      · rw [lookB_succ]
        simp [TyD.k, TyD.m, TyD.re, TyD.st, TyD.of, inB, hu]
      · have e : textB (n + 1 + 1) (.mk 3 false 0 0 [u]) = [66, 111, 120, 60] ++ textB (n + 1) u ++ [62] := rfl
        rw [e, d1, d2, d3, List.append_assoc, List.append_assoc]
    split at h
    · rw [refS] at h
      obtain ⟨a1, _, e1, h⟩ := bd_inv h
      obtain ⟨l1, d1⟩ := tk_inv ha e1
      obtain ⟨a2, re, e2, h⟩ := bd_inv h
      obtain ⟨l2, r1, r2, d2⟩ := rg_inv l1 e2
      obtain ⟨a3, m, e3, h⟩ := bd_inv h
      obtain ⟨l3, d3⟩ := mt_inv l2 e3
      obtain ⟨a4, _, e4, h⟩ := bd_inv h
      obtain ⟨a5, u, e5, h⟩ := bd_inv h
      cases h
      have l4 : a4 ≤ s.length := by
        rw [brR] at e4
        split at e4
        · cases e4
        · split at e4
          · obtain ⟨a6, _, e6, h6⟩ := bd_inv e4
            obtain ⟨l6, _⟩ := tk_inv l3 e6
            split at h6
            · cases h6
            · cases h6; exact l6
          · cases e4; exact l3
      obtain ⟨l5, hu, hI, d5⟩ := ih s a4 a' u l4 e5
      obtain ⟨c, r, hc, hb⟩ := text_first hu s a4 a' d5
      obtain ⟨_, d4⟩ := br_inv l3 e4 hc
      refine ⟨l5, ?_, inNums_one.2 ⟨⟨r2, by decide⟩, hI⟩, ?_⟩
      · rw [lookB_succ]
        simp [TyD.k, TyD.m, TyD.re, TyD.st, TyD.of, inB, hu, r1]
      · have e : textB (n + 1 + 1) (.mk 4 m re 0 [u]) = (if headB re m == [38] && decide (byteAt (textB (n + 1) u) 0 = 38) then [38, 32] else headB re m) ++ textB (n + 1) u := rfl
        rw [e, hb, head_bare, d1, d2, d3, d4, d5]
        by_cases hbb : ((decide (re < 0) && !m) && decide (c = 38)) = true
        · rw [if_pos hbb, if_pos hbb]
          simp only [Bool.and_eq_true, decide_eq_true_eq, Bool.not_eq_true'] at hbb
          rw [if_neg (by omega), hbb.1.2]
          simp
        · rw [if_neg hbb, if_neg hbb, headB]
          simp
    · cases h
theorem bd_le {α β : Type} {N : Nat} {x : Rd' α} {k : α → Nat → Rd' β} (h : x.1 ≤ N) (hk : ∀ u a1, x = (a1, some u) → a1 ≤ N → (k u a1).1 ≤ N) : (bd x k).1 ≤ N := by
  obtain ⟨a1, o⟩ := x
  cases o with
  | none => exact h
  | some u => exact hk u a1 rfl h
theorem tk_le {s p : List UInt8} {a : Nat} (ha : a ≤ s.length) : (tkR s p a).1 ≤ s.length := takeR_le p a ha
theorem dg_le {s : List UInt8} {a : Nat} {most : Int} (ha : a ≤ s.length) (hm : 9 ≤ most) : (digT s most a).1 ≤ s.length := (digT_le ha hm).1
theorem kindS_le {s : List UInt8} {rec : Nat → Rd' TyD} {left : Nat} (hrec : ∀ a, a ≤ s.length → (rec a).1 ≤ s.length) {a : Nat} (ha : a ≤ s.length) : (kindS s rec left a).1 ≤ s.length := by
  rw [kindS]
  split
  · exact bd_le (tk_le ha) fun _ a1 _ h => h
  split
  · exact bd_le (tk_le ha) fun _ a1 _ h => h
  split
  · exact bd_le (tk_le ha) fun _ a1 _ h => bd_le (dg_le h (by decide)) fun _ a2 _ h => h
  split
  · exact bd_le (tk_le ha) fun _ a1 _ h => bd_le (hrec _ h) fun _ a2 _ h => bd_le (tk_le h) fun _ a3 _ h => h
  split
  · rw [refS]
    refine bd_le (tk_le ha) fun _ a1 _ h => bd_le ?_ fun _ a2 _ h => bd_le ?_ fun _ a3 _ h => bd_le ?_ fun _ a4 _ h => bd_le (hrec _ h) fun _ a5 _ h => h
    · rw [rgR]
      split
      · exact bd_le (tk_le h) fun _ _ _ h => bd_le (dg_le h (by decide)) fun _ _ _ h => bd_le (tk_le h) fun _ _ _ h => h
      · exact h
    · rw [mtR]
      split
      · exact bd_le (tk_le h) fun _ _ _ h => h
      · exact h
    · rw [brR]
      split
      · exact h
      split
      · refine bd_le (tk_le h) fun _ _ _ h => ?_
        split
        · exact h
        · exact h
      · exact h
  · exact ha
theorem kindR_le {s : List UInt8} : ∀ (n a : Nat), a ≤ s.length → (kindR s n a).1 ≤ s.length := by
  intro n
  induction n with
  | zero => intro a ha; exact kindS_le (fun a h => h) ha
  | succ n ih => intro a ha; exact kindS_le ih ha
theorem readT_cases (s : List UInt8) : ((readT s).2.2 = 60 ∧ 0 ≤ (readT s).2.1 ∧ (readT s).2.1 ≤ s.length) ∨
    ((readT s).2 = (0, 0) ∧ lookB 32 48 (readT s).1 = true ∧ inNums (readT s).1 ∧ textB 48 (readT s).1 = s) := by
  have hle := kindR_le (s := s) 48 0 (Nat.zero_le _)
  rw [readT]
  cases hx : kindR s 48 0 with
  | mk a o =>
    rw [hx] at hle
    simp only at hle
    cases o with
    | none => exact .inl ⟨rfl, Int.natCast_nonneg _, Int.ofNat_le.2 hle⟩
    | some t =>
      simp only
      by_cases hlt : (a : Int) < s.length
      · rw [if_pos hlt]
        exact .inl ⟨rfl, Int.natCast_nonneg _, Int.ofNat_le.2 hle⟩
      · rw [if_neg hlt]
        obtain ⟨_, h1, h2, h3⟩ := kind_inv 47 s 0 a t (Nat.zero_le _) hx
        refine .inr ⟨rfl, h1, h2, ?_⟩
        rw [List.drop_zero, List.drop_eq_nil_of_le (by omega), List.append_nil] at h3
        exact h3.symm
theorem readT_text {t : TyD} (h : lookB 32 48 t = true) (hI : inNums t) : readT (textB 48 t) = (t, 0, 0) := by
  obtain ⟨a', e, d, l⟩ := kind_text 48 t h hI (textB 48 t) [] 0 (Nat.zero_le _) (by simp) (fun c r h => by cases h)
  have : (textB 48 t).length ≤ a' := List.drop_eq_nil_iff.1 d
  rw [readT, e]
  simp only
  rw [if_neg (by omega)]
theorem alike_refl : ∀ (n : Nat) (t : TyD), lookB 32 n t = true → alikeB fEq n t t = true := by
  intro n
  induction n with
  | zero => intro t h; cases h
  | succ n ih =>
    intro t h
    rcases look_cases h with ⟨ho, _⟩ | ⟨u, ho, hu, _⟩
    · rw [alikeB_nil ho]; simp [fEq]
    · rw [alikeB_one ho ho, ih u hu]; simp [fEq]
theorem same_refl {t : TyD} (h : isB t = true) : alikeT fEq t t = true := by
  rw [alikeT, h, alike_refl 48 t h]; rfl
theorem c_law06_TypesBack {t : TyD} {s : List UInt8} {w : World} {r : Gh} {v : Value} {K : Value → World → Prop} (hr : Holds r w) (hT : TabG r) (ht : TyG r v t) (hg : t.good)
    (h : ∀ w', Ext w w' → K (.bool true) w') : oCall Tryd.prog Tryd.n_law06_TypesBack #[v, .string (bs s)] w K := by
  refine Tryd.ok_law06_TypesBack ?_
  unfold Tryd.F_law06_TypesBack
  have ht0 := ht
  obtain ⟨p, cap, rfl, _⟩ := ht
  have S := St.start hr
  refine S.box fun b2 w1 S => ?_
  (repeat (first | refine s_p ?_ | refine s_c (by omega) ?_ | refine S.ld ?_ | refine S.ldB ?_ | refine S.ce ?_ | refine S.ceB ?_ | refine s_q ?_ | refine s_qc (by omega) ?_ | refine n_some ?_ | rw [List.getD_cons_zero] | rw [List.getD_cons_succ]))
  refine c_law06_typeFits 60 (by decide) (by decide) (by decide) S.holds ht0 fun x w3 e3 => ?_
  have S := S.go e3
  (repeat (first | refine s_p ?_ | refine s_c (by omega) ?_ | refine S.ld ?_ | refine S.ldB ?_ | refine S.ce ?_ | refine S.ceB ?_ | refine s_q ?_ | refine s_qc (by omega) ?_ | refine n_some ?_ | rw [List.getD_cons_zero] | rw [List.getD_cons_succ]))
  refine j_borH (c := decide (8192 < s.length)) (fun _ K2 hK2 => ?_) ?_
  · (repeat (first | refine s_p ?_ | refine s_c (by omega) ?_ | refine S.ld ?_ | refine S.ldB ?_ | refine S.ce ?_ | refine S.ceB ?_ | refine s_q ?_ | refine s_qc (by omega) ?_ | refine n_some ?_ | rw [List.getD_cons_zero] | rw [List.getD_cons_succ]))
    rw [show decide ((8192 : Int) < (s.length : Int)) = decide (8192 < s.length) from decide_eq_decide.2 (by omega)]
    exact hK2
  refine c_b (fun _ => ?_) (fun hc => ?_)
  · exact c_law06_awake fun w5 e5 => h _ (S.go e5).ext
  have hs : s.length ≤ 8192 := by
    simp only [Bool.or_eq_false_iff, decide_eq_false_iff_not] at hc
    omega
  have hN := good_nums hT hg
  have hI : inNums t := fun u hu => by
    have := (good_chain _ t (Nat.le_refl _) hg u hu).good_in
    exact ⟨this.2.1.2, this.2.2.1.2⟩
  (repeat (first | refine s_p ?_ | refine s_c (by omega) ?_ | refine S.ld ?_ | refine S.ldB ?_ | refine S.ce ?_ | refine S.ceB ?_ | refine s_q ?_ | refine s_qc (by omega) ?_ | refine n_some ?_ | rw [List.getD_cons_zero] | rw [List.getD_cons_succ]))
  refine c_types_Text S.holds ht0 hN fun w4 e4 => ?_
  have S := S.go e4
  (repeat (first | refine s_p ?_ | refine s_c (by omega) ?_ | refine S.ld ?_ | refine S.ldB ?_ | refine S.ce ?_ | refine S.ceB ?_ | refine s_q ?_ | refine s_qc (by omega) ?_ | refine n_some ?_ | rw [List.getD_cons_zero] | rw [List.getD_cons_succ]))
  have hU := textB_len 48 t
  have hTT : textT t = if isB t then (textB 48 t, 0) else ([], 2) := rfl
  refine j_intro (fun _ w' => ∃ q M, Le r q ∧ StX noX w q w' M) (fun K2 hK2 => ?_) ?_
  · (repeat (first | refine s_p ?_ | refine s_c (by omega) ?_ | refine S.ld ?_ | refine S.ldB ?_ | refine S.ce ?_ | refine S.ceB ?_ | refine s_q ?_ | refine s_qc (by omega) ?_ | refine n_some ?_ | rw [List.getD_cons_zero] | rw [List.getD_cons_succ]))
    refine c_b (fun h0 => ?_) (fun _ => hK2 [] _ ⟨r, _, inferInstance, S⟩)
    have hB : isB t = true := by
      by_cases hB : isB t = true
      · exact hB
      · rw [hTT, if_neg hB] at h0; simp at h0
    rw [if_pos hB] at hTT
    rw [hTT]
    refine c_types_Read (s := textB 48 t) S.holds (by omega) fun va sa w6 e6 n6 ha hca => ?_
    rw [readT_text hB hI] at ha ⊢
    have S := S.new e6 n6
    have ha0 := ha
    obtain ⟨pa, capa, rfl, _⟩ := ha
    (repeat (first | refine s_p ?_ | refine s_c (by omega) ?_ | refine S.ld ?_ | refine S.ldB ?_ | refine S.ce ?_ | refine S.ceB ?_ | refine s_q ?_ | refine s_qc (by omega) ?_ | refine n_some ?_ | rw [List.getD_cons_zero] | rw [List.getD_cons_succ]))
    refine S.al fun b9 w7 S => ?_
    refine S.stB fun w8 S => ?_
    (repeat (first | refine s_p ?_ | refine s_c (by omega) ?_ | refine S.ld ?_ | refine S.ldB ?_ | refine S.ce ?_ | refine S.ceB ?_ | refine s_q ?_ | refine s_qc (by omega) ?_ | refine n_some ?_ | rw [List.getD_cons_zero] | rw [List.getD_cons_succ]))
    refine j_borH (c := false) (fun _ K3 hK3 => ?_) ?_
    · (repeat (first | refine s_p ?_ | refine s_c (by omega) ?_ | refine S.ld ?_ | refine S.ldB ?_ | refine S.ce ?_ | refine S.ceB ?_ | refine s_q ?_ | refine s_qc (by omega) ?_ | refine n_some ?_ | rw [List.getD_cons_zero] | rw [List.getD_cons_succ]))
      exact hK3
    refine j_borE (c := false) (fun _ K3 hK3 => ?_) fun w9 e9 => ?_
    · (repeat (first | refine s_p ?_ | refine s_c (by omega) ?_ | refine S.ld ?_ | refine S.ldB ?_ | refine S.ce ?_ | refine S.ceB ?_ | refine s_q ?_ | refine s_qc (by omega) ?_ | refine n_some ?_ | rw [List.getD_cons_zero] | rw [List.getD_cons_succ]))
      refine c_types_Same S.holds ha0.up ht0.up fun w10 e10 => ?_
      rw [same_refl hB]
      (repeat (first | refine s_p ?_ | refine s_c (by omega) ?_ | refine S.ld ?_ | refine S.ldB ?_ | refine S.ce ?_ | refine S.ceB ?_ | refine s_q ?_ | refine s_qc (by omega) ?_ | refine n_some ?_ | rw [List.getD_cons_zero] | rw [List.getD_cons_succ]))
      exact hK3 _ e10
    have S := S.go e9
    refine c_f rfl ?_
    exact hK2 [] _ ⟨r.or sa, _, inferInstance, S⟩
  clear S
  rintro _ w9 ⟨q, M, hq, S⟩ d9
  have hTq : TabG q := hT.up
  refine c_types_Read (s := s) S.holds (by omega) fun vb sb w10 e10 n10 hb _ => ?_
  have S := S.new e10 n10
  have hb0 := hb
  obtain ⟨pb, capb, rfl, _⟩ := hb
  (repeat (first | refine s_p ?_ | refine s_c (by omega) ?_ | refine S.ld ?_ | refine S.ldB ?_ | refine S.ce ?_ | refine S.ceB ?_ | refine s_q ?_ | refine s_qc (by omega) ?_ | refine n_some ?_ | rw [List.getD_cons_zero] | rw [List.getD_cons_succ]))
  refine S.al fun b11 w11 S => ?_
  refine S.stB fun w12 S => ?_
  (repeat (first | refine s_p ?_ | refine s_c (by omega) ?_ | refine S.ld ?_ | refine S.ldB ?_ | refine S.ce ?_ | refine S.ceB ?_ | refine s_q ?_ | refine s_qc (by omega) ?_ | refine n_some ?_ | rw [List.getD_cons_zero] | rw [List.getD_cons_succ]))
  rcases readT_cases s with ⟨h1, h2, h3⟩ | ⟨h1, h2, h3, h4⟩
  · rw [h1]
    refine c_t (by decide) ?_
    (repeat (first | refine s_p ?_ | refine s_c (by omega) ?_ | refine S.ld ?_ | refine S.ldB ?_ | refine S.ce ?_ | refine S.ceB ?_ | refine s_q ?_ | refine s_qc (by omega) ?_ | refine n_some ?_ | rw [List.getD_cons_zero] | rw [List.getD_cons_succ]))
    refine j_bandH (c := true) (fun _ K3 hK3 => ?_) ?_
    · (repeat (first | refine s_p ?_ | refine s_c (by omega) ?_ | refine S.ld ?_ | refine S.ldB ?_ | refine S.ce ?_ | refine S.ceB ?_ | refine s_q ?_ | refine s_qc (by omega) ?_ | refine n_some ?_ | rw [List.getD_cons_zero] | rw [List.getD_cons_succ]))
      rw [decide_eq_true h2]; exact hK3
    refine j_bandH (c := true) (fun _ K3 hK3 => ?_) ?_
    · (repeat (first | refine s_p ?_ | refine s_c (by omega) ?_ | refine S.ld ?_ | refine S.ldB ?_ | refine S.ce ?_ | refine S.ceB ?_ | refine s_q ?_ | refine s_qc (by omega) ?_ | refine n_some ?_ | rw [List.getD_cons_zero] | rw [List.getD_cons_succ]))
      rw [decide_eq_true h3]; exact hK3
    refine j_bandE (c := true) (fun _ K2 hK2 => ?_) fun w19 e19 => ?_
    · exact c_law06_awake fun w20 e20 => hK2 _ e20
    exact h _ (S.go e19).ext
  · rw [h1]
    refine c_f (by decide) ?_
    (repeat (first | refine s_p ?_ | refine s_c (by omega) ?_ | refine S.ld ?_ | refine S.ldB ?_ | refine S.ce ?_ | refine S.ceB ?_ | refine s_q ?_ | refine s_qc (by omega) ?_ | refine n_some ?_ | rw [List.getD_cons_zero] | rw [List.getD_cons_succ]))
    refine c_types_Text (t := (readT s).1) S.holds hb0.up (nums_ok (hTq.up) h3) fun w13 e13 => ?_
    have S := S.go e13
    have hTT : textT (readT s).1 = (s, 0) := by
      rw [textT, if_pos (show isB (readT s).1 = true from h2), h4]
    rw [hTT]
    (repeat (first | refine s_p ?_ | refine s_c (by omega) ?_ | refine S.ld ?_ | refine S.ldB ?_ | refine S.ce ?_ | refine S.ceB ?_ | refine s_q ?_ | refine s_qc (by omega) ?_ | refine n_some ?_ | rw [List.getD_cons_zero] | rw [List.getD_cons_succ]))
    refine j_bandH (c := true) (fun _ K3 hK3 => ?_) ?_
    · (repeat (first | refine s_p ?_ | refine s_c (by omega) ?_ | refine S.ld ?_ | refine S.ldB ?_ | refine S.ce ?_ | refine S.ceB ?_ | refine s_q ?_ | refine s_qc (by omega) ?_ | refine n_some ?_ | rw [List.getD_cons_zero] | rw [List.getD_cons_succ]))
      simpa using hK3
    refine j_bandE (c := true) (fun _ K2 hK2 => ?_) fun w19 e19 => ?_
    · exact c_law06_awake fun w20 e20 => hK2 _ e20
    exact h _ (S.go e19).ext
end Go.Proofs
end

section
namespace Go.Proofs
open Go.Sh
set_option maxRecDepth 100000
set_option linter.unusedSimpArgs false
set_option linter.unusedVariables false
theorem lay_regs {s : Int} : ∀ (n : Nat) {t : TyD}, lookB s n t = true → t.lay t.regs = t := by
  intro n
  induction n with
  | zero => intro t h; cases h
  | succ n ih =>
    intro t h
    have he : t = .mk t.k t.m t.re t.st t.of := by cases t; rfl
    rcases look_cases h with ⟨ho, hk⟩ | ⟨u, ho, hu, hk⟩
    · rw [lay_nil ho, if_neg (by omega)]
      rw [ho] at he; exact he.symm
    · rw [lay_one ho, regs_one ho]
      rw [ho] at he
      by_cases h4 : t.k = 4
      · simp only [if_pos h4, List.singleton_append, List.headD_cons, List.tail_cons]
        rw [ih hu]; exact he.symm
      · simp only [if_neg h4, List.nil_append]
        rw [ih hu]; exact he.symm
theorem lay_k (t : TyD) (l : List Int) : (t.lay l).k = t.k ∧ (t.lay l).m = t.m ∧ (t.lay l).st = t.st := by
  cases t with | mk k m re st of => exact ⟨rfl, rfl, rfl⟩
theorem lay_of_nil {t : TyD} {l : List Int} (h : t.of = []) : (t.lay l).of = [] := by rw [lay_nil h]; rfl
theorem lay_of_one {t u : TyD} {l : List Int} (h : t.of = [u]) : (t.lay l).of = [u.lay (if t.k = 4 then l.tail else l)] := by rw [lay_one h]; rfl
theorem lay_lay {s : Int} : ∀ (n : Nat) {t : TyD} {l l' : List Int}, lookB s n t = true → (t.lay l).lay l' = t.lay l' := by
  intro n
  induction n with
  | zero => intro t l l' h; cases h
  | succ n ih =>
    intro t l l' h
    obtain ⟨hk1, hk2, hk3⟩ := lay_k t l
    rcases look_cases h with ⟨ho, hk⟩ | ⟨u, ho, hu, hk⟩
    · rw [lay_nil (lay_of_nil ho), hk1, hk2, hk3, lay_nil ho, if_neg (by omega), if_neg (by omega)]
      rw [lay_nil ho]
      simp only [TyD.re]
      rw [if_neg (by omega)]
    · rw [lay_one (lay_of_one ho), hk1, hk2, hk3, lay_one ho, ih hu, lay_one ho]
      simp only [TyD.re]
      by_cases h4 : t.k = 4
      · simp only [if_pos h4]
      · simp only [if_neg h4]
theorem look_re {s : Int} {n : Nat} {t : TyD} (h : lookB s (n + 1) t = true) (h4 : t.k = 4) : -1 ≤ t.re := by
  rw [lookB_succ, if_neg (by omega), if_neg (by omega), if_neg (by omega), if_pos h4] at h
  simp only [Bool.and_eq_true, decide_eq_true_eq] at h
  exact h.1.1
theorem regs_low {s : Int} : ∀ (n : Nat) {t : TyD}, lookB s n t = true → ∀ x ∈ t.regs, -1 ≤ x := by
  intro n
  induction n with
  | zero => intro t h; cases h
  | succ n ih =>
    intro t h x hx
    rcases look_cases h with ⟨ho, hk⟩ | ⟨u, ho, hu, hk⟩
    · rw [regs_nil ho, if_neg (by omega)] at hx; cases hx
    · rw [regs_one ho, List.mem_append] at hx
      rcases hx with hx | hx
      · split at hx
        · rw [List.mem_singleton.1 hx]; exact look_re h (by assumption)
        · cases hx
      · exact ih hu x hx
theorem look_lay {s : Int} : ∀ (n : Nat) {t : TyD} {l : List Int}, lookB s n t = true → t.regs.length ≤ l.length → (∀ x ∈ l, -1 ≤ x) → lookB s n (t.lay l) = true := by
  intro n
  induction n with
  | zero => intro t l h; cases h
  | succ n ih =>
    intro t l h hl hx
    obtain ⟨hk1, hk2, hk3⟩ := lay_k t l
    rcases look_cases h with ⟨ho, hk⟩ | ⟨u, ho, hu, hk⟩
    · have e : t.lay l = t := by
        have he : t = .mk t.k t.m t.re t.st t.of := by cases t; rfl
        rw [lay_nil ho, if_neg (by omega)]
        rw [ho] at he; exact he.symm
      rw [e]; exact h
    · have hreg := congrArg List.length (regs_one ho)
      rw [List.length_append] at hreg
      have hin : lookB s n (u.lay (if t.k = 4 then l.tail else l)) = true := ih hu (by
        split
        · rename_i h4
          rw [if_pos h4] at hreg
          rw [List.length_tail]; simp at hreg; omega
        · omega) (fun x hxm => hx x (by
          split at hxm
          · exact List.mem_of_mem_tail hxm
          · exact hxm))
      rw [lookB_succ] at h ⊢
      rw [hk1, hk2, hk3]
      rw [lay_of_one ho] at *
      rw [if_neg (by omega), if_neg (by omega)] at h ⊢
      rcases hk with h3 | h4
      · rw [if_pos h3] at h ⊢
        have hre : (t.lay l).re = t.re := by rw [lay_one ho]; simp only [TyD.re]; rw [if_neg (by omega)]
        have hib : inB s n (t.lay l) = true := by rw [lay_one ho]; exact hin
        rw [hre, hib]
        simp only [Bool.and_eq_true, decide_eq_true_eq, List.length_singleton] at h ⊢
        exact ⟨h.1, trivial, trivial⟩
      · rw [if_neg (by omega), if_pos h4] at h ⊢
        have hpos : 0 < l.length := by rw [if_pos h4] at hreg; simp at hreg; omega
        have hre : (t.lay l).re = l.headD 0 := by rw [lay_one ho]; simp only [TyD.re]; rw [if_pos h4]
        have hib : inB s n (t.lay l) = true := by rw [lay_one ho]; exact hin
        rw [hre, hib]
        simp only [Bool.and_eq_true, decide_eq_true_eq, List.length_singleton] at h ⊢
        refine ⟨⟨?_, h.1.2⟩, trivial, trivial⟩
        cases l with
        | nil => simp at hpos
        | cons x l => exact hx x List.mem_cons_self
theorem regs_lay {s : Int} : ∀ (n : Nat) {t : TyD} {l : List Int}, lookB s n t = true → (t.lay l).regs.length = t.regs.length := by
  intro n
  induction n with
  | zero => intro t l h; cases h
  | succ n ih =>
    intro t l h
    obtain ⟨hk1, hk2, hk3⟩ := lay_k t l
    rcases look_cases h with ⟨ho, hk⟩ | ⟨u, ho, hu, hk⟩
    · rw [regs_nil ho, regs_nil (lay_of_nil ho), hk1, if_neg (by omega), if_neg (by omega)]
    · rw [regs_one ho, regs_one (lay_of_one ho), hk1, List.length_append, List.length_append, ih hu]
      congr 1
      split <;> rfl
theorem alike_lay {s : Int} : ∀ (n : Nat) {t : TyD} {l : List Int}, lookB s n t = true → alikeB fAll n (t.lay l) t = true := by
  intro n
  induction n with
  | zero => intro t l h; cases h
  | succ n ih =>
    intro t l h
    obtain ⟨hk1, hk2, hk3⟩ := lay_k t l
    rcases look_cases h with ⟨ho, hk⟩ | ⟨u, ho, hu, hk⟩
    · rw [alikeB_nil (lay_of_nil ho), hk1, hk2, hk3]; simp [fAll]
    · rw [alikeB_one (lay_of_one ho) ho, hk1, hk2, hk3, ih hu]; simp [fAll]
theorem upTo_low {f : Int} {n : Nat} (h : 0 ≤ f) : ∀ x ∈ upTo f n, -1 ≤ x := by
  intro x hx
  obtain ⟨i, _, rfl⟩ := List.mem_map.1 hx
  omega
/-! ### Words, drops -/
theorem wF_pos {ss : List StD} (hg : Good ss) (hb : ∀ k, k < ss.length → bad1 ss k = false) : ∀ (m : Nat) {t : TyD}, lookB ss.length 48 t = true → 1 ≤ wF ss m t := by
  intro m
  induction m with
  | zero => intro t _; exact Nat.le_refl _
  | succ m ih =>
    intro t hl
    rw [wF]
    split
    · rename_i h5
      obtain ⟨h0, h1, _⟩ := look_st hl h5
      have hlt : t.st.toNat < ss.length := by omega
      have := hb t.st.toNat hlt
      have e : tysAt ss (t.st.toNat : Int) = tysAt ss t.st := by rw [tysAt, tysAt, Int.toNat_natCast]
      rw [bad1, e, Bool.or_eq_false_iff, Bool.or_eq_false_iff] at this
      simp only [decide_eq_false_iff_not] at this
      cases hT : tysAt ss t.st with
      | nil => rw [hT] at this; simp at this
      | cons u T =>
        have hu := ih (hg t.st u (by rw [hT]; exact List.mem_cons_self))
        simp only [List.map_cons, wsum]
        omega
    · exact Nat.le_refl _
theorem wsum_len {f : TyD → Nat} : ∀ {l : List TyD}, (∀ t ∈ l, 1 ≤ f t) → l.length ≤ wsum (l.map f)
  | [], _ => Nat.zero_le _
  | t :: l, h => by
    have h1 := h t List.mem_cons_self
    have h2 := wsum_len (l := l) fun u hu => h u (List.mem_cons_of_mem _ hu)
    simp only [List.length_cons, List.map_cons, wsum]; omega
theorem wsum_mem {f : TyD → Nat} : ∀ {l : List TyD} {t : TyD}, t ∈ l → f t ≤ wsum (l.map f)
  | x :: l, t, h => by
    rcases List.mem_cons.1 h with rfl | h
    · simp only [List.map_cons, wsum]; omega
    · have := wsum_mem (f := f) h
      simp only [List.map_cons, wsum]; omega
theorem wsum_congr {f g : TyD → Nat} : ∀ {l : List TyD}, (∀ t ∈ l, f t = g t) → wsum (l.map f) = wsum (l.map g)
  | [], _ => rfl
  | t :: l, h => by
    simp only [List.map_cons, wsum, h t List.mem_cons_self, wsum_congr fun u hu => h u (List.mem_cons_of_mem _ hu)]
theorem any_congr {f g : TyD → Bool} : ∀ {l : List TyD}, (∀ t ∈ l, f t = g t) → l.any f = l.any g
  | [], _ => rfl
  | t :: l, h => by rw [List.any_cons, List.any_cons, h t List.mem_cons_self, any_congr fun u hu => h u (List.mem_cons_of_mem _ hu)]
/-- what is so of a struct's fields -/
theorem fields_ok {ss : List StD} {t : TyD} (hm : mayB ss t = true) (h5 : t.k = 5) :
    (∀ u ∈ tysAt ss t.st, mayB ss u = true) ∧ (wordsT ss t).1 = (wsum ((tysAt ss t.st).map fun u => (min (wF ss 40 u) 17)) : Nat) ∧ (dropsT ss t).1 = (tysAt ss t.st).any (dF ss 40) ∧
    ((tysAt ss t.st).length : Int) ≤ (wordsT ss t).1 ∧ wsum ((tysAt ss t.st).map fun u => (min (wF ss 40 u) 17)) ≤ 16 := by
  obtain ⟨hok, hl⟩ := may_ok hm
  obtain ⟨h32, hb1, hg, hac, hb3, _⟩ := structs_ok hok
  obtain ⟨h0, h1, _⟩ := look_st hl h5
  have hlt : t.st.toNat < ss.length := by omega
  have hW : wF ss 40 t = wsum ((tysAt ss t.st).map (wF ss 39)) := by rw [wF, if_pos h5]
  have h16 : wF ss 40 t ≤ 16 := by
    have := hb3 t.st.toNat hlt
    rw [bad3, decide_eq_false_iff_not, wF, if_pos (show (TyD.mk 5 false 0 (t.st.toNat : Int) []).k = 5 from rfl)] at this
    rw [hW]
    rw [show (TyD.mk 5 false 0 (t.st.toNat : Int) []).st = t.st by show ((t.st.toNat : Nat) : Int) = t.st; omega] at this
    omega
  have hrk : ∀ u ∈ tysAt ss t.st, rkT ss u ≤ 38 := fun u hu => by
    have := rk_lt hg hac h5 hu
    have := rk_le ss t
    omega
  have he : wsum ((tysAt ss t.st).map (wF ss 39)) = wsum ((tysAt ss t.st).map fun u => (min (wF ss 40 u) 17)) := wsum_congr fun u hu => by
    have e1 := wF_eq hg hac 39 40 u (by have := hrk u hu; omega) (by have := hrk u hu; omega)
    have := wsum_mem (f := wF ss 39) hu
    omega
  have hws : (wordsT ss t).1 = ((min (wF ss 40 t) 17 : Nat) : Int) := by rw [wordsT, if_pos hm]
  refine ⟨fun u hu => ?_, ?_, ?_, ?_, by omega⟩
  · rw [mayB, decide_eq_true hok, hg _ u hu]; rfl
  · rw [hws, ← he]; omega
  · rw [dropsT, if_pos hm]
    show dF ss 40 t = _
    rw [dF, if_pos h5]
    exact any_congr fun u hu => dF_eq hg hac 39 40 u (by have := hrk u hu; omega) (by have := hrk u hu; omega)
  · have := wsum_len (l := tysAt ss t.st) (f := wF ss 39) fun u hu => wF_pos hg hb1 39 (hg _ u hu)
    rw [hws]; omega
theorem words_pos {ss : List StD} {t : TyD} (hm : mayB ss t = true) : 1 ≤ (wordsT ss t).1 ∧ (wordsT ss t).1 ≤ 17 ∧ (wordsT ss t).2 = 0 ∧ (dropsT ss t).2 = 0 := by
  obtain ⟨hok, hl⟩ := may_ok hm
  obtain ⟨h32, hb1, hg, hac, hb3, _⟩ := structs_ok hok
  have := wF_pos hg hb1 40 hl
  rw [wordsT, dropsT, if_pos hm, if_pos hm]
  exact ⟨by show (1 : Int) ≤ ((min (wF ss 40 t) 17 : Nat) : Int); omega, by show ((min (wF ss 40 t) 17 : Nat) : Int) ≤ 17; omega, rfl, rfl⟩
theorem words_one {ss : List StD} {t : TyD} (hm : mayB ss t = true) (h5 : t.k ≠ 5) : (wordsT ss t).1 = 1 := by
  rw [wordsT, if_pos hm]
  show ((min (wF ss 40 t) 17 : Nat) : Int) = 1
  rw [wF, if_neg h5]; rfl
theorem copies_ok {ss : List StD} {t : TyD} (hm : mayB ss t = true) (hc : copiesB t = true) : (wordsT ss t).1 = 1 ∧ (dropsT ss t).1 = false := by
  have hk : t.k ≠ 5 ∧ t.k ≠ 3 := by
    rw [copiesB] at hc
    simp only [Bool.and_eq_true, Bool.or_eq_true, decide_eq_true_eq] at hc
    omega
  refine ⟨words_one hm hk.1, ?_⟩
  rw [dropsT, if_pos hm]
  show dF ss 40 t = false
  rw [dF, if_neg hk.1]
  exact decide_eq_false hk.2
theorem anew_self {t : TyD} : (anewT t (regsT t)) = if isB t then (t, 0) else (zeroD, 2) := by
  cases hB : isB t
  · rw [anewT, anewB, hB]; rfl
  · have hr : regsT t = t.regs := by rw [regsT, if_pos hB]
    have hb : anewB t t.regs = true := by
      rw [anewB, hB]
      have : (t.regs.any fun x => decide (x < -1)) = false := by
        rw [Bool.eq_false_iff]
        intro hc
        obtain ⟨x, hx, hx2⟩ := List.any_eq_true.1 hc
        have := regs_low (s := 32) 48 hB x hx
        simp only [decide_eq_true_eq] at hx2
        omega
      rw [this]; simp
    rw [hr, anewT, if_pos hb, lay_regs (s := 32) 48 hB]; rfl
theorem num_twice {t : TyD} {f : Int} (h : (numT t f).2.2 = 0) : isB t = true ∧ numT (numT t f).1 f = numT t f ∧ (numT t f).2.1 = f + t.regs.length ∧ isB (numT t f).1 = true ∧ alikeT fAll (numT t f).1 t = true ∧ (numT t f).1.regs.length = t.regs.length ∧ 0 ≤ f ∧ f ≤ 512 := by
  have hn : numB t f = true := by
    cases hn : numB t f
    · rw [numT, hn] at h; cases h
    · rfl
  have hB0 := hn
  rw [numB, Bool.and_eq_true, Bool.and_eq_true, decide_eq_true_eq, decide_eq_true_eq] at hB0
  obtain ⟨hB, hf0, hf1⟩ := hB0
  have e1 : numT t f = (t.lay (upTo f t.regs.length), f + t.regs.length, 0) := by rw [numT, if_pos hn]
  have hl := look_lay (s := 32) 48 hB (l := upTo f t.regs.length) (by rw [upTo_len]; exact Nat.le_refl _) (upTo_low hf0)
  have hr := regs_lay (s := 32) 48 hB (l := upTo f t.regs.length)
  rw [e1]
  refine ⟨hB, ?_, rfl, hl, ?_, hr, hf0, hf1⟩
  · have hn2 : numB (t.lay (upTo f t.regs.length)) f = true := by
      rw [numB, show isB (t.lay (upTo f t.regs.length)) = true from hl]; simp [hf0, hf1]
    rw [numT, if_pos hn2]
    simp only
    rw [hr, lay_lay (s := 32) 48 hB]
  · rw [alikeT, show isB (t.lay (upTo f t.regs.length)) = true from hl, hB, alike_lay (s := 32) 48 hB]; rfl
end Go.Proofs
end
