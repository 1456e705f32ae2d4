/-
  Contracts: which certificates may be, both sides.
  Contracts: which certificates may be, both sides: May.
  Contracts: caught, whole.
  Contracts: cert.Read.
  Contracts: certificates in memory of their own, both sides.
  Bytes of a text turned into a slice: the row bears a mark behind its cells; it grows like any other one.
  Contracts: certificates as bytes, the program's.
  Contracts: certificates as bytes, the program's: Same, Size.
  Contracts: certificates as bytes, the document's; whether certificates are equal.
  Contracts: certificates as bytes, the document's: Bytes; whether certificates are equal.
  Shallow readings of functions. Made by a program (wip/gen/gen.py) out of the translation; the kernel checks each equality.
-/
import Derived.Test.YtoblfjmokfldnaaDoorZZd
import Derived.Test.YtoblfjmokfldnaaDoorZZc
import Derived.Test.YtoblfjmokfldnaaDoorZZb
import Derived.Test.YtoblfjmokfldnaaDoorZZa
import Derived.Lib.ConvBytes
import Derived.Lib.AppendStr

section
namespace Go.Proofs

open Go.Sh Go.BM

set_option maxRecDepth 100000

set_option linter.unusedSimpArgs false

set_option linter.unusedVariables false

noncomputable def rowGood (W : Int) (x : RowD) : Bool := mayB x.1 x.2 && decide (x.1 = W)
noncomputable def goodB (l : List RowD) (most : Nat) : Bool := decide (l.length ≤ most) && l.all (rowGood (headW l))
noncomputable def mayFB (f : FnD) : Bool := goodB f.rows 512 && (goodB f.ranges 256 && goodB f.moves 256)
noncomputable def mayCB (c : List FnD) : Bool := (decide (1 ≤ c.length) && decide (c.length ≤ 32)) && c.all mayFB
theorem goodB_iff {l : List RowD} {most : Nat} : goodB l most = true ↔ GoodL l most := by
  simp only [goodB, GoodL, rowGood, Bool.and_eq_true, decide_eq_true_eq, List.all_eq_true, mayB_iff]
theorem mayFB_iff {f : FnD} : mayFB f = true ↔ MayF f := by simp only [mayFB, MayF, Bool.and_eq_true, goodB_iff]
theorem mayCB_iff {c : List FnD} : mayCB c = true ↔ MayC c := by simp only [mayCB, MayC, Bool.and_eq_true, decide_eq_true_eq, List.all_eq_true, mayFB_iff, and_assoc]
theorem headW_get {l : List RowD} (h : 0 < l.length) : headW l = l[0].1 := by
  cases l with
  | nil => simp at h
  | cons x l => rfl
section

variable {w0 w : World} {r : Gh} {L : List Asr} {v : Value} {l : List RowD} {most : Nat} {K : Value → World → Prop}

/-- a row of a list, loaded -/
theorem rws_at (hv : RwsG r v l) {i : Nat} (hi : i < l.length) : ∃ b off cap n1 q c2, v = .slice (some ⟨b, off, none⟩) l.length cap ∧ RwC r [.int .i64 l[i].1, .slice q n1 c2] l[i] ∧
    (∀ j u, ([.int .i64 l[i].1, .slice q n1 c2] : List Value)[j]? = some u → Ob r fun w => w.cell? ⟨b, off + i * 2 + j, none⟩ = some u) := by
  obtain ⟨p, cap, rfl, hp, hc⟩ := hv.shape
  obtain ⟨b, off, c, rfl, hcl, hR, hcell⟩ := SlG.get (by decide) hv hi
  have hR' := hR
  obtain ⟨q, c2, rfl, _⟩ := hR
  exact ⟨b, off, cap, _, q, c2, rfl, hR', hcell⟩
theorem c_rows_IndexFunc {f : Value} {q : RowD → Bool} (hr : Holds r w) (hv : RwsG r v l) (hl : l.length ≤ 1000000)
    (hf : ∀ x ∈ l, ∀ c w' K', Ext w w' → Holds r w' → RwC r c x → (∀ w'', Ext w' w'' → K' (.bool (q x)) w'') → oCallV Tryd.prog f #[.agg c.toArray] w' K')
    (h : ∀ (n : Int) w', Ext w w' → (decide (0 ≤ n) = l.any q) → K (.int .i64 n) w') : oCall Tryd.prog Tryd.n_slices_IndexFunc_api_Row_api_Row #[v, f] w K := by
  refine Tryd.ok_slices_IndexFunc_api_Row_api_Row ?_
  unfold Tryd.F_slices_IndexFunc_api_Row_api_Row
  have hv0 := hv
  obtain ⟨p, cap, rfl, hp, hc⟩ := hv.shape
  (first | refine s_p ?_ | refine s_c (by omega) ?_)
  refine l_intro (ι := Nat) (fun i => [.int .i64 i]) (fun i w' => i ≤ l.length ∧ (l.take i).any q = false ∧ St w r w' [])
    (fun i => l.length - i) 0 rfl ⟨Nat.zero_le _, rfl, St.start hr⟩ ?_
  rintro i d w2 ⟨hi, hno, S⟩ K2 hK2
  simp only [List.getD_cons_zero]
  (first | refine s_p ?_ | refine s_c (by omega) ?_)
  refine c_if (fun hlt => ?_) (fun hge => ?_)
  · have hlt : i < l.length := by omega
    obtain ⟨b, off, cap', n1, q1, c2, e, hR, hcell⟩ := rws_at hv0 hlt
    cases e
    (first | refine s_p ?_ | refine s_c (by omega) ?_)
    refine s_ldN (n := 2) rfl (fun j u hj => S.at (hcell j u hj)) ?_
    refine hf _ (List.getElem_mem hlt) _ _ _ S.ext S.holds hR fun w3 e3 => ?_
    have S := S.go e3
    have htk : (l.take (i + 1)).any q = q l[i] := by
      rw [List.take_succ_eq_append_getElem hlt, List.any_append, hno]; simp
    refine c_b (fun hq => ?_) (fun hq => ?_)
    · refine h i _ S.ext ?_
      have : l.any q = true := by
        rw [List.any_eq_true]; exact ⟨_, List.getElem_mem hlt, hq⟩
      rw [this, decide_eq_true (by omega)]
    · (first | refine s_p ?_ | refine s_c (by omega) ?_)
      exact hK2 (i + 1) _ ⟨hlt, by rw [htk, hq], S⟩ (by omega)
  · refine h (-1) _ S.ext ?_
    rw [List.take_of_length_le (by omega)] at hno
    rw [hno]; rfl
theorem all_any (l : List RowD) : (!l.any fun x => !mayB x.1 x.2 || !decide (x.1 = headW l)) = l.all (rowGood (headW l)) := by
  rw [List.not_any_eq_all_not]
  congr 1
  funext x
  simp [rowGood]
theorem c_cert_good (hr : Holds r w) (hv : RwsG r v l) (hl : l.length ≤ 1000000) (h : ∀ w', Ext w w' → K (.bool (goodB l most)) w') : oCall Tryd.prog Tryd.n_cert_good #[v, .int .i64 (most : Nat)] w K := by
  refine Tryd.ok_cert_good ?_
  unfold Tryd.F_cert_good
  have S := St.start hr
  have hv0 := hv
  obtain ⟨p, cap, rfl, hp, hc⟩ := hv.shape
  refine S.box fun b2 w1 S => ?_
  have S : St w r w1 (.cell b2 [.slice p l.length cap] 48 :: []) := S
  have S := S.frz
  refine S.rd (a := ⟨b2, 0, none⟩) (q := one b2 [.slice p l.length cap] 48) (fun w k => (one_blk w k).cell 0) ?_
  (first | refine s_p ?_ | refine s_c (by omega) ?_); (first | refine s_p ?_ | refine s_c (by omega) ?_)
  refine j_bandR (c := l.all (rowGood (headW l))) (R := fun w' => St w (r.or (one b2 [.slice p l.length cap] 48)) w' []) (fun _ => S) (fun hle K2 hK2 => ?_) (fun w2 S => ?_)
  · refine S.rd (a := ⟨b2, 0, none⟩) (q := one b2 [.slice p l.length cap] 48) (fun w k => (one_blk w k).cell 0) ?_
    (first | refine s_p ?_ | refine s_c (by omega) ?_)
    refine Tryd.ok_slices_ContainsFunc_api_Row_api_Row ?_
    unfold Tryd.F_slices_ContainsFunc_api_Row_api_Row
    refine c_rows_IndexFunc (q := fun x => !mayB x.1 x.2 || !decide (x.1 = headW l)) S.holds (RwsG.up hv0) hl (fun x hx c w3 K3 e3 hr3 hR hK3 => ?_) fun n w3 e3 hn => ?_
    · refine v_f11 (by kernel_rfl) ?_
      refine Tryd.ok_cert_good_1 ?_
      unfold Tryd.F_cert_good_1
      have S := St.start hr3
      have hR' := hR
      obtain ⟨q, c2, rfl, _⟩ := hR'
      refine S.box fun b9 w4 S => ?_
      have S := S.go (Ext.drew _)
      (repeat (first | refine s_p ?_ | refine s_c (by omega) ?_ | refine S.ld ?_ | refine S.ldB ?_ | refine S.ce ?_ | refine S.ceB ?_ | refine s_q ?_ | refine s_qc (by omega) ?_ | refine n_some ?_ | rw [List.getD_cons_zero] | rw [List.getD_cons_succ]))
      refine c_bits_May (S.at hR.row) fun w5 e5 => ?_
      have S := S.go e5
      (first | refine s_p ?_ | refine s_c (by omega) ?_)
      have h0 : 0 < l.length := List.length_pos_of_mem hx
      refine j_borH (c := !decide (x.1 = headW l)) (fun hm K6 hK6 => ?_) (hK3 _ S.ext)
      (repeat (first | refine s_p ?_ | refine s_c (by omega) ?_ | refine S.ld ?_ | refine S.ldB ?_ | refine S.ce ?_ | refine S.ceB ?_ | refine s_q ?_ | refine s_qc (by omega) ?_ | refine n_some ?_ | rw [List.getD_cons_zero] | rw [List.getD_cons_succ]))
      refine S.rd (a := ⟨b2, 0, none⟩) (q := one b2 [.slice p l.length cap] 48) (fun w k => (one_blk w k).cell 0) ?_
      obtain ⟨b, off, cap', n1, q1, c3, e, hR0, hcell⟩ := rws_at hv0 h0
      cases e
      (repeat (first | refine s_p ?_ | refine s_c (by omega) ?_ | refine S.ld ?_ | refine S.ldB ?_ | refine S.ce ?_ | refine S.ceB ?_ | refine s_q ?_ | refine s_qc (by omega) ?_ | refine n_some ?_ | rw [List.getD_cons_zero] | rw [List.getD_cons_succ]))
      refine S.rd (a := ⟨b, off + 0 * 2 + 0, none⟩) (hcell 0 _ rfl) ?_
      (repeat (first | refine s_p ?_ | refine s_c (by omega) ?_ | refine S.ld ?_ | refine S.ldB ?_ | refine S.ce ?_ | refine S.ceB ?_ | refine s_q ?_ | refine s_qc (by omega) ?_ | refine n_some ?_ | rw [List.getD_cons_zero] | rw [List.getD_cons_succ]))
      rw [show decide (x.1 ≠ l[0].1) = !decide (x.1 = headW l) by rw [headW_get h0]; simp]
      exact hK6
    · have S := S.go e3
      (first | refine s_p ?_ | refine s_c (by omega) ?_)
      (first | refine s_p ?_ | refine s_c (by omega) ?_)
      rw [hn, all_any]
      exact hK2 _ S
  · have := h _ S.ext
    rw [goodB] at this
    rw [show decide ((l.length : Int) ≤ (most : Nat)) = decide (l.length ≤ most) from decide_eq_decide.2 (by omega)]
    exact this
theorem c_ref20_list (hr : Holds r w) (hv : RwsG r v l) (hl : l.length ≤ 1000000) (h : ∀ w', Ext w w' → K (.bool (goodB l most)) w') : oCall Tryd.prog Tryd.n_ref20_list #[v, .int .i64 (most : Nat)] w K := by
  refine Tryd.ok_ref20_list ?_
  unfold Tryd.F_ref20_list
  have hv0 := hv
  obtain ⟨p, cap, rfl, hp, hc⟩ := hv.shape
  (first | refine s_p ?_ | refine s_c (by omega) ?_); (first | refine s_p ?_ | refine s_c (by omega) ?_)
  refine c_if (fun hgt => ?_) (fun hle => ?_)
  · have := h w (Ext.refl w)
    rwa [goodB, decide_eq_false (by omega), Bool.false_and] at this
  rw [goodB, decide_eq_true (by omega), Bool.true_and] at h
  refine l_intro (ι := Nat) (fun i => [.int .i64 i]) (fun i w' => i ≤ l.length ∧ (l.take i).all (rowGood (headW l)) = true ∧ St w r w' [])
    (fun i => l.length - i) 0 rfl ⟨Nat.zero_le _, rfl, St.start hr⟩ ?_
  rintro i d w2 ⟨hi, hno, S⟩ K2 hK2
  simp only [List.getD_cons_zero]
  (first | refine s_p ?_ | refine s_c (by omega) ?_); (first | refine s_p ?_ | refine s_c (by omega) ?_)
  refine c_if (fun hlt => ?_) (fun hge => ?_)
  · have hlt : i < l.length := by omega
    have h0 : 0 < l.length := by omega
    have S := S.go (Ext.drew _)
    obtain ⟨b, off, cap', n1, q1, c2, e, hR, hcell⟩ := rws_at hv0 hlt
    cases e
    (first | refine s_p ?_ | refine s_c (by omega) ?_)
    refine s_ldN (n := 2) rfl (fun j u hj => S.at (hcell j u hj)) ?_
    refine c_ref01_May (S.at hR.row) fun w5 e5 => ?_
    have S := S.go e5
    (first | refine s_p ?_ | refine s_c (by omega) ?_)
    refine j_borH (c := !decide (l[i].1 = headW l)) (fun hm K6 hK6 => ?_) ?_
    · (first | refine s_p ?_ | refine s_c (by omega) ?_); (first | refine s_p ?_ | refine s_c (by omega) ?_)
      refine S.rd (a := ⟨b, off + i * 2 + 0, none⟩) (hcell 0 _ rfl) ?_
      obtain ⟨b', off', cap'', n3, q3, c3, e, hR0, hcell0⟩ := rws_at hv0 h0
      cases e
      (first | refine s_p ?_ | refine s_c (by omega) ?_); (first | refine s_p ?_ | refine s_c (by omega) ?_)
      refine S.rd (a := ⟨b, off + 0 * 2 + 0, none⟩) (hcell0 0 _ rfl) ?_
      (first | refine s_p ?_ | refine s_c (by omega) ?_)
      rw [show decide (l[i].1 ≠ l[0].1) = !decide (l[i].1 = headW l) by rw [headW_get h0]; simp]
      exact hK6
    have htk : (l.take (i + 1)).all (rowGood (headW l)) = rowGood (headW l) l[i] := by
      rw [List.take_succ_eq_append_getElem hlt, List.all_append, hno]; simp
    have hq : (!mayB l[i].1 l[i].2 || !decide (l[i].1 = headW l)) = !rowGood (headW l) l[i] := by simp [rowGood]
    rw [hq]
    refine c_b (fun hb => ?_) (fun hb => ?_)
    · have : l.all (rowGood (headW l)) = false := by
        rw [List.all_eq_false]
        exact ⟨_, List.getElem_mem hlt, by simpa using hb⟩
      rw [this] at h
      exact h _ S.ext
    · (first | refine s_p ?_ | refine s_c (by omega) ?_)
      exact hK2 (i + 1) _ ⟨hlt, by rw [htk]; simpa using hb, S⟩ (by omega)
  · rw [List.take_of_length_le (by omega)] at hno
    rw [hno] at h
    exact h _ S.ext
end

end Go.Proofs
end

section
namespace Go.Proofs

open Go.Sh Go.BM

set_option maxRecDepth 100000

set_option linter.unusedSimpArgs false

set_option linter.unusedVariables false

/-- lists of no great length -/
def FSm (f : FnD) : Prop := f.rows.length ≤ 1000000 ∧ f.ranges.length ≤ 1000000 ∧ f.moves.length ≤ 1000000
section

variable {w0 w : World} {r : Gh} {L : List Asr} {v : Value} {c : List FnD} {most : Nat} {K : Value → World → Prop}

/-- a function of a certificate -/
theorem fns_at {v : Value} (hv : FnsG r v c) {i : Nat} (hi : i < c.length) : ∃ b off cap p1 n1 c1 p2 n2 c2 p3 n3 c3, v = .slice (some ⟨b, off, none⟩) c.length cap ∧ RwsG r (.slice p1 n1 c1) c[i].rows ∧ RwsG r (.slice p2 n2 c2) c[i].ranges ∧ RwsG r (.slice p3 n3 c3) c[i].moves ∧
    (∀ j u, ([.slice p1 n1 c1, .slice p2 n2 c2, .slice p3 n3 c3] : List Value)[j]? = some u → Ob r fun w => w.cell? ⟨b, off + i * 3 + j, none⟩ = some u) := by
  obtain ⟨p, cap, rfl, hp, hc⟩ := hv.shape
  obtain ⟨b, off, cc, rfl, hcl, hR, hcell⟩ := SlG.get (by decide) hv hi
  obtain ⟨x, y, z, rfl, g1, g2, g3⟩ := hR
  obtain ⟨p1, c1, rfl, _⟩ := g1.shape
  obtain ⟨p2, c2, rfl, _⟩ := g2.shape
  obtain ⟨p3, c3, rfl, _⟩ := g3.shape
  exact ⟨b, off, cap, p1, _, c1, p2, _, c2, p3, _, c3, rfl, g1, g2, g3, hcell⟩
theorem c_cert_May (hr : Holds r w) (hv : CertG r v c) (hl : c.length ≤ 100) (hs : ∀ f ∈ c, FSm f) (h : ∀ w', Ext w w' → K (.bool (mayCB c)) w') : oCall Tryd.prog Tryd.n_cert_May #[v] w K := by
  refine Tryd.ok_cert_May ?_
  unfold Tryd.F_cert_May
  obtain ⟨u, rfl, hu⟩ := hv
  have hu0 := hu
  obtain ⟨p, cap, rfl, hp, hc⟩ := hu.shape
  have S := St.start hr
  refine S.box fun b1 w1 S => ?_
  (repeat (first | refine s_p ?_ | refine s_c (by omega) ?_ | refine S.ld ?_ | refine S.ldB ?_ | refine S.ce ?_ | refine S.ceB ?_ | refine s_q ?_ | refine s_qc (by omega) ?_ | refine n_some ?_ | rw [List.getD_cons_zero] | rw [List.getD_cons_succ]))
  refine j_borH (c := decide (32 < (c.length : Int))) (fun hm K6 hK6 => by (repeat (first | refine s_p ?_ | refine s_c (by omega) ?_ | refine S.ld ?_ | refine S.ldB ?_ | refine S.ce ?_ | refine S.ceB ?_ | refine s_q ?_ | refine s_qc (by omega) ?_ | refine n_some ?_ | rw [List.getD_cons_zero] | rw [List.getD_cons_succ])); exact hK6) ?_
  have hcb : (decide ((c.length : Int) < 1) || decide (32 < (c.length : Int))) = !(decide (1 ≤ c.length) && decide (c.length ≤ 32)) := by
    rw [Bool.not_and, ← decide_not, ← decide_not]
    congr 1 <;> exact decide_eq_decide.2 (by omega)
  rw [hcb]
  refine c_b (fun hb => ?_) (fun hb => ?_)
  · have : mayCB c = false := by rw [mayCB]; simp only [Bool.not_eq_true'] at hb; rw [hb]; rfl
    rw [this] at h
    exact h _ S.ext
  have hmc : mayCB c = c.all mayFB := by rw [mayCB]; simp only [Bool.not_eq_false'] at hb; rw [hb]; rfl
  rw [hmc] at h
  (repeat (first | refine s_p ?_ | refine s_c (by omega) ?_ | refine S.ld ?_ | refine S.ldB ?_ | refine S.ce ?_ | refine S.ceB ?_ | refine s_q ?_ | refine s_qc (by omega) ?_ | refine n_some ?_ | rw [List.getD_cons_zero] | rw [List.getD_cons_succ]))
  refine l_intro (ι := Nat) (fun i => [.int .i64 i]) (fun i w' => i ≤ c.length ∧ (c.take i).all mayFB = true ∧ St w r w' [])
    (fun i => c.length - i) 0 rfl ⟨Nat.zero_le _, rfl, S.tl⟩ ?_
  clear S
  rintro i d w2 ⟨hi, hno, S⟩ K2 hK2
  simp only [List.getD_cons_zero]
  (first | refine s_p ?_ | refine s_c (by omega) ?_)
  refine c_if (fun hlt => ?_) (fun hge => ?_)
  rotate_left
  · rw [List.take_of_length_le (by omega)] at hno
    rw [hno] at h
    exact h _ S.ext
  have hlt : i < c.length := by omega
  obtain ⟨b, off, cap', p1, n1, c1, p2, n2, c2, p3, n3, c3, e, g1, g2, g3, hcell⟩ := fns_at hu0 hlt
  cases e
  obtain ⟨s1, s2, s3⟩ := hs _ (List.getElem_mem hlt)
  (first | refine s_p ?_ | refine s_c (by omega) ?_)
  refine s_ldN (n := 3) rfl (fun j u hj => S.at (hcell j u hj)) ?_
  refine S.al fun b4 w3 S => ?_
  refine S.stB fun w4 S => ?_
  have S : St w r w4 (.cell b4 [.slice p1 n1 c1, .slice p2 n2 c2, .slice p3 n3 c3] 50 :: []) := S
  refine c_cert_lists fun w5 e5 => ?_
  have S := S.go e5
  have bad : ∀ w', Ext w w' → mayFB c[i] = false → K (.bool false) w' := fun w' e hb => by
    have : c.all mayFB = false := by rw [List.all_eq_false]; exact ⟨_, List.getElem_mem hlt, by simp [hb]⟩
    rw [this] at h; exact h _ e
  refine l_unroll 4 ?_
  intro d4 K4 hK4
  (repeat (first | refine s_p ?_ | refine s_c (by omega) ?_ | refine S.ld ?_ | refine S.ldB ?_ | refine S.ce ?_ | refine S.ceB ?_ | refine s_q ?_ | refine s_qc (by omega) ?_ | refine n_some ?_ | rw [List.getD_cons_zero] | rw [List.getD_cons_succ]))
  refine p_ix (k := ⟨by kernel_rfl⟩) (v := .pointer (some ⟨b4, 0, none⟩)) rfl (by decide) (by decide) ?_
  have S := S.go (Ext.drew _)
  (repeat (first | refine s_p ?_ | refine s_c (by omega) ?_ | refine S.ld ?_ | refine S.ldB ?_ | refine S.ce ?_ | refine S.ceB ?_ | refine s_q ?_ | refine s_qc (by omega) ?_ | refine n_some ?_ | rw [List.getD_cons_zero] | rw [List.getD_cons_succ]))
  refine c_cert_limits fun w6 e6 => ⟨e6, ?_⟩
  have S := S.go e6
  refine p_ix (v := .int .i64 512) rfl (by decide) (by decide) ?_
  refine c_cert_good (most := 512) S.holds g1 s1 fun w7 e7 => ?_
  have S := S.go e7
  (first | refine s_p ?_ | refine s_c (by omega) ?_)
  refine c_b (fun hq => ?_) (fun hq => ?_)
  · exact bad _ S.ext (by rw [mayFB, show goodB c[i].rows 512 = false by simpa using hq]; rfl)
  have q1 : goodB c[i].rows 512 = true := by simpa using hq
  (repeat (first | refine s_p ?_ | refine s_c (by omega) ?_ | refine S.ld ?_ | refine S.ldB ?_ | refine S.ce ?_ | refine S.ceB ?_ | refine s_q ?_ | refine s_qc (by omega) ?_ | refine n_some ?_ | rw [List.getD_cons_zero] | rw [List.getD_cons_succ]))
  refine hK4 _ _ ?_
  clear hK4 K4
  intro d4 K4 hK4
  (repeat (first | refine s_p ?_ | refine s_c (by omega) ?_ | refine S.ld ?_ | refine S.ldB ?_ | refine S.ce ?_ | refine S.ceB ?_ | refine s_q ?_ | refine s_qc (by omega) ?_ | refine n_some ?_ | rw [List.getD_cons_zero] | rw [List.getD_cons_succ]))
  refine p_ix (k := ⟨by kernel_rfl⟩) (v := .pointer (some ⟨b4, 1, none⟩)) rfl (by decide) (by decide) ?_
  have S := S.go (Ext.drew _)
  (repeat (first | refine s_p ?_ | refine s_c (by omega) ?_ | refine S.ld ?_ | refine S.ldB ?_ | refine S.ce ?_ | refine S.ceB ?_ | refine s_q ?_ | refine s_qc (by omega) ?_ | refine n_some ?_ | rw [List.getD_cons_zero] | rw [List.getD_cons_succ]))
  refine c_cert_limits fun w6 e6 => ⟨e6, ?_⟩
  have S := S.go e6
  refine p_ix (v := .int .i64 256) rfl (by decide) (by decide) ?_
  refine c_cert_good (most := 256) S.holds g2 s2 fun w7 e7 => ?_
  have S := S.go e7
  (first | refine s_p ?_ | refine s_c (by omega) ?_)
  refine c_b (fun hq => ?_) (fun hq => ?_)
  · exact bad _ S.ext (by rw [mayFB, show goodB c[i].ranges 256 = false by simpa using hq]; simp)
  have q2 : goodB c[i].ranges 256 = true := by simpa using hq
  (repeat (first | refine s_p ?_ | refine s_c (by omega) ?_ | refine S.ld ?_ | refine S.ldB ?_ | refine S.ce ?_ | refine S.ceB ?_ | refine s_q ?_ | refine s_qc (by omega) ?_ | refine n_some ?_ | rw [List.getD_cons_zero] | rw [List.getD_cons_succ]))
  refine hK4 _ _ ?_
  clear hK4 K4
  intro d4 K4 hK4
  (repeat (first | refine s_p ?_ | refine s_c (by omega) ?_ | refine S.ld ?_ | refine S.ldB ?_ | refine S.ce ?_ | refine S.ceB ?_ | refine s_q ?_ | refine s_qc (by omega) ?_ | refine n_some ?_ | rw [List.getD_cons_zero] | rw [List.getD_cons_succ]))
  refine p_ix (k := ⟨by kernel_rfl⟩) (v := .pointer (some ⟨b4, 2, none⟩)) rfl (by decide) (by decide) ?_
  have S := S.go (Ext.drew _)
  (repeat (first | refine s_p ?_ | refine s_c (by omega) ?_ | refine S.ld ?_ | refine S.ldB ?_ | refine S.ce ?_ | refine S.ceB ?_ | refine s_q ?_ | refine s_qc (by omega) ?_ | refine n_some ?_ | rw [List.getD_cons_zero] | rw [List.getD_cons_succ]))
  refine c_cert_limits fun w6 e6 => ⟨e6, ?_⟩
  have S := S.go e6
  refine p_ix (v := .int .i64 256) rfl (by decide) (by decide) ?_
  refine c_cert_good (most := 256) S.holds g3 s3 fun w7 e7 => ?_
  have S := S.go e7
  (first | refine s_p ?_ | refine s_c (by omega) ?_)
  refine c_b (fun hq => ?_) (fun hq => ?_)
  · exact bad _ S.ext (by rw [mayFB, show goodB c[i].moves 256 = false by simpa using hq]; simp)
  have q3 : goodB c[i].moves 256 = true := by simpa using hq
  (repeat (first | refine s_p ?_ | refine s_c (by omega) ?_ | refine S.ld ?_ | refine S.ldB ?_ | refine S.ce ?_ | refine S.ceB ?_ | refine s_q ?_ | refine s_qc (by omega) ?_ | refine n_some ?_ | rw [List.getD_cons_zero] | rw [List.getD_cons_succ]))
  refine hK4 _ _ ?_
  clear hK4 K4
  intro d4 K4 hK4
  (repeat (first | refine s_p ?_ | refine s_c (by omega) ?_ | refine S.ld ?_ | refine S.ldB ?_ | refine S.ce ?_ | refine S.ceB ?_ | refine s_q ?_ | refine s_qc (by omega) ?_ | refine n_some ?_ | rw [List.getD_cons_zero] | rw [List.getD_cons_succ]))
  refine hK2 (i + 1) _ ⟨hlt, ?_, S.tl⟩ (by omega)
  rw [List.take_succ_eq_append_getElem hlt, List.all_append, hno]
  simp [mayFB, q1, q2, q3]
theorem c_ref20_May (hr : Holds r w) (hv : CertG r v c) (hl : c.length ≤ 100) (hs : ∀ f ∈ c, FSm f) (h : ∀ w', Ext w w' → K (.bool (mayCB c)) w') : oCall Tryd.prog Tryd.n_ref20_May #[v] w K := by
  refine Tryd.ok_ref20_May ?_
  unfold Tryd.F_ref20_May
  obtain ⟨u, rfl, hu⟩ := hv
  have hu0 := hu
  obtain ⟨p, cap, rfl, hp, hc⟩ := hu.shape
  have S := St.start hr
  refine S.box fun b1 w1 S => ?_
  have S : St w r w1 (.cell b1 [.slice p c.length cap] 24 :: []) := S
  (repeat (first | refine s_p ?_ | refine s_c (by omega) ?_ | refine S.ld ?_ | refine S.ldB ?_ | refine S.ce ?_ | refine S.ceB ?_ | refine s_q ?_ | refine s_qc (by omega) ?_ | refine n_some ?_ | rw [List.getD_cons_zero] | rw [List.getD_cons_succ]))
  refine j_borH (c := decide (32 < (c.length : Int))) (fun hm K6 hK6 => by (repeat (first | refine s_p ?_ | refine s_c (by omega) ?_ | refine S.ld ?_ | refine S.ldB ?_ | refine S.ce ?_ | refine S.ceB ?_ | refine s_q ?_ | refine s_qc (by omega) ?_ | refine n_some ?_ | rw [List.getD_cons_zero] | rw [List.getD_cons_succ])); exact hK6) ?_
  have hcb : (decide ((c.length : Int) < 1) || decide (32 < (c.length : Int))) = !(decide (1 ≤ c.length) && decide (c.length ≤ 32)) := by
    rw [Bool.not_and, ← decide_not, ← decide_not]
    congr 1 <;> exact decide_eq_decide.2 (by omega)
  rw [hcb]
  refine c_b (fun hb => ?_) (fun hb => ?_)
  · have : mayCB c = false := by rw [mayCB]; simp only [Bool.not_eq_true'] at hb; rw [hb]; rfl
    rw [this] at h
    exact h _ S.ext
  have hmc : mayCB c = c.all mayFB := by rw [mayCB]; simp only [Bool.not_eq_false'] at hb; rw [hb]; rfl
  rw [hmc] at h
  refine l_intro (ι := Nat) (fun i => [.int .i64 i]) (fun i w' => i ≤ c.length ∧ (c.take i).all mayFB = true ∧ St w r w' (.cell b1 [.slice p c.length cap] 24 :: []))
    (fun i => c.length - i) 0 rfl ⟨Nat.zero_le _, rfl, S⟩ ?_
  clear S
  rintro i d w2 ⟨hi, hno, S⟩ K2 hK2
  simp only [List.getD_cons_zero]
  (repeat (first | refine s_p ?_ | refine s_c (by omega) ?_ | refine S.ld ?_ | refine S.ldB ?_ | refine S.ce ?_ | refine S.ceB ?_ | refine s_q ?_ | refine s_qc (by omega) ?_ | refine n_some ?_ | rw [List.getD_cons_zero] | rw [List.getD_cons_succ]))
  refine c_if (fun hlt => ?_) (fun hge => ?_)
  rotate_left
  · rw [List.take_of_length_le (by omega)] at hno
    rw [hno] at h
    exact h _ S.ext
  have hlt : i < c.length := by omega
  obtain ⟨b, off, cap', p1, n1, c1, p2, n2, c2, p3, n3, c3, e, g1, g2, g3, hcell⟩ := fns_at hu0 hlt
  cases e
  obtain ⟨s1, s2, s3⟩ := hs _ (List.getElem_mem hlt)
  have bad : ∀ w', Ext w w' → mayFB c[i] = false → K (.bool false) w' := fun w' e hb => by
    have : c.all mayFB = false := by rw [List.all_eq_false]; exact ⟨_, List.getElem_mem hlt, by simp [hb]⟩
    rw [this] at h; exact h _ e
  (repeat (first | refine s_p ?_ | refine s_c (by omega) ?_ | refine S.ld ?_ | refine S.ldB ?_ | refine S.ce ?_ | refine S.ceB ?_ | refine s_q ?_ | refine s_qc (by omega) ?_ | refine n_some ?_ | rw [List.getD_cons_zero] | rw [List.getD_cons_succ]))
  refine S.rd (a := ⟨b, off + i * 3 + 0, none⟩) (hcell 0 _ rfl) ?_
  refine c_ref20_list (most := 512) S.holds g1 s1 fun w3 e3 => ?_
  have S := S.go e3
  (first | refine s_p ?_ | refine s_c (by omega) ?_)
  refine j_borR (c := !goodB c[i].ranges 256) (R := fun w' => St w r w' (.cell b1 [.slice (some ⟨b, off, none⟩) c.length cap] 24 :: [])) (fun _ => S) (fun _ K6 hK6 => ?_) (fun w4 S => ?_)
  · (repeat (first | refine s_p ?_ | refine s_c (by omega) ?_ | refine S.ld ?_ | refine S.ldB ?_ | refine S.ce ?_ | refine S.ceB ?_ | refine s_q ?_ | refine s_qc (by omega) ?_ | refine n_some ?_ | rw [List.getD_cons_zero] | rw [List.getD_cons_succ]))
    refine S.rd (a := ⟨b, off + i * 3 + 1, none⟩) (hcell 1 _ rfl) ?_
    refine c_ref20_list (most := 256) S.holds g2 s2 fun w5 e5 => ?_
    have S := S.go e5
    (first | refine s_p ?_ | refine s_c (by omega) ?_)
    exact hK6 _ S
  refine j_borR (c := !goodB c[i].moves 256) (R := fun w' => St w r w' (.cell b1 [.slice (some ⟨b, off, none⟩) c.length cap] 24 :: [])) (fun _ => S) (fun _ K6 hK6 => ?_) (fun w5 S => ?_)
  · (repeat (first | refine s_p ?_ | refine s_c (by omega) ?_ | refine S.ld ?_ | refine S.ldB ?_ | refine S.ce ?_ | refine S.ceB ?_ | refine s_q ?_ | refine s_qc (by omega) ?_ | refine n_some ?_ | rw [List.getD_cons_zero] | rw [List.getD_cons_succ]))
    refine S.rd (a := ⟨b, off + i * 3 + 2, none⟩) (hcell 2 _ rfl) ?_
    refine c_ref20_list (most := 256) S.holds g3 s3 fun w6 e6 => ?_
    have S := S.go e6
    (first | refine s_p ?_ | refine s_c (by omega) ?_)
    exact hK6 _ S
  have hq : (!goodB c[i].rows 512 || !goodB c[i].ranges 256 || !goodB c[i].moves 256) = !mayFB c[i] := by simp [mayFB, Bool.or_assoc]
  rw [hq]
  refine c_b (fun hb => ?_) (fun hb => ?_)
  · exact bad _ S.ext (by simpa using hb)
  · (first | refine s_p ?_ | refine s_c (by omega) ?_)
    refine hK2 (i + 1) _ ⟨hlt, ?_, S⟩ (by omega)
    rw [List.take_succ_eq_append_getElem hlt, List.all_append, hno]
    simpa using hb
end

end Go.Proofs
end

section
namespace Go.Proofs

open Go.Sh Go.BM

set_option maxRecDepth 100000

set_option linter.unusedSimpArgs false

set_option linter.unusedVariables false

theorem bad_eq {st : Bool} {s : List UInt8} {a : Nat} (h : rd (certG st) s 0 = (a, none)) : certR st s = (a, none) := by
  rw [rd, List.drop_zero] at h
  rw [certR, h]
theorem more_eq {st : Bool} {s : List UInt8} {a : Nat} {l : List FnR} (h : rd (certG st) s 0 = (a, some l)) (hl : a < s.length) : certR st s = (a, none) := by
  rw [rd, List.drop_zero] at h
  rw [certR, h]; simp only; rw [if_pos hl]
theorem good_eq {st : Bool} {s : List UInt8} {a : Nat} {l : List FnR} (h : rd (certG st) s 0 = (a, some l)) (hl : ¬ a < s.length) : certR st s = (a, some l) := by
  rw [rd, List.drop_zero] at h
  rw [certR, h]; simp only; rw [if_neg hl]
section

variable {w0 w : World} {r : Gh} {L : List Asr} {tb a : Nat} {s : List UInt8} {K : Value → World → Prop} {Kp : List PanicEntry → World → Prop}

theorem d_caught_ret {v1 v2 : Value} {R : FrameMode → World → Prop} {Rp : List PanicEntry → FrameMode → World → Prop} (h : R .returning w) :
    oDef Tryd.prog Tryd.n_cert_caught_1 #[v1, v2] .returning w R Rp := by
  refine Tryd.ok_cert_caught_1 ?_
  unfold Tryd.F_cert_caught_1
  simp only [recov]
  (repeat (first | refine s_p ?_ | refine s_c (by omega) ?_ | refine S.ld ?_ | refine S.ldB ?_ | refine S.ce ?_ | refine S.ceB ?_ | refine s_q ?_ | refine s_qc (by omega) ?_ | refine n_some ?_ | rw [List.getD_cons_zero] | rw [List.getD_cons_succ]))
  exact h
theorem d_caught_stuck {M : List Asr} {b2 b3 : Nat} {R : FrameMode → World → Prop} {Rp : List PanicEntry → FrameMode → World → Prop}
    (S : St w0 r w (.cell b2 [.int .i64 0] 3 :: .cell b3 [.int .i64 0] 28 :: M))
    (h : ∀ w', St w0 r w' (.cell b2 [.int .i64 (a : Int)] 3 :: .cell b3 [.int .i64 200] 28 :: M) → R (.panicking [{ v := .iface 125 (.agg #[.int .i64 (a : Int)]), recovered := true }]) w') :
    oDef Tryd.prog Tryd.n_cert_caught_1 #[.pointer (some ⟨b2, 0, none⟩), .pointer (some ⟨b3, 0, none⟩)] (.panicking (stuckA a)) w R Rp := by
  refine Tryd.ok_cert_caught_1 ?_
  unfold Tryd.F_cert_caught_1
  simp only [recov]
  (repeat (first | refine s_p ?_ | refine s_c (by omega) ?_ | refine S.ld ?_ | refine S.ldB ?_ | refine S.ce ?_ | refine S.ceB ?_ | refine s_q ?_ | refine s_qc (by omega) ?_ | refine n_some ?_ | rw [List.getD_cons_zero] | rw [List.getD_cons_succ]))
  refine S.al fun b9 w1 S => ?_
  refine S.stB fun w2 S => ?_
  (repeat (first | refine s_p ?_ | refine s_c (by omega) ?_ | refine S.ld ?_ | refine S.ldB ?_ | refine S.ce ?_ | refine S.ceB ?_ | refine s_q ?_ | refine s_qc (by omega) ?_ | refine n_some ?_ | rw [List.getD_cons_zero] | rw [List.getD_cons_succ]))
  refine S.st fun w3 S => ?_
  refine S.st fun w4 S => ?_
  exact h _ (S.drop b9)
theorem c_cert_caught {f : Value} {Lk M : List Asr} {A : Gh → List Asr → Prop} {B : Nat → Gh → List Asr → Prop} (S : St w0 r w (Lk ++ M))
    (hf : ∀ (M' : List Asr) (w2 : World) (K2 : Value → World → Prop) (Kp2 : List PanicEntry → World → Prop), St w0 r w2 (Lk ++ M') → (∀ q Lk' w3, St w0 q w3 (Lk' ++ M') → A q Lk' → K2 (.tuple #[]) w3) →
      (∀ a q Lk' w3, St w0 q w3 (Lk' ++ M') → B a q Lk' → Kp2 (stuckA a) w3) → oCallVP Tryd.prog f #[] w2 K2 Kp2)
    (hA : ∀ q Lk' w3, St w0 q w3 (Lk' ++ M) → A q Lk' → K (.tuple #[.int .i64 0, .int .i64 0]) w3)
    (hB : ∀ (a : Nat) q Lk' w3, St w0 q w3 (Lk' ++ M) → B a q Lk' → K (.tuple #[.int .i64 (a : Int), .int .i64 200]) w3) :
    oCall Tryd.prog Tryd.n_cert_caught #[f] w K := by
  refine Tryd.ok_cert_caught ?_
  unfold Tryd.F_cert_caught
  refine S.al fun b2 w1 S => ?_
  refine S.al fun b3 w2 S => ?_
  unfold Tryd.B_cert_caught
  have pm : ∀ (c2 c3 : List Value) (Lk : List Asr), (Lk ++ (.cell b2 c2 3 :: .cell b3 c3 28 :: M)).Perm (.cell b2 c2 3 :: .cell b3 c3 28 :: (Lk ++ M)) := fun c2 c3 Lk =>
    List.perm_middle.trans (.cons _ List.perm_middle)
  refine hf (.cell b2 [.int .i64 0] 3 :: .cell b3 [.int .i64 0] 28 :: M) w2 _ _ (S.swap.permO (pm _ _ _)) (fun q Lk' w3 S hA' => ?_) (fun a q Lk' w3 S hB' => ⟨(fun h => by cases h), ?_⟩)
  · have S := S.permO (pm _ _ _).symm
    refine S.st fun w4 S => ?_
    refine S.st fun w5 S => ?_
    refine d_caught_ret ?_
    simp only [settle, eEnd]
    (repeat (first | refine s_p ?_ | refine s_c (by omega) ?_ | refine S.ld ?_ | refine S.ldB ?_ | refine S.ce ?_ | refine S.ceB ?_ | refine s_q ?_ | refine s_qc (by omega) ?_ | refine n_some ?_ | rw [List.getD_cons_zero] | rw [List.getD_cons_succ]))
    exact hA q Lk' _ ((S.drop b2).drop b3) hA'
  · have S := S.permO (pm _ _ _).symm
    refine d_caught_stuck S fun w4 S => ?_
    simp only [settle, List.dropWhile, eEnd]
    (repeat (first | refine s_p ?_ | refine s_c (by omega) ?_ | refine S.ld ?_ | refine S.ldB ?_ | refine S.ce ?_ | refine S.ceB ?_ | refine s_q ?_ | refine s_qc (by omega) ?_ | refine n_some ?_ | rw [List.getD_cons_zero] | rw [List.getD_cons_succ]))
    exact hB a q Lk' _ ((S.drop b2).drop b3) hB'
theorem c_cert_mark (h : K (.string (bs [76, 87, 67, 1])) w) : oCall Tryd.prog Tryd.n_cert_mark #[] w K := by
  refine Tryd.ok_cert_mark ?_
  unfold Tryd.F_cert_mark
  exact h
abbrev oneV (f : FuncId) (b : Nat) : Value := .func (.func f) #[] #[.pointer (some ⟨b, 0, none⟩)]
theorem rd_cert {st : Bool} : rd (certG st) s 0 = bd (rd (oneG 76 76) s 0) fun _ b => bd (rd (oneG 87 87) s b) fun _ b => bd (rd (oneG 67 67) s b) fun _ b => bd (rd (oneG 1 1) s b) fun _ b => bd (rd (oneG 1 32) s b) fun n b => rd (repG (fun _ => fnG st) 0 n) s b := by
  rw [certG, markG, rd_bind, rd_bind, bd_assoc]
  congr 1; funext _ b
  rw [rd_bind, bd_assoc]
  congr 1; funext _ b
  rw [rd_bind, bd_assoc]
  congr 1; funext _ b
  rw [rd_bind, bd_assoc]
  congr 1; funext _ b
  rw [rd_ret]
  exact rd_bind
section

variable {st : Bool} {f : FuncId} {fb : Nat} {INV : List FnR → Gh → List Asr → Prop} {BAD : Gh → List Asr → Prop} {Lk M : List Asr}

theorem c_whole_1 {sb ob : Nat} (S : St w0 r w (Lk ++ M)) (hs : s.length ≤ 1000000000) (hsb : Ob r fun w => Blk w sb [.string (bs s)] 9) (hob : Ob r fun w => w.cell? ⟨ob, 0, none⟩ = some (oneV f fb)) (h0 : INV [] r Lk)
    (hb : ∀ done q L, INV done q L → BAD q L)
    (hone : ∀ (M' : List Asr) (done : List FnR) (q : Gh) (Lk : List Asr) (w2 : World) (tb b : Nat) (K2 : Value → World → Prop) (Kp2 : List PanicEntry → World → Prop), INV done q Lk → done.length ≤ 32 → St w0 q w2 (tkC tb s b :: (Lk ++ M')) → b ≤ s.length →
      (∀ x b' q' Lk' w3, rd (fnG st) s b = (b', some x) → b' ≤ s.length → INV (done ++ [x]) q' Lk' → Le r q' → St w0 q' w3 (tkC tb s b' :: (Lk' ++ M')) → K2 (.tuple #[]) w3) →
      (∀ b' q' Lk' w3, rd (fnG st) s b = (b', none) → BAD q' Lk' → St w0 q' w3 (tkC tb s b' :: (Lk' ++ M')) → Kp2 (stuckA b') w3) → Le r q → oCallVP Tryd.prog (oneV f fb) #[tkP tb] w2 K2 Kp2)
    (h : ∀ b l q Lk' w3, certR st s = (b, some l) → INV l q Lk' → St w0 q w3 (Lk' ++ M) → K (.tuple #[]) w3)
    (hk : ∀ a q Lk' w3, certR st s = (a, none) → BAD q Lk' → St w0 q w3 (Lk' ++ M) → Kp (stuckA a) w3) :
    oCallP Tryd.prog Tryd.n_cert_whole_1 #[.pointer (some ⟨sb, 0, none⟩), .pointer (some ⟨ob, 0, none⟩)] w K Kp := by
  refine Tryd.ok_cert_whole_1 ?_
  unfold Tryd.F_cert_whole_1
  have nf : ∀ {P : Prop}, false = true → P := fun h => by cases h
  have hbad := fun {a : Nat} (e : rd (certG st) s 0 = (a, none)) (q : Gh) (Lk' : List Asr) (w3 : World) => hk a q Lk' w3 (bad_eq e)
  have hc := rd_cert (st := st) (s := s)
  refine S.rd (hsb.mono fun w B => by have := B.cell 0; exact this) ?_
  (first | refine s_p ?_ | refine s_c (by omega) ?_)
  refine S.box fun tb w1 S => ?_
  refine P_of_oCall (c_cert_mark ?_)
  (repeat (first | refine s_p ?_ | refine s_c (by omega) ?_ | refine S.ld ?_ | refine S.ldB ?_ | refine S.ce ?_ | refine S.ceB ?_ | refine s_q ?_ | refine s_qc (by omega) ?_ | refine n_some ?_ | rw [List.getD_cons_zero] | rw [List.getD_cons_succ]))
  refine l_unroll 5 ?_
  intro d4 K4 hK4
  (repeat (first | refine s_p ?_ | refine s_c (by omega) ?_ | refine S.ld ?_ | refine S.ldB ?_ | refine S.ce ?_ | refine S.ceB ?_ | refine s_q ?_ | refine s_qc (by omega) ?_ | refine n_some ?_ | rw [List.getD_cons_zero] | rw [List.getD_cons_succ]))
  refine P_of_oCall (c_cert_mark ?_)
  refine s_c ⟨by decide, by decide⟩ ?_
  show opP _ (convert _ _ (.int .u8 76)) _
  (repeat (first | refine s_p ?_ | refine s_c (by omega) ?_ | refine S.ld ?_ | refine S.ldB ?_ | refine S.ce ?_ | refine S.ceB ?_ | refine s_q ?_ | refine s_qc (by omega) ?_ | refine n_some ?_ | rw [List.getD_cons_zero] | rw [List.getD_cons_succ]))
  refine P_of_oCall (c_cert_mark ?_)
  refine s_c ⟨by decide, by decide⟩ ?_
  show opP _ (convert _ _ (.int .u8 76)) _
  (repeat (first | refine s_p ?_ | refine s_c (by omega) ?_ | refine S.ld ?_ | refine S.ldB ?_ | refine S.ce ?_ | refine S.ceB ?_ | refine s_q ?_ | refine s_qc (by omega) ?_ | refine n_some ?_ | rw [List.getD_cons_zero] | rw [List.getD_cons_succ]))
  have S := S.go (Ext.drew _)
  refine c_tk_one (a := 0) (lo := 76) (hi := 76) S hs (fun u0 w2 _ _ ha0 e0 S => ?_) (fun w2 e0 S => ⟨nf, hbad (by rw [hc, e0]; rfl) r Lk _ (hb _ _ _ h0) S.tl⟩)
  rw [e0] at hc; simp only [bd] at hc
  (repeat (first | refine s_p ?_ | refine s_c (by omega) ?_ | refine S.ld ?_ | refine S.ldB ?_ | refine S.ce ?_ | refine S.ceB ?_ | refine s_q ?_ | refine s_qc (by omega) ?_ | refine n_some ?_ | rw [List.getD_cons_zero] | rw [List.getD_cons_succ]))
  refine hK4 _ _ ?_
  clear hK4 K4
  intro d4 K4 hK4
  (repeat (first | refine s_p ?_ | refine s_c (by omega) ?_ | refine S.ld ?_ | refine S.ldB ?_ | refine S.ce ?_ | refine S.ceB ?_ | refine s_q ?_ | refine s_qc (by omega) ?_ | refine n_some ?_ | rw [List.getD_cons_zero] | rw [List.getD_cons_succ]))
  refine P_of_oCall (c_cert_mark ?_)
  refine s_c ⟨by decide, by decide⟩ ?_
  show opP _ (convert _ _ (.int .u8 87)) _
  (repeat (first | refine s_p ?_ | refine s_c (by omega) ?_ | refine S.ld ?_ | refine S.ldB ?_ | refine S.ce ?_ | refine S.ceB ?_ | refine s_q ?_ | refine s_qc (by omega) ?_ | refine n_some ?_ | rw [List.getD_cons_zero] | rw [List.getD_cons_succ]))
  refine P_of_oCall (c_cert_mark ?_)
  refine s_c ⟨by decide, by decide⟩ ?_
  show opP _ (convert _ _ (.int .u8 87)) _
  (repeat (first | refine s_p ?_ | refine s_c (by omega) ?_ | refine S.ld ?_ | refine S.ldB ?_ | refine S.ce ?_ | refine S.ceB ?_ | refine s_q ?_ | refine s_qc (by omega) ?_ | refine n_some ?_ | rw [List.getD_cons_zero] | rw [List.getD_cons_succ]))
  have S := S.go (Ext.drew _)
  refine c_tk_one (a := 1) (lo := 87) (hi := 87) S hs (fun u1 w3 _ _ ha1 e1 S => ?_) (fun w3 e1 S => ⟨nf, hbad (by rw [hc, e1]) r Lk _ (hb _ _ _ h0) S.tl⟩)
  rw [e1] at hc; simp only [bd] at hc
  (repeat (first | refine s_p ?_ | refine s_c (by omega) ?_ | refine S.ld ?_ | refine S.ldB ?_ | refine S.ce ?_ | refine S.ceB ?_ | refine s_q ?_ | refine s_qc (by omega) ?_ | refine n_some ?_ | rw [List.getD_cons_zero] | rw [List.getD_cons_succ]))
  refine hK4 _ _ ?_
  clear hK4 K4
  intro d4 K4 hK4
  (repeat (first | refine s_p ?_ | refine s_c (by omega) ?_ | refine S.ld ?_ | refine S.ldB ?_ | refine S.ce ?_ | refine S.ceB ?_ | refine s_q ?_ | refine s_qc (by omega) ?_ | refine n_some ?_ | rw [List.getD_cons_zero] | rw [List.getD_cons_succ]))
  refine P_of_oCall (c_cert_mark ?_)
  refine s_c ⟨by decide, by decide⟩ ?_
  show opP _ (convert _ _ (.int .u8 67)) _
  (repeat (first | refine s_p ?_ | refine s_c (by omega) ?_ | refine S.ld ?_ | refine S.ldB ?_ | refine S.ce ?_ | refine S.ceB ?_ | refine s_q ?_ | refine s_qc (by omega) ?_ | refine n_some ?_ | rw [List.getD_cons_zero] | rw [List.getD_cons_succ]))
  refine P_of_oCall (c_cert_mark ?_)
  refine s_c ⟨by decide, by decide⟩ ?_
  show opP _ (convert _ _ (.int .u8 67)) _
  (repeat (first | refine s_p ?_ | refine s_c (by omega) ?_ | refine S.ld ?_ | refine S.ldB ?_ | refine S.ce ?_ | refine S.ceB ?_ | refine s_q ?_ | refine s_qc (by omega) ?_ | refine n_some ?_ | rw [List.getD_cons_zero] | rw [List.getD_cons_succ]))
  have S := S.go (Ext.drew _)
  refine c_tk_one (a := 2) (lo := 67) (hi := 67) S hs (fun u2 w4 _ _ ha2 e2 S => ?_) (fun w4 e2 S => ⟨nf, hbad (by rw [hc, e2]) r Lk _ (hb _ _ _ h0) S.tl⟩)
  rw [e2] at hc; simp only [bd] at hc
  (repeat (first | refine s_p ?_ | refine s_c (by omega) ?_ | refine S.ld ?_ | refine S.ldB ?_ | refine S.ce ?_ | refine S.ceB ?_ | refine s_q ?_ | refine s_qc (by omega) ?_ | refine n_some ?_ | rw [List.getD_cons_zero] | rw [List.getD_cons_succ]))
  refine hK4 _ _ ?_
  clear hK4 K4
  intro d4 K4 hK4
  (repeat (first | refine s_p ?_ | refine s_c (by omega) ?_ | refine S.ld ?_ | refine S.ldB ?_ | refine S.ce ?_ | refine S.ceB ?_ | refine s_q ?_ | refine s_qc (by omega) ?_ | refine n_some ?_ | rw [List.getD_cons_zero] | rw [List.getD_cons_succ]))
  refine P_of_oCall (c_cert_mark ?_)
  refine s_c ⟨by decide, by decide⟩ ?_
  show opP _ (convert _ _ (.int .u8 1)) _
  (repeat (first | refine s_p ?_ | refine s_c (by omega) ?_ | refine S.ld ?_ | refine S.ldB ?_ | refine S.ce ?_ | refine S.ceB ?_ | refine s_q ?_ | refine s_qc (by omega) ?_ | refine n_some ?_ | rw [List.getD_cons_zero] | rw [List.getD_cons_succ]))
  refine P_of_oCall (c_cert_mark ?_)
  refine s_c ⟨by decide, by decide⟩ ?_
  show opP _ (convert _ _ (.int .u8 1)) _
  (repeat (first | refine s_p ?_ | refine s_c (by omega) ?_ | refine S.ld ?_ | refine S.ldB ?_ | refine S.ce ?_ | refine S.ceB ?_ | refine s_q ?_ | refine s_qc (by omega) ?_ | refine n_some ?_ | rw [List.getD_cons_zero] | rw [List.getD_cons_succ]))
  have S := S.go (Ext.drew _)
  refine c_tk_one (a := 3) (lo := 1) (hi := 1) S hs (fun u3 w5 _ _ ha3 e3 S => ?_) (fun w5 e3 S => ⟨nf, hbad (by rw [hc, e3]) r Lk _ (hb _ _ _ h0) S.tl⟩)
  rw [e3] at hc; simp only [bd] at hc
  (repeat (first | refine s_p ?_ | refine s_c (by omega) ?_ | refine S.ld ?_ | refine S.ldB ?_ | refine S.ce ?_ | refine S.ceB ?_ | refine s_q ?_ | refine s_qc (by omega) ?_ | refine n_some ?_ | rw [List.getD_cons_zero] | rw [List.getD_cons_succ]))
  refine hK4 _ _ ?_
  clear hK4 K4
  intro d4 K4 hK4
  (repeat (first | refine s_p ?_ | refine s_c (by omega) ?_ | refine S.ld ?_ | refine S.ldB ?_ | refine S.ce ?_ | refine S.ceB ?_ | refine s_q ?_ | refine s_qc (by omega) ?_ | refine n_some ?_ | rw [List.getD_cons_zero] | rw [List.getD_cons_succ]))
  refine c_tk_one (a := 4) (lo := 1) (hi := 32) S hs (fun n w6 hn _ ha5 e5 S => ?_) (fun w6 e5 S => ⟨nf, hbad (by rw [hc, e5]) r Lk _ (hb _ _ _ h0) S.tl⟩)
  rw [e5] at hc; simp only [bd] at hc
  refine l_intro (ι := Nat) (fun i => [.int .i64 i])
    (fun i w' => ∃ b done q Lk', i ≤ n ∧ b ≤ s.length ∧ RepInv (fun _ => fnG st) n s 5 i b done ∧ done.length = i ∧ INV done q Lk' ∧ Le r q ∧ St w0 q w' (tkC tb s b :: (Lk' ++ M)))
    (fun i => n - i) 0 rfl ⟨5, [], r, Lk, Nat.zero_le _, by omega, .start, rfl, h0, inferInstance, S⟩ ?_
  clear S e5
  rintro i d w7 ⟨b, done, q, Lk', hi, hbl, hinv, hdl, hI, le, S⟩ K7 hK7
  simp only [List.getD_cons_zero]
  (first | refine s_p ?_ | refine s_c (by omega) ?_)
  refine c_if (fun hlt => ?_) (fun hge => ?_)
  · have hlt : i < n := by omega
    refine S.rd (q := r) hob ?_
    refine hone M done q Lk' w7 tb b _ _ hI (by omega) S hbl (fun x b' q' Lk2 w8 e8 hb8 hI8 le8 S => ?_) (fun b' q' Lk2 w8 e8 hB S => ⟨nf, hbad (by rw [hc, hinv.stuck hlt e8]) q' Lk2 _ hB S.tl⟩) le
    (first | refine s_p ?_ | refine s_c (by omega) ?_)
    exact hK7 (i + 1) _ ⟨b', done ++ [x], q', Lk2, hlt, hb8, hinv.step hlt e8, by simp [hdl], hI8, le8, S⟩ (by omega)
  · have e9 := hinv.end_ (by omega)
    rw [e9] at hc
    have S := S.go (Ext.drew _)
    (repeat (first | refine s_p ?_ | refine s_c (by omega) ?_ | refine S.ld ?_ | refine S.ldB ?_ | refine S.ce ?_ | refine S.ceB ?_ | refine s_q ?_ | refine s_qc (by omega) ?_ | refine n_some ?_ | rw [List.getD_cons_zero] | rw [List.getD_cons_succ]))
    refine S.rd (q := r) (hsb.mono fun w B => by have := B.cell 0; exact this) ?_
    (repeat (first | refine s_p ?_ | refine s_c (by omega) ?_ | refine S.ld ?_ | refine S.ldB ?_ | refine S.ce ?_ | refine S.ceB ?_ | refine s_q ?_ | refine s_qc (by omega) ?_ | refine n_some ?_ | rw [List.getD_cons_zero] | rw [List.getD_cons_succ]))
    refine c_if (fun hlt => ?_) (fun hge => ?_)
    · refine c_tk_give S fun S => ⟨nf, hk _ q Lk' _ (more_eq hc (by omega)) (hb _ _ _ hI) S.tl⟩
    · exact h b done q Lk' _ (good_eq hc (by omega)) hI S.tl
/-- whole, by a closure that holds one cell -/
theorem c_cert_whole (S : St w0 r w (Lk ++ M)) (hs : s.length ≤ 1000000000) (h0 : ∀ q, Le r q → INV [] q Lk)
    (hb : ∀ done q L, INV done q L → BAD q L)
    (hone : ∀ (r' : Gh), Le r r' → ∀ (M' : List Asr) (done : List FnR) (q : Gh) (Lk : List Asr) (w2 : World) (tb b : Nat) (K2 : Value → World → Prop) (Kp2 : List PanicEntry → World → Prop), INV done q Lk → done.length ≤ 32 → St w0 q w2 (tkC tb s b :: (Lk ++ M')) → b ≤ s.length →
      (∀ x b' q' Lk' w3, rd (fnG st) s b = (b', some x) → b' ≤ s.length → INV (done ++ [x]) q' Lk' → Le r' q' → St w0 q' w3 (tkC tb s b' :: (Lk' ++ M')) → K2 (.tuple #[]) w3) →
      (∀ b' q' Lk' w3, rd (fnG st) s b = (b', none) → BAD q' Lk' → St w0 q' w3 (tkC tb s b' :: (Lk' ++ M')) → Kp2 (stuckA b') w3) → Le r' q → oCallVP Tryd.prog (oneV f fb) #[tkP tb] w2 K2 Kp2)
    (hlong : ∀ w', 8388608 < s.length → St w0 r w' (Lk ++ M) → K (.tuple #[.int .i64 0, .int .i64 3]) w')
    (h : ∀ b l q Lk' w3, ¬ 8388608 < s.length → certR st s = (b, some l) → INV l q Lk' → St w0 q w3 (Lk' ++ M) → K (.tuple #[.int .i64 0, .int .i64 0]) w3)
    (hk : ∀ (a : Nat) q Lk' w3, ¬ 8388608 < s.length → certR st s = (a, none) → BAD q Lk' → St w0 q w3 (Lk' ++ M) → K (.tuple #[.int .i64 (a : Int), .int .i64 200]) w3) :
    oCall Tryd.prog Tryd.n_cert_whole #[.string (bs s), oneV f fb] w K := by
  refine Tryd.ok_cert_whole ?_
  unfold Tryd.F_cert_whole
  refine S.box fun b1 w1 S => ?_
  refine S.box fun b2 w2 S => ?_
  (repeat (first | refine s_p ?_ | refine s_c (by omega) ?_ | refine S.ld ?_ | refine S.ldB ?_ | refine S.ce ?_ | refine S.ceB ?_ | refine s_q ?_ | refine s_qc (by omega) ?_ | refine n_some ?_ | rw [List.getD_cons_zero] | rw [List.getD_cons_succ]))
  refine c_if (fun hl => ?_) (fun hl => ?_)
  · exact hlong _ (by omega) S.tl.tl
  have hl : ¬ 8388608 < s.length := by omega
  have S : StX noX w0 r w2 (.cell b2 [oneV f fb] _ :: .cell b1 [.string (bs s)] 9 :: (Lk ++ M)) := S
  have S := S.frz.frz
  (repeat (first | refine s_p ?_ | refine s_c (by omega) ?_ | refine S.ld ?_ | refine S.ldB ?_ | refine S.ce ?_ | refine S.ceB ?_ | refine s_q ?_ | refine s_qc (by omega) ?_ | refine n_some ?_ | rw [List.getD_cons_zero] | rw [List.getD_cons_succ]))
  refine c_cert_caught (A := fun q Lk' => ∃ b l, certR st s = (b, some l) ∧ INV l q Lk') (B := fun a q Lk' => certR st s = (a, none) ∧ BAD q Lk') S (fun M' w3 K3 Kp3 S hK hKp => ?_) (fun q Lk' w3 S hA => ?_) (fun a q Lk' w3 S hB => ?_)
  · refine vp_02 (by kernel_rfl) ?_
    refine c_whole_1 (INV := INV) (BAD := BAD) (st := st) S hs (one_blk.up) (Ob.up (r := one b2 [oneV f fb] 88) fun w k => (one_blk w k).cell 0) (h0 _ inferInstance) hb (hone _ inferInstance) (fun b l q Lk' w4 e4 hI S => ?_) (fun a q Lk' w4 e4 hB S => ?_)
    · exact hK q Lk' _ S ⟨b, l, e4, hI⟩
    · exact hKp a q Lk' _ S ⟨e4, hB⟩
  · obtain ⟨b, l, e4, hI⟩ := hA
    (repeat (first | refine s_p ?_ | refine s_c (by omega) ?_ | refine S.ld ?_ | refine S.ldB ?_ | refine S.ce ?_ | refine S.ceB ?_ | refine s_q ?_ | refine s_qc (by omega) ?_ | refine n_some ?_ | rw [List.getD_cons_zero] | rw [List.getD_cons_succ]))
    exact h b l q Lk' _ hl e4 hI S
  · (repeat (first | refine s_p ?_ | refine s_c (by omega) ?_ | refine S.ld ?_ | refine S.ldB ?_ | refine S.ce ?_ | refine S.ceB ?_ | refine s_q ?_ | refine s_qc (by omega) ?_ | refine n_some ?_ | rw [List.getD_cons_zero] | rw [List.getD_cons_succ]))
    exact hk a q Lk' _ hl hB.1 hB.2 S
end

end

end Go.Proofs
end

section
namespace Go.Proofs

open Go.Sh Go.BM

set_option maxRecDepth 100000

set_option linter.unusedSimpArgs false

set_option linter.unusedVariables false

/-- what Read tells: a certificate, a place, a number -/
def readC (s : List UInt8) : List FnD × Nat × Nat :=
  if 8388608 < s.length then ([], 0, 3) else match certR true s with
    | (_, some l) => (l.map FnR.fn, 0, 0)
    | (a, none) => ([], a, 200)
theorem fnO_lit {s t : Gh} {c : List Value} {f : FnD} (h : FnO s t c f) : bslT Tryd.prog 22 1 #[(0, Value.agg c.toArray)] = some (50, c) ∧ (∀ u ∈ c, u.oneCell' = true) ∧ c.length = 3 := by
  obtain ⟨a, b, d, rfl, g1, g2, g3⟩ := h
  obtain ⟨p1, c1, rfl, _⟩ := g1.shape
  obtain ⟨p2, c2, rfl, _⟩ := g2.shape
  obtain ⟨p3, c3, rfl, _⟩ := g3.shape
  exact ⟨by kernel_rfl, by simp [Value.oneCell'], rfl⟩
def RdInv (w0 : World) (b2 : Nat) (done : List FnR) (q : Gh) (L : List Asr) : Prop :=
  ∃ v xs sw sh, L = [.cell b2 [v] 24, .row v 50 3 done.length xs] ∧ (∀ b o, sw b o → q b o) ∧ (∀ b o, sh b o → q b o) ∧ Above w0 sw ∧ Above w0 sh ∧ WordsOnly sw ∧ NoWords sh ∧ RowOf 3 (FnO sh sw) xs (done.map FnR.fn)
def RdBad (b2 : Nat) (q : Gh) (L : List Asr) : Prop := ∃ v n xs, L = [.cell b2 [v] 24, .row v 50 3 n xs]
section

variable {w0 w : World} {r : Gh} {s : List UInt8} {K : Value → World → Prop} {Kp : List PanicEntry → World → Prop}

theorem c_Read_1 {b2 tb b : Nat} {done : List FnR} {q : Gh} {Lk M : List Asr} (hI : RdInv w0 b2 done q Lk) (S : St w0 q w (tkC tb s b :: (Lk ++ M))) (hs : s.length ≤ 1000000000) (hd : done.length ≤ 40)
    (h : ∀ x b' q' Lk' w3, rd (fnG true) s b = (b', some x) → b' ≤ s.length → RdInv w0 b2 (done ++ [x]) q' Lk' → Le q q' → St w0 q' w3 (tkC tb s b' :: (Lk' ++ M)) → K (.tuple #[]) w3)
    (hk : ∀ b' q' Lk' w3, rd (fnG true) s b = (b', none) → RdBad b2 q' Lk' → St w0 q' w3 (tkC tb s b' :: (Lk' ++ M)) → Kp (stuckA b') w3) :
    oCallP Tryd.prog Tryd.n_cert_Read_1 #[tkP tb, .pointer (some ⟨b2, 0, none⟩)] w K Kp := by
  refine Tryd.ok_cert_Read_1 ?_
  unfold Tryd.F_cert_Read_1
  have nf : ∀ {P : Prop}, false = true → P := fun h => by cases h
  obtain ⟨v, xs, sw, sh, rfl, lw, lh, aw, ah, ww, hh, hrows⟩ := hI
  have S := S.go (Ext.drew _)
  simp only [List.cons_append, List.nil_append] at S
  have fin : ∀ {c : List Value} {sh' sw' : Gh} {f : FnR} {b' : Nat} {w9 : World} {v' : Value}, rd (fnG true) s b = (b', some f) → b' ≤ s.length → Above w0 sw' → Above w0 sh' → WordsOnly sw' → NoWords sh' → FnO sh' sw' c f.fn →
      St w0 ((q.or sw').or sh') w9 (tkC tb s b' :: .cell b2 [v'] 24 :: .row v' 50 3 (done.length + 1) (xs ++ c) :: M) → K (.tuple #[]) w9 := by
    intro c sh' sw' f b' w9 v' e hb' a1 a2 h1 h2 hf S
    refine h f b' ((q.or sw').or sh') [_, _] _ e hb' ⟨v', xs ++ c, sw.or sw', sh.or sh', by rw [List.length_append]; rfl, ?_, ?_, aw.or' a1, ah.or' a2, ww.or h1, hh.or h2, ?_⟩ inferInstance S
    · exact fun b o hb => hb.elim (fun hb => .inl (.inl (lw b o hb))) fun hb => .inl (.inr hb)
    · exact fun b o hb => hb.elim (fun hb => .inl (.inl (lh b o hb))) .inr
    · rw [List.map_append]
      exact (hrows.mono fun _ _ h => h.up).snoc (fnO_lit hf).2.2 hf.up
  (first | refine s_p ?_ | refine s_c (by omega) ?_)
  constructor
  · refine w_q (S.ld ?_)
    refine c_tk_fn S hs (fun c sh' sw' f b' w1 e1 hb1 S a1 a2 h1 h2 hf => ?_) (fun b' w1 e1 S => ⟨nf, hk _ q [_, _] _ e1 ⟨_, _, _, rfl⟩ S⟩)
    obtain ⟨l1, l2, l3⟩ := fnO_lit hf
    refine S.lit l1 fun b9 w2 S => ?_
    refine S.ap (m' := 1) (Sl.blk (S.blk b9)) (fun v4 w3 S => ?_) (by omega) (hl := by omega) (h1 := l2)
    (first | refine s_p ?_ | refine s_c (by omega) ?_)
    refine S.st (h1 := S.row1 v4) fun w4 S => ?_
    exact fin e1 hb1 a1 a2 h1 h2 hf (S.drop b9)
  · refine c_tk_fn S hs (fun c sh' sw' f b' w1 e1 hb1 S a1 a2 h1 h2 hf => ?_) (fun b' w1 e1 S => ⟨nf, hk _ q [_, _] _ e1 ⟨_, _, _, rfl⟩ S⟩)
    obtain ⟨l1, l2, l3⟩ := fnO_lit hf
    constructor
    · refine w_q (S.ld ?_)
      refine S.lit l1 fun b9 w2 S => ?_
      refine S.ap (m' := 1) (Sl.blk (S.blk b9)) (fun v4 w3 S => ?_) (by omega) (hl := by omega) (h1 := l2)
      (first | refine s_p ?_ | refine s_c (by omega) ?_)
      refine S.st (h1 := S.row1 v4) fun w4 S => ?_
      exact fin e1 hb1 a1 a2 h1 h2 hf (S.drop b9)
    · refine S.lit l1 fun b9 w2 S => ?_
      refine w_q (S.ld ?_)
      refine S.ap (m' := 1) (Sl.blk (S.blk b9)) (fun v4 w3 S => ?_) (by omega) (hl := by omega) (h1 := l2)
      (first | refine s_p ?_ | refine s_c (by omega) ?_)
      refine S.st (h1 := S.row1 v4) fun w4 S => ?_
      exact fin e1 hb1 a1 a2 h1 h2 hf (S.drop b9)
theorem c_cert_Read (hr : Holds r w) (hs : s.length ≤ 1000000000)
    (h : ∀ v sh sw w', Ext w w' → New w sh w' → New w sw w' → WordsOnly sw → NoWords sh → CertO sh sw v (readC s).1 → K (.tuple #[v, .int .i64 ((readC s).2.1 : Int), .int .i64 ((readC s).2.2 : Int)]) w') :
    oCall Tryd.prog Tryd.n_cert_Read #[.string (bs s)] w K := by
  refine Tryd.ok_cert_Read ?_
  unfold Tryd.F_cert_Read
  have S := St.start hr
  refine S.al fun b2 w1 S => ?_
  have S := (S.ownNil 50 3).swap
  (first | refine s_p ?_ | refine s_c (by omega) ?_)
  have none_ : CertO nothing nothing (.agg #[.slice none 0 0]) [] := ⟨_, rfl, SlG.nil⟩
  refine c_cert_whole (st := true) (Lk := [_, _]) (M := []) (INV := RdInv w b2) (BAD := RdBad b2) (r := r) S hs (fun q le => ⟨_, [], nothing, nothing, rfl, fun b o h => h.elim, fun b o h => h.elim, .no, .no, .no, .no, .nil⟩) (fun done q L ⟨v, xs, sw, sh, e, _⟩ => ⟨v, _, xs, e⟩)
    (fun r' le M' done q Lk w2 tb b K2 Kp2 hI hd S hb hK hKp lq => ?_) (fun w2 hl S => ?_) (fun b l q Lk w2 hl e2 hI S => ?_) (fun a q Lk w2 hl e2 hB S => ?_)
  · refine vp_11 (by kernel_rfl) ?_
    exact c_Read_1 hI S hs (by omega) (fun x b' q' Lk' w3 e hb' hI' lq' S => hK x b' q' Lk' w3 e hb' hI' ⟨fun b o h => lq'.le b o (lq.le b o h)⟩ S) hKp
  · have e : readC s = ([], 0, 3) := by rw [readC, if_pos hl]
    rw [e] at h
    simp only [List.cons_append, List.nil_append] at S
    (repeat (first | refine s_p ?_ | refine s_c (by omega) ?_ | refine S.ld ?_ | refine S.ldB ?_ | refine S.ce ?_ | refine S.ceB ?_ | refine s_q ?_ | refine s_qc (by omega) ?_ | refine n_some ?_ | rw [List.getD_cons_zero] | rw [List.getD_cons_succ]))
    refine S.stB fun w3 S => ?_
    (repeat (first | refine s_p ?_ | refine s_c (by omega) ?_ | refine S.ld ?_ | refine S.ldB ?_ | refine S.ce ?_ | refine S.ceB ?_ | refine s_q ?_ | refine s_qc (by omega) ?_ | refine n_some ?_ | rw [List.getD_cons_zero] | rw [List.getD_cons_succ]))
    exact h _ nothing nothing _ S.ext New.nothing New.nothing .no .no none_
  · have e : readC s = (l.map FnR.fn, 0, 0) := by rw [readC, if_neg hl, e2]
    rw [e] at h
    obtain ⟨v, xs, sw, sh, rfl, lw, lh, aw, ah, ww, hh, hrows⟩ := hI
    simp only [List.cons_append, List.nil_append] at S
    (repeat (first | refine s_p ?_ | refine s_c (by omega) ?_ | refine S.ld ?_ | refine S.ldB ?_ | refine S.ce ?_ | refine S.ceB ?_ | refine s_q ?_ | refine s_qc (by omega) ?_ | refine n_some ?_ | rw [List.getD_cons_zero] | rw [List.getD_cons_succ]))
    have h1 := S.row1 v
    refine S.stB (h1 := by simpa using h1) fun w3 S => ?_
    (repeat (first | refine s_p ?_ | refine s_c (by omega) ?_ | refine S.ld ?_ | refine S.ldB ?_ | refine S.ce ?_ | refine S.ceB ?_ | refine s_q ?_ | refine s_qc (by omega) ?_ | refine n_some ?_ | rw [List.getD_cons_zero] | rw [List.getD_cons_succ]))
    have S := S.drop b2
    obtain ⟨s2, S, hsl, hc, ha⟩ := S.doneRow hrows (by decide) (by rw [List.length_map])
    refine h _ (sh.or s2) sw _ S.ext ⟨fun b o hb => S.holds b o (hb.elim (fun h => .inl (lh b o h)) .inr), ah.or' fun b o hb => (ha b o hb).resolve_right id⟩ ⟨fun b o hb => S.holds b o (.inl (lw b o hb)), aw⟩ ww (hh.or fun b o hb => by
      obtain ⟨c, rfl⟩ := hc b o hb; exact ⟨c, _, rfl, by decide⟩) ⟨v, rfl, hsl.up' inferInstance fun _ _ h => h.up⟩
  · have e : readC s = ([], a, 200) := by rw [readC, if_neg hl, e2]
    rw [e] at h
    obtain ⟨v, n, xs, rfl⟩ := hB
    simp only [List.cons_append, List.nil_append] at S
    (repeat (first | refine s_p ?_ | refine s_c (by omega) ?_ | refine S.ld ?_ | refine S.ldB ?_ | refine S.ce ?_ | refine S.ceB ?_ | refine s_q ?_ | refine s_qc (by omega) ?_ | refine n_some ?_ | rw [List.getD_cons_zero] | rw [List.getD_cons_succ]))
    refine S.stB fun w3 S => ?_
    (repeat (first | refine s_p ?_ | refine s_c (by omega) ?_ | refine S.ld ?_ | refine S.ldB ?_ | refine S.ce ?_ | refine S.ceB ?_ | refine s_q ?_ | refine s_qc (by omega) ?_ | refine n_some ?_ | rw [List.getD_cons_zero] | rw [List.getD_cons_succ]))
    exact h _ nothing nothing _ S.ext New.nothing New.nothing .no .no none_
end

end Go.Proofs
end

section
namespace Go.Proofs

open Go.Sh Go.BM

set_option maxRecDepth 100000

set_option linter.unusedSimpArgs false

set_option linter.unusedVariables false

/-- rows of no great length -/
def RwSm (l : List RowD) : Prop := l.length ≤ 1000000 ∧ ∀ x ∈ l, x.2.length ≤ 1000000
def FnSm (f : FnD) : Prop := RwSm f.rows ∧ RwSm f.ranges ∧ RwSm f.moves
theorem FnSm.len {f : FnD} (h : FnSm f) : FSm f := ⟨h.1.1, h.2.1.1, h.2.2.1⟩
theorem lit_row {s : Gh} {c : List Value} {x : RowD} (h : OwC s c x) : bslT Tryd.prog 48 1 #[(0, Value.agg c.toArray)] = some (Tryd.t_Row, c) ∧ (∀ u ∈ c, u.oneCell' = true) ∧ c.length = 2 := by
  obtain ⟨p, cap, rfl, _⟩ := h
  exact ⟨by kernel_rfl, by simp [Value.oneCell'], rfl⟩
theorem snoc_take {α : Type} {l : List α} {i : Nat} (h : i < l.length) : l.take (i + 1) = l.take i ++ [l[i]] := List.take_succ_eq_append_getElem h
section

variable {w0 w : World} {r : Gh} {L : List Asr} {v : Value} {l : List RowD} {c : List FnD} {K : Value → World → Prop}

theorem c_own_1 {cs : List Value} {x : RowD} (hr : Holds r w) (hR : RwC r cs x) (hm : May x.1 x.2) (h : ∀ c' sw w', Ext w w' → New w sw w' → WordsOnly sw → OwC sw c' x → K (.agg c'.toArray) w') :
    oCall Tryd.prog Tryd.n_cert_own_1 #[.agg cs.toArray] w K := by
  refine Tryd.ok_cert_own_1 ?_
  unfold Tryd.F_cert_own_1
  have S := St.start hr
  have hR' := hR
  obtain ⟨q, c2, rfl, _⟩ := hR'
  refine S.box fun b1 w1 S => ?_
  refine S.al fun b2 w2 S => ?_
  (repeat (first | refine s_p ?_ | refine s_c (by omega) ?_ | refine S.ld ?_ | refine S.ldB ?_ | refine S.ce ?_ | refine S.ceB ?_ | refine s_q ?_ | refine s_qc (by omega) ?_ | refine n_some ?_ | rw [List.getD_cons_zero] | rw [List.getD_cons_succ]))
  refine c_bits_OwnO (S.at hR.row) fun v' w3 e3 hf => ?_
  rw [ownO, RwO.pos hm] at hf ⊢
  obtain ⟨sw, n, m⟩ := hf.gh
  obtain ⟨p, cap, rfl⟩ := m.shape
  obtain ⟨S, _, ab⟩ := S.tell e3 n
  (repeat (first | refine s_p ?_ | refine s_c (by omega) ?_ | refine S.ld ?_ | refine S.ldB ?_ | refine S.ce ?_ | refine S.ceB ?_ | refine s_q ?_ | refine s_qc (by omega) ?_ | refine n_some ?_ | rw [List.getD_cons_zero] | rw [List.getD_cons_succ]))
  refine S.stB fun w4 S => ?_
  (repeat (first | refine s_p ?_ | refine s_c (by omega) ?_ | refine S.ld ?_ | refine S.ldB ?_ | refine S.ce ?_ | refine S.ceB ?_ | refine s_q ?_ | refine s_qc (by omega) ?_ | refine n_some ?_ | rw [List.getD_cons_zero] | rw [List.getD_cons_succ]))
  refine S.stB fun w5 S => ?_
  (repeat (first | refine s_p ?_ | refine s_c (by omega) ?_ | refine S.ld ?_ | refine S.ldB ?_ | refine S.ce ?_ | refine S.ceB ?_ | refine s_q ?_ | refine s_qc (by omega) ?_ | refine n_some ?_ | rw [List.getD_cons_zero] | rw [List.getD_cons_succ]))
  exact h [_, _] sw _ S.ext ⟨fun b o hb => S.holds b o (.inr hb), ab⟩ m.words m.ow
theorem c_cert_own (hr : Holds r w) (hv : RwsG r v l) (hs : RwSm l) (hm : ∀ x ∈ l, May x.1 x.2) (h : ∀ v' sh sw w', Ext w w' → New w sh w' → New w sw w' → WordsOnly sw → NoWords sh → RwsO sh sw v' l → K v' w') :
    oCall Tryd.prog Tryd.n_cert_own #[v] w K := by
  refine Tryd.ok_cert_own ?_
  unfold Tryd.F_cert_own
  refine Tryd.ok_cert_mapped_api_Row_api_Row ?_
  unfold Tryd.F_cert_mapped_api_Row_api_Row
  have hl := hs.1
  have hv0 := hv
  obtain ⟨p, cap, rfl, hp, hc⟩ := hv.shape
  (first | refine s_p ?_ | refine s_c (by omega) ?_)
  have S := (St.start hr).ownNil Tryd.t_Row 2
  refine l_intro (ι := Value × Nat) (fun i => [i.1, .int .i64 i.2])
    (fun i w' => ∃ xs sw, i.2 ≤ l.length ∧ St w (r.or sw) w' (.row i.1 Tryd.t_Row 2 i.2 xs :: []) ∧ Above w sw ∧ WordsOnly sw ∧ RowOf 2 (OwC sw) xs (l.take i.2))
    (fun i => l.length - i.2) (.slice none 0 0, 0) rfl ⟨[], nothing, Nat.zero_le _, S.new (Ext.refl _) New.nothing, .no, .no, .nil⟩ ?_
  clear S
  rintro ⟨v', i⟩ d w2 ⟨xs, sw, hi, S, hab, hwo, hrows⟩ K2 hK2
  simp only at hi S hrows ⊢
  simp only [List.getD_cons_zero, List.getD_cons_succ]
  (first | refine s_p ?_ | refine s_c (by omega) ?_)
  refine c_if (fun hlt => ?_) (fun hge => ?_)
  · have hlt : i < l.length := by omega
    obtain ⟨b, off, cap', n1, q1, c2, e, hR, hcell⟩ := rws_at hv0 hlt
    cases e
    (first | refine s_p ?_ | refine s_c (by omega) ?_)
    refine s_ldN (n := 2) rfl (fun j u hj => S.at (hcell j u hj)) ?_
    refine S.al fun b7 w3 S => ?_
    refine S.stB fun w4 S => ?_
    (repeat (first | refine s_p ?_ | refine s_c (by omega) ?_ | refine S.ld ?_ | refine S.ldB ?_ | refine S.ce ?_ | refine S.ceB ?_ | refine s_q ?_ | refine s_qc (by omega) ?_ | refine n_some ?_ | rw [List.getD_cons_zero] | rw [List.getD_cons_succ]))
    refine v_f10 (by kernel_rfl) ?_
    refine c_own_1 S.holds (RwC.up hR) (hm _ (List.getElem_mem hlt)) fun c' sw2 w5 e5 n5 hw2 how => ?_
    obtain ⟨S, _, ab⟩ := S.tell e5 n5
    have S := S.drop b7
    obtain ⟨l1, l2, l3⟩ := lit_row how
    refine S.lit l1 fun b9 w6 S => ?_
    refine S.ap (m' := 1) (Sl.blk (S.blk b9)) (fun v4 w7 S => ?_) (by omega) (hl := by omega) (h1 := l2)
    (first | refine s_p ?_ | refine s_c (by omega) ?_)
    refine hK2 (v4, i + 1) _ ⟨_, sw.or sw2, hlt, (S.drop b9).reGh, hab.or' ab, hwo.or hw2, ?_⟩ (by simp only; omega)
    rw [snoc_take hlt]
    exact (hrows.mono fun _ _ h => h.up).snoc l3 how.up
  · have hin : i = l.length := by omega
    subst hin
    rw [List.take_length] at hrows
    obtain ⟨s2, S, hsl, hcl, ha2⟩ := S.doneRow hrows (by decide) rfl
    exact h v' s2 sw _ S.ext ⟨fun b o hb => S.holds b o (.inr hb), fun b o hb => (ha2 b o hb).resolve_right id⟩ ⟨fun b o hb => S.holds b o (.inl (.inr hb)), hab⟩ hwo (fun b o hb => by
      obtain ⟨c, rfl⟩ := hcl b o hb; exact ⟨c, _, rfl, by decide⟩) hsl
theorem c_Own_1 {cs : List Value} {f : FnD} (hr : Holds r w) (hR : FnC r cs f) (hs : FnSm f) (hm : MayF f) (h : ∀ c' sh sw w', Ext w w' → New w sh w' → New w sw w' → WordsOnly sw → NoWords sh → FnO sh sw c' f → K (.agg c'.toArray) w') :
    oCall Tryd.prog Tryd.n_cert_Own_1 #[.agg cs.toArray] w K := by
  refine Tryd.ok_cert_Own_1 ?_
  unfold Tryd.F_cert_Own_1
  have S := St.start hr
  obtain ⟨x, y, z, rfl, g1, g2, g3⟩ := hR
  obtain ⟨p1, c1, rfl, _⟩ := g1.shape
  obtain ⟨p2, c2, rfl, _⟩ := g2.shape
  obtain ⟨p3, c3, rfl, _⟩ := g3.shape
  refine S.box fun b1 w1 S => ?_
  refine S.al fun b2 w2 S => ?_
  have S := S.go (Ext.drew _)
  (repeat (first | refine s_p ?_ | refine s_c (by omega) ?_ | refine S.ld ?_ | refine S.ldB ?_ | refine S.ce ?_ | refine S.ceB ?_ | refine s_q ?_ | refine s_qc (by omega) ?_ | refine n_some ?_ | rw [List.getD_cons_zero] | rw [List.getD_cons_succ]))
  refine c_cert_own S.holds g1 hs.1 (fun x hx => (hm.1.2 x hx).1) fun v1 h1 t1 w3 e3 n3 m3 a3 b3 r3 => ⟨e3, ?_⟩
  obtain ⟨S, _, u3⟩ := S.tell e3 (n3.or m3)
  refine c_cert_own S.holds g2.up hs.2.1 (fun x hx => (hm.2.1.2 x hx).1) fun v2 h2 t2 w4 e4 n4 m4 a4 b4 r4 => ⟨e4, ?_⟩
  obtain ⟨S, _, u4⟩ := S.tell e4 (n4.or m4)
  refine c_cert_own S.holds g3.up hs.2.2 (fun x hx => (hm.2.2.2 x hx).1) fun v3 h3 t3 w5 e5 n5 m5 a5 b5 r5 => ?_
  obtain ⟨S, _, u5⟩ := S.tell e5 (n5.or m5)
  obtain ⟨q1, k1, rfl, _⟩ := r3.shape
  obtain ⟨q2, k2, rfl, _⟩ := r4.shape
  obtain ⟨q3, k3, rfl, _⟩ := r5.shape
  (repeat (first | refine s_p ?_ | refine s_c (by omega) ?_ | refine S.ld ?_ | refine S.ldB ?_ | refine S.ce ?_ | refine S.ceB ?_ | refine s_q ?_ | refine s_qc (by omega) ?_ | refine n_some ?_ | rw [List.getD_cons_zero] | rw [List.getD_cons_succ]))
  refine S.stB fun w6 S => ?_
  (repeat (first | refine s_p ?_ | refine s_c (by omega) ?_ | refine S.ld ?_ | refine S.ldB ?_ | refine S.ce ?_ | refine S.ceB ?_ | refine s_q ?_ | refine s_qc (by omega) ?_ | refine n_some ?_ | rw [List.getD_cons_zero] | rw [List.getD_cons_succ]))
  exact h [_, _, _] (h1.or (h2.or h3)) (t1.or (t2.or t3)) _ S.ext (S.newOf (u3.fst.or' (u4.fst.or' u5.fst))) (S.newOf (u3.snd.or' (u4.snd.or' u5.snd))) (a3.or (a4.or a5)) (b3.or (b4.or b5)) ⟨_, _, _, rfl, r3.up, r4.up, r5.up⟩
theorem c_cert_Own (hr : Holds r w) (hv : CertG r v c) (hl : c.length ≤ 100) (hs : ∀ f ∈ c, FnSm f)
    (hno : ∀ w', ¬ MayC c → Ext w w' → K (.tuple #[.agg #[.slice none 0 0], .int .i64 2]) w')
    (h : ∀ v' sh sw w', MayC c → Ext w w' → New w sh w' → New w sw w' → WordsOnly sw → NoWords sh → CertO sh sw v' c → K (.tuple #[v', .int .i64 0]) w') :
    oCall Tryd.prog Tryd.n_cert_Own #[v] w K := by
  refine Tryd.ok_cert_Own ?_
  unfold Tryd.F_cert_Own
  have hv1 := hv
  obtain ⟨u, rfl, hu⟩ := hv
  have hu0 := hu
  obtain ⟨p, cap, rfl, hp, hc⟩ := hu.shape
  have S := St.start hr
  refine S.box fun b1 w1 S => ?_
  have S : St w r w1 (.cell b1 [.slice p c.length cap] 24 :: []) := S
  refine S.al fun b2 w2 S => ?_
  (repeat (first | refine s_p ?_ | refine s_c (by omega) ?_ | refine S.ld ?_ | refine S.ldB ?_ | refine S.ce ?_ | refine S.ceB ?_ | refine s_q ?_ | refine s_qc (by omega) ?_ | refine n_some ?_ | rw [List.getD_cons_zero] | rw [List.getD_cons_succ]))
  refine c_cert_May S.holds hv1 hl (fun f hf => (hs f hf).len) fun w3 e3 => ?_
  have S := S.go e3
  (first | refine s_p ?_ | refine s_c (by omega) ?_)
  refine c_b (fun hb => ?_) (fun hb => ?_)
  · have hb : ¬ MayC c := fun h => by rw [mayCB_iff.2 h] at hb; cases hb
    (repeat (first | refine s_p ?_ | refine s_c (by omega) ?_ | refine S.ld ?_ | refine S.ldB ?_ | refine S.ce ?_ | refine S.ceB ?_ | refine s_q ?_ | refine s_qc (by omega) ?_ | refine n_some ?_ | rw [List.getD_cons_zero] | rw [List.getD_cons_succ]))
    refine S.stB fun w4 S => ?_
    (repeat (first | refine s_p ?_ | refine s_c (by omega) ?_ | refine S.ld ?_ | refine S.ldB ?_ | refine S.ce ?_ | refine S.ceB ?_ | refine s_q ?_ | refine s_qc (by omega) ?_ | refine n_some ?_ | rw [List.getD_cons_zero] | rw [List.getD_cons_succ]))
    exact hno _ hb S.ext
  have hm : MayC c := mayCB_iff.1 (by simpa using hb)
  (repeat (first | refine s_p ?_ | refine s_c (by omega) ?_ | refine S.ld ?_ | refine S.ldB ?_ | refine S.ce ?_ | refine S.ceB ?_ | refine s_q ?_ | refine s_qc (by omega) ?_ | refine n_some ?_ | rw [List.getD_cons_zero] | rw [List.getD_cons_succ]))
  refine Tryd.ok_cert_mapped_api_FnCert_api_FnCert ?_
  unfold Tryd.F_cert_mapped_api_FnCert_api_FnCert
  (first | refine s_p ?_ | refine s_c (by omega) ?_)
  have S := S.ownNil 50 3
  refine l_intro (ι := Value × Nat) (fun i => [i.1, .int .i64 i.2])
    (fun i w' => ∃ xs sh sw, i.2 ≤ c.length ∧ St w (r.or (sh.or sw)) w' (.row i.1 50 3 i.2 xs :: .cell b2 [.slice none 0 0] 24 :: .cell b1 [.slice p c.length cap] 24 :: []) ∧ Above w sh ∧ Above w sw ∧ WordsOnly sw ∧ NoWords sh ∧ RowOf 3 (FnO sh sw) xs (c.take i.2))
    (fun i => c.length - i.2) (.slice none 0 0, 0) rfl ⟨[], nothing, nothing, Nat.zero_le _, S.new (Ext.refl _) (New.nothing.or New.nothing), .no, .no, .no, .no, .nil⟩ ?_
  clear S
  rintro ⟨v', i⟩ d w2 ⟨xs, sh, sw, hi, S, hab, haw, hwo, hno, hrows⟩ K2 hK2
  simp only at hi S hrows ⊢
  simp only [List.getD_cons_zero, List.getD_cons_succ]
  (first | refine s_p ?_ | refine s_c (by omega) ?_)
  refine c_if (fun hlt => ?_) (fun hge => ?_)
  · have hlt : i < c.length := by omega
    obtain ⟨b, off, cap', p1, n1, c1, p2, n2, c2, p3, n3, c3, e, g1, g2, g3, hcell⟩ := fns_at hu0 hlt
    cases e
    (first | refine s_p ?_ | refine s_c (by omega) ?_)
    refine s_ldN (n := 3) rfl (fun j u hj => S.at (hcell j u hj)) ?_
    refine S.al fun b7 w3 S => ?_
    refine S.stB fun w4 S => ?_
    (repeat (first | refine s_p ?_ | refine s_c (by omega) ?_ | refine S.ld ?_ | refine S.ldB ?_ | refine S.ce ?_ | refine S.ceB ?_ | refine s_q ?_ | refine s_qc (by omega) ?_ | refine n_some ?_ | rw [List.getD_cons_zero] | rw [List.getD_cons_succ]))
    refine v_f10 (by kernel_rfl) ?_
    refine c_Own_1 (cs := [_, _, _]) (f := c[i]) S.holds ⟨_, _, _, rfl, g1.up, g2.up, g3.up⟩ (hs _ (List.getElem_mem hlt)) (hm.2.2 _ (List.getElem_mem hlt)) fun c' sh2 sw2 w5 e5 n5 m5 hw2 hh2 hf => ?_
    obtain ⟨S, _, ab⟩ := S.tell e5 (n5.or m5)
    have S := S.drop b7
    obtain ⟨l1, l2, l3⟩ := fnO_lit hf
    refine S.lit l1 fun b9 w6 S => ?_
    refine S.ap (m' := 1) (Sl.blk (S.blk b9)) (fun v4 w7 S => ?_) (by omega) (hl := by omega) (h1 := l2)
    (first | refine s_p ?_ | refine s_c (by omega) ?_)
    refine hK2 (v4, i + 1) _ ⟨_, sh.or sh2, sw.or sw2, hlt, (S.drop b9).to _, hab.or' ab.fst, haw.or' ab.snd, hwo.or hw2, hno.or hh2, ?_⟩ (by simp only; omega)
    rw [snoc_take hlt]
    exact (hrows.mono fun _ _ h => h.up).snoc l3 hf.up
  · have hin : i = c.length := by omega
    subst hin
    rw [List.take_length] at hrows
    obtain ⟨p9, cap9, rfl, _⟩ := S.rowS v'
    (repeat (first | refine s_p ?_ | refine s_c (by omega) ?_ | refine S.ld ?_ | refine S.ldB ?_ | refine S.ce ?_ | refine S.ceB ?_ | refine s_q ?_ | refine s_qc (by omega) ?_ | refine n_some ?_ | rw [List.getD_cons_zero] | rw [List.getD_cons_succ]))
    refine S.stB fun w6 S => ?_
    (repeat (first | refine s_p ?_ | refine s_c (by omega) ?_ | refine S.ld ?_ | refine S.ldB ?_ | refine S.ce ?_ | refine S.ceB ?_ | refine s_q ?_ | refine s_qc (by omega) ?_ | refine n_some ?_ | rw [List.getD_cons_zero] | rw [List.getD_cons_succ]))
    obtain ⟨s2, S, hsl, hcl, ha2⟩ := S.doneRow hrows (by decide) rfl
    exact h _ (sh.or s2) sw _ hm S.ext (S.newOf (hab.or' fun b o hb => (ha2 b o hb).resolve_right id)) (S.newOf haw) hwo (hno.or fun b o hb => by
      obtain ⟨c, rfl⟩ := hcl b o hb; exact ⟨c, _, rfl, by decide⟩) ⟨_, rfl, hsl.up' inferInstance fun _ _ h => h.up⟩
/-! ### The document's -/

theorem c_ref20_rows (hr : Holds r w) (hv : RwsG r v l) (hs : RwSm l) (h : ∀ v' sn w', Ext w w' → New w sn w' → RwsG sn v' l → K v' w') :
    oCall Tryd.prog Tryd.n_ref20_rows #[v] w K := by
  refine Tryd.ok_ref20_rows ?_
  unfold Tryd.F_ref20_rows
  have hl := hs.1
  have hv0 := hv
  obtain ⟨p, cap, rfl, hp, hc⟩ := hv.shape
  have S := (St.start hr).ownNil Tryd.t_Row 2
  refine l_intro (ι := Value × Nat) (fun i => [i.1, .int .i64 i.2])
    (fun i w' => ∃ xs sw, i.2 ≤ l.length ∧ St w (r.or sw) w' (.row i.1 Tryd.t_Row 2 i.2 xs :: []) ∧ Above w sw ∧ RowOf 2 (RwC sw) xs (l.take i.2))
    (fun i => l.length - i.2) (.slice none 0 0, 0) rfl ⟨[], nothing, Nat.zero_le _, S.new (Ext.refl _) New.nothing, .no, .nil⟩ ?_
  clear S
  rintro ⟨v', i⟩ d w2 ⟨xs, sw, hi, S, hab, hrows⟩ K2 hK2
  simp only at hi S hrows ⊢
  simp only [List.getD_cons_zero, List.getD_cons_succ]
  (first | refine s_p ?_ | refine s_c (by omega) ?_)
  (first | refine s_p ?_ | refine s_c (by omega) ?_)
  refine c_if (fun hlt => ?_) (fun hge => ?_)
  · have hlt : i < l.length := by omega
    obtain ⟨b, off, cap', n1, q1, c2, e, hR, hcell⟩ := rws_at hv0 hlt
    cases e
    have hx := hs.2 _ (List.getElem_mem hlt)
    (first | refine s_p ?_ | refine s_c (by omega) ?_)
    refine s_ldN (n := 2) rfl (fun j u hj => S.at (hcell j u hj)) ?_
    refine c_ref01_Own (S.at hR.row) (by omega) fun v'' w5 e5 hf => ?_
    obtain ⟨sw2, n, m⟩ := hf.gh
    obtain ⟨p9, cap9, rfl⟩ := m.shape
    obtain ⟨S, _, ab⟩ := S.tell e5 n
    have how := m.ow
    obtain ⟨l1, l2, l3⟩ := lit_row how
    refine S.lit l1 fun b9 w6 S => ?_
    refine S.ap (m' := 1) (Sl.blk (S.blk b9)) (fun v4 w7 S => ?_) (by omega) (hl := by omega) (h1 := l2)
    (first | refine s_p ?_ | refine s_c (by omega) ?_)
    refine hK2 (v4, i + 1) _ ⟨_, sw.or sw2, hlt, (S.drop b9).reGh, hab.or' ab, ?_⟩ (by simp only; omega)
    rw [snoc_take hlt]
    exact (hrows.mono fun _ _ h => h.up).snoc l3 (RwC.up (OwC.row how))
  · have hin : i = l.length := by omega
    subst hin
    rw [List.take_length] at hrows
    obtain ⟨s2, S, hsl, hcl, ha2⟩ := S.doneRow hrows (by decide) rfl
    exact h v' (sw.or s2) _ S.ext (S.reGh.newOf (hab.or' fun b o hb => (ha2 b o hb).resolve_right id)) (hsl.up' inferInstance fun _ _ h => h.up)
theorem c_ref20_OwnFn {cs : List Value} {f : FnD} (hr : Holds r w) (hR : FnC r cs f) (hs : FnSm f) (h : ∀ c' sn w', Ext w w' → New w sn w' → FnC sn c' f → K (.agg c'.toArray) w') :
    oCall Tryd.prog Tryd.n_ref20_OwnFn #[.agg cs.toArray] w K := by
  refine Tryd.ok_ref20_OwnFn ?_
  unfold Tryd.F_ref20_OwnFn
  have S := St.start hr
  obtain ⟨x, y, z, rfl, g1, g2, g3⟩ := hR
  obtain ⟨p1, c1, rfl, _⟩ := g1.shape
  obtain ⟨p2, c2, rfl, _⟩ := g2.shape
  obtain ⟨p3, c3, rfl, _⟩ := g3.shape
  refine S.box fun b1 w1 S => ?_
  refine S.al fun b2 w2 S => ?_
  have S := S.go (Ext.drew _)
  (repeat (first | refine s_p ?_ | refine s_c (by omega) ?_ | refine S.ld ?_ | refine S.ldB ?_ | refine S.ce ?_ | refine S.ceB ?_ | refine s_q ?_ | refine s_qc (by omega) ?_ | refine n_some ?_ | rw [List.getD_cons_zero] | rw [List.getD_cons_succ]))
  refine c_ref20_rows S.holds g1 hs.1 fun v1 t1 w3 e3 n3 r3 => ⟨e3, ?_⟩
  obtain ⟨S, _, u3⟩ := S.tell e3 n3
  refine c_ref20_rows S.holds g2.up hs.2.1 fun v2 t2 w4 e4 n4 r4 => ⟨e4, ?_⟩
  obtain ⟨S, _, u4⟩ := S.tell e4 n4
  refine c_ref20_rows S.holds g3.up hs.2.2 fun v3 t3 w5 e5 n5 r5 => ?_
  obtain ⟨S, _, u5⟩ := S.tell e5 n5
  obtain ⟨q1, k1, rfl, _⟩ := r3.shape
  obtain ⟨q2, k2, rfl, _⟩ := r4.shape
  obtain ⟨q3, k3, rfl, _⟩ := r5.shape
  (repeat (first | refine s_p ?_ | refine s_c (by omega) ?_ | refine S.ld ?_ | refine S.ldB ?_ | refine S.ce ?_ | refine S.ceB ?_ | refine s_q ?_ | refine s_qc (by omega) ?_ | refine n_some ?_ | rw [List.getD_cons_zero] | rw [List.getD_cons_succ]))
  refine S.stB fun w6 S => ?_
  (repeat (first | refine s_p ?_ | refine s_c (by omega) ?_ | refine S.ld ?_ | refine S.ldB ?_ | refine S.ce ?_ | refine S.ceB ?_ | refine s_q ?_ | refine s_qc (by omega) ?_ | refine n_some ?_ | rw [List.getD_cons_zero] | rw [List.getD_cons_succ]))
  exact h [_, _, _] (t1.or (t2.or t3)) _ S.ext (S.newOf (u3.or' (u4.or' u5))) ⟨_, _, _, rfl, r3.up, r4.up, r5.up⟩
theorem c_ref20_Own (hr : Holds r w) (hv : CertG r v c) (hl : c.length ≤ 100) (hs : ∀ f ∈ c, FnSm f)
    (h : ∀ v' sn w', Ext w w' → New w sn w' → CertG sn v' c → K v' w') : oCall Tryd.prog Tryd.n_ref20_Own #[v] w K := by
  refine Tryd.ok_ref20_Own ?_
  unfold Tryd.F_ref20_Own
  obtain ⟨u, rfl, hu⟩ := hv
  have hu0 := hu
  obtain ⟨p, cap, rfl, hp, hc⟩ := hu.shape
  have S := St.start hr
  refine S.box fun b1 w1 S => ?_
  have S : St w r w1 (.cell b1 [.slice p c.length cap] 24 :: []) := S
  refine S.al fun b2 w2 S => ?_
  refine S.al fun b3 w3 S => ?_
  have S := S.ownNil 50 3
  refine l_intro (ι := Nat) (fun i => [.int .i64 i])
    (fun i w' => ∃ v' xs sn, i ≤ c.length ∧ St w (r.or sn) w' (.row v' 50 3 i xs :: .cell b3 [v'] 24 :: .cell b2 [.slice none 0 0] 24 :: .cell b1 [.slice p c.length cap] 24 :: []) ∧ Above w sn ∧ RowOf 3 (FnC sn) xs (c.take i))
    (fun i => c.length - i) 0 rfl ⟨.slice none 0 0, [], nothing, Nat.zero_le _, S.new (Ext.refl _) New.nothing, .no, .nil⟩ ?_
  clear S
  rintro i d w2 ⟨v', xs, sn, hi, S, hab, hrows⟩ K2 hK2
  simp only [List.getD_cons_zero]
  (repeat (first | refine s_p ?_ | refine s_c (by omega) ?_ | refine S.ld ?_ | refine S.ldB ?_ | refine S.ce ?_ | refine S.ceB ?_ | refine s_q ?_ | refine s_qc (by omega) ?_ | refine n_some ?_ | rw [List.getD_cons_zero] | rw [List.getD_cons_succ]))
  refine c_if (fun hlt => ?_) (fun hge => ?_)
  · have hlt : i < c.length := by omega
    obtain ⟨b, off, cap', p1, n1, c1, p2, n2, c2, p3, n3, c3, e, g1, g2, g3, hcell⟩ := fns_at hu0 hlt
    cases e
    have S := S.go (Ext.drew _)
    (repeat (first | refine s_p ?_ | refine s_c (by omega) ?_ | refine S.ld ?_ | refine S.ldB ?_ | refine S.ce ?_ | refine S.ceB ?_ | refine s_q ?_ | refine s_qc (by omega) ?_ | refine n_some ?_ | rw [List.getD_cons_zero] | rw [List.getD_cons_succ]))
    refine s_ldN (n := 3) rfl (fun j u hj => S.at (hcell j u hj)) ?_
    refine c_ref20_OwnFn (cs := [_, _, _]) (f := c[i]) S.holds ⟨_, _, _, rfl, g1.up, g2.up, g3.up⟩ (hs _ (List.getElem_mem hlt)) fun c' sn2 w5 e5 n5 hf => ⟨e5, ?_⟩
    obtain ⟨S, _, ab⟩ := S.tell e5 n5
    obtain ⟨x, y, z, rfl, g1, g2, g3⟩ := hf
    obtain ⟨q1, k1, rfl, _⟩ := g1.shape
    obtain ⟨q2, k2, rfl, _⟩ := g2.shape
    obtain ⟨q3, k3, rfl, _⟩ := g3.shape
    refine S.litU (e := 50) (cs := [.slice q1 c[i].rows.length k1, .slice q2 c[i].ranges.length k2, .slice q3 c[i].moves.length k3]) (by kernel_rfl) fun b9 w6 S => ?_
    refine S.ap (m' := 1) (Sl.blk (S.blk b9)) (fun v4 w7 S => ?_) (by omega) (hl := rfl)
    (first | refine s_p ?_ | refine s_c (by omega) ?_)
    refine S.st (h1 := S.row1 v4) fun w8 S => ?_
    (first | refine s_p ?_ | refine s_c (by omega) ?_)
    refine hK2 (i + 1) _ ⟨v4, _, sn.or sn2, hlt, (S.drop b9).reGh, hab.or' ab, ?_⟩ (by omega)
    rw [snoc_take hlt]
    exact (hrows.mono fun _ _ h => h.up).snoc rfl ⟨_, _, _, rfl, g1.up, g2.up, g3.up⟩
  · have hin : i = c.length := by omega
    subst hin
    rw [List.take_length] at hrows
    have h1 := S.row1 v'
    (repeat (first | refine s_p ?_ | refine s_c (by omega) ?_ | refine S.ld ?_ | refine S.ldB ?_ | refine S.ce ?_ | refine S.ceB ?_ | refine s_q ?_ | refine s_qc (by omega) ?_ | refine n_some ?_ | rw [List.getD_cons_zero] | rw [List.getD_cons_succ]))
    refine S.stB (cs := #[v']) (h1 := by simpa using h1) fun w6 S => ?_
    (repeat (first | refine s_p ?_ | refine s_c (by omega) ?_ | refine S.ld ?_ | refine S.ldB ?_ | refine S.ce ?_ | refine S.ceB ?_ | refine s_q ?_ | refine s_qc (by omega) ?_ | refine n_some ?_ | rw [List.getD_cons_zero] | rw [List.getD_cons_succ]))
    obtain ⟨s2, S, hsl, hcl, ha2⟩ := S.doneRow hrows (by decide) rfl
    exact h _ (sn.or s2) _ S.ext (S.reGh.newOf (hab.or' fun b o hb => (ha2 b o hb).resolve_right id)) ⟨v', rfl, hsl.up' inferInstance fun _ _ h => h.up⟩
end

end Go.Proofs
end

section
namespace Go.Sh
open Go.RowKit
set_option linter.unusedVariables false
set_option linter.unusedSimpArgs false
/-- a row, marked or not, that begins with these -/
def MrkQ (e : TypeId) (n cap : Nat) (xs : List Value) (o : Obj) : Prop :=
  ∃ (cur : Array Value) (fz : Nat × Nat), o = .cells cur e fz ∧ (fz.2 = 0 ∨ cur.size ≤ fz.1) ∧ n ≤ cap ∧ cap ≤ maxLen ∧ cur.size = cap ∧ cur.toList.take n = xs
abbrev mrk (g : Nat) (e : TypeId) (n cap : Nat) (xs : List Value) : Asr := .obj g (MrkQ e n cap xs)
theorem run_storeCells_M (P : Program) (g o : Nat) (t : TypeId) (fz : Nat × Nat) : ∀ (vs : List Value) (i : Nat) (cur : Array Value) (w : World), w.heap[g]? = some (.cells cur t fz) → (fz.2 = 0 ∨ cur.size ≤ fz.1) → o + i + vs.length ≤ cur.size → (∀ v ∈ vs, v.oneCell' = true) →
    (storeCells ⟨g, o, none⟩ vs i).run P w = .ok () (w.setRow g (cur.toList.take (o + i) ++ vs ++ cur.toList.drop (o + i + vs.length)).toArray)
  | [], i, cur, w, hg, _, _, _ => by
    simp only [storeCells, List.append_nil, List.length_nil, Nat.add_zero, List.take_append_drop, Array.toArray_toList]
    rw [setRow_self w g cur t fz hg]
    rfl
  | v :: rest, i, cur, w, hg, hfz, hl, h1 => by
    have hi : o + i < cur.size := by simp at hl; omega
    have hadd : (⟨g, o, none⟩ : Addr).add i = ⟨g, o + i, none⟩ := by unfold Addr.add; split <;> simp_all
    have hcell : w.cell? ⟨g, o + i, none⟩ = some cur[o + i] := by simp [World.cell?, hg, hi]
    have hfro : w.frozen? ⟨g, o + i, none⟩ = false := by
      obtain ⟨lo, hi'⟩ := fz
      simp only [World.frozen?, hg, Bool.and_eq_false_iff, decide_eq_false_iff_not]
      simp only at hfz
      omega
    have hst : (store ((⟨g, o, none⟩ : Addr).add i) v).run P w = .ok () (w.setRow g (cur.setIfInBounds (o + i) v)) := by
      rw [hadd, run_store P w _ v _ (h1 v (by simp)), hcell]
      simp [hfro, setCell_eq_setRow w g (o + i) cur t fz v hg]
    have ih := run_storeCells_M P g o t fz rest (i + 1) (cur.setIfInBounds (o + i) v) (w.setRow g (cur.setIfInBounds (o + i) v)) (setRow_heap w g cur _ t _ hg) (by simpa using hfz) (by simp at hl ⊢; omega) (fun x hx => h1 x (by simp [hx]))
    simp only [storeCells, Sem.run_bind, hst, Result.andThen_ok, ih, setRow_setRow]
    congr 3
    have e := list_seg_step cur.toList (o + i) v rest (by simp at hl ⊢; omega)
    simpa [Array.toList_setIfInBounds, Nat.add_assoc] using e
section
variable {P : Program} {X : Nat → Prop} {w0 w : World} {r : Gh} {L : List Asr} {t u e ty : TypeId} {g n cap : Nat} {xs : List Value}
theorem mrk_has (S : StX X w0 r w (mrk g e n cap xs :: L)) : ∃ (cur : Array Value) (fz : Nat × Nat), w.heap[g]? = some (.cells cur e fz) ∧ (fz.2 = 0 ∨ cur.size ≤ fz.1) ∧ n ≤ cap ∧ cap ≤ maxLen ∧ cur.size = cap ∧ cur.toList.take n = xs := by
  obtain ⟨o, h1, _, cur, fz, rfl, h2⟩ := S.has _ (List.mem_cons_self ..)
  exact ⟨cur, fz, h1, h2⟩
theorem mrk_len (S : StX X w0 r w (mrk g e n cap xs :: L)) : xs.length = n ∧ n ≤ cap := by
  obtain ⟨cur, fz, h1, h2, h3, h4, h5, rfl⟩ := mrk_has S
  rw [List.length_take, Array.length_toList]; omega
theorem mrk_sl (S : StX X w0 r w (mrk g e n cap xs :: L)) : Sl w (some ⟨g, 0, none⟩) xs := by
  obtain ⟨cur, fz, h1, h2, h3, h4, h5, rfl⟩ := mrk_has S
  intro i v hv
  rw [List.getElem?_take] at hv
  split at hv
  · refine ⟨g, 0, rfl, ?_⟩
    rw [Nat.zero_add]
    simp only [World.cell?, h1]
    simpa using hv
  · cases hv
/-- .. what follows a store into it, or a new one -/
theorem mrk_set (S : StX X w0 r w (mrk g e n cap xs :: L)) {cur : Array Value} {fz : Nat × Nat} (hg : w.heap[g]? = some (.cells cur e fz)) (hfz : fz.2 = 0 ∨ cur.size ≤ fz.1) (hc : cur.size = cap) (hm : cap ≤ maxLen) (ht : cur.toList.take n = xs) (hn : n ≤ cap)
    {news : List Value} {m : Nat} (hl : news.length = m) (hroom : n + m ≤ cap) :
    StX X w0 r (w.setRow g (cur.toList.take n ++ news ++ cur.toList.drop (n + m)).toArray) (mrk g e (n + m) cap (xs ++ news) :: L) := by
  refine S.turn (p := []) (x := mrk g e n cap xs) (y := mrk g e (n + m) cap (xs ++ news)) ⟨rfl, rfl, rfl, by simp, fun k hk hne => setRow_other _ _ _ _ hne⟩ ?_ fun k hk => .inl hk
  have hsz : (cur.toList.take n ++ news ++ cur.toList.drop (n + m)).length = cap := by
    simp only [List.length_append, List.length_take, List.length_drop, Array.length_toList]; omega
  refine ⟨_, setRow_heap w g cur _ e _ hg, rfl, _, fz, rfl, ?_, hroom, hm, by simpa using hsz, ?_⟩
  · rw [List.size_toArray, hsz]; omega
  · rw [ht]
    have : (xs ++ news).length = n + m := by rw [List.length_append, hl, ← ht, List.length_take, Array.length_toList]; omega
    rw [← this]
    exact List.take_left
theorem mrk_new (S : StX X w0 r w (mrk g e n cap xs :: L)) {cs : Array Value} {ys : List Value} {k cap' : Nat} (hk : k ≤ cap') (hm : cap' ≤ maxLen) (hc : cs.size = cap') (ht : cs.toList.take k = ys) :
    StX X w0 r (w.drew.alloc (.cells cs e)) (mrk w.heap.size e k cap' ys :: L) := by
  refine S.turn (p := []) (x := mrk g e n cap xs) (y := mrk w.heap.size e k cap' ys) ⟨rfl, rfl, rfl, by simp, fun k hk hne => heap_alloc_old w.drew _ k hk⟩ ?_ fun k hk => .inr (by cases hk; exact Nat.le_refl _)
  exact ⟨_, heap_alloc_new w.drew _, rfl, cs, (0, 0), rfl, .inl rfl, hk, hm, hc, ht⟩
/-- what is asked of a slice of bytes -/
class BzT (P : Program) (t : TypeId) (e : outParam TypeId) : Prop where
  h : P.underlying t = some (.slice e) ∧ P.underlying e = some (.int .u8) ∧ ∃ i, P.info? e = some i ∧ i.zero = some (.int .u8 0) ∧ i.size = 1 ∧ i.bytes = 1
/-- bytes of a text behind it -/
theorem StX.apMs (S : StX X w0 r w (mrk g e n cap xs :: L)) [h : BzT P t e] [hu : StrT P u] {s : ByteArray} {K : Value → World → Prop} (hb : n + s.size ≤ 140737488355328)
    (k : ∀ g' cap' w', StX X w0 r w' (mrk g' e (n + s.size) cap' (xs ++ Lib.strCells s) :: L) → K (.slice (some ⟨g', 0, none⟩) (n + s.size) cap') w') :
    opW P w (Builtin.append_ #[t, u] ty #[.slice (some ⟨g, 0, none⟩) n cap, .string s]) K := by
  obtain ⟨ht, he, i, hi, hz, hs1, hb1⟩ := h.h
  have hut := strT_spec hu.h
  obtain ⟨cur, fz, hg, hfz, hn, hm, hc, htk⟩ := mrk_has S
  obtain ⟨hxl, _⟩ := mrk_len S
  have hf := Lib.run_firstCells_string (P := P) w 1 s
  by_cases hroom : n + s.size ≤ cap
  · have hst := run_storeCells_M P g n e fz (Lib.strCells s) 0 cur w hg hfz (by rw [Lib.strCells_length]; omega) (Lib.strCells_oneCell s)
    simp only [Nat.add_zero, Lib.strCells_length] at hst
    refine ⟨_, _, ?_, k g cap _ (mrk_set S hg hfz hc hm htk hn (Lib.strCells_length s) hroom)⟩
    simp [Builtin.append_, run_underlying ht, run_underlying hut, Go.sizeOf, typeInfo, hi, hs1, Builtin.lenOf, hroom, hf, Addr.add_lit, hst]
  · have hr := Lib.run_append_grow_string (P := P) w t u ty e i (.int .u8 0) ht hut hi hz ⟨g, 0, none⟩ n cap xs (by rw [hs1]; omega) (fun j v hj => by
      obtain ⟨b, off, hp, hcl⟩ := mrk_sl S j v hj
      cases hp; rw [addr_add']; simpa using hcl) s (by omega) (by omega) (by rw [hb1]; exact growslice_fits (by omega) (by omega))
    refine ⟨_, _, hr, k _ _ _ (mrk_new S (grownCap_ge w (n + s.size) cap e) (grownCap_le_maxLen w (n + s.size) cap e (by unfold maxLen; omega)) ?_ ?_)⟩
    · have hge := grownCap_ge w (n + s.size) cap e
      have hz1 : (Value.int IntKind.u8 0).cells.size = 1 := rfl
      simp only [Array.size_append, List.size_toArray, size_zeroCells, hz1, hxl, Lib.strCells_length]
      omega
    · have : (xs ++ Lib.strCells s).length = n + s.size := by rw [List.length_append, hxl, Lib.strCells_length]
      simp only [Array.toList_append, List.append_assoc]
      rw [← List.append_assoc, ← this]
      exact List.take_left
/-- .. a slice's -/
theorem StX.apMb (S : StX X w0 r w (mrk g e n cap xs :: L)) [h : BzT P t e] {p : Option Addr} {m c : Nat} {news : List Value} {K : Value → World → Prop} (hs : Sl w p news) (hl : news.length = m) (h0 : 0 < m) (h1 : ∀ u ∈ news, u.oneCell' = true) (hb : n + m ≤ 140737488355328)
    (k : ∀ g' cap' w', StX X w0 r w' (mrk g' e (n + m) cap' (xs ++ news) :: L) → K (.slice (some ⟨g', 0, none⟩) (n + m) cap') w') :
    opW P w (Builtin.append_ #[t, t] ty #[.slice (some ⟨g, 0, none⟩) n cap, .slice p m c]) K := by
  obtain ⟨ht, he, i, hi, hz, hs1, hb1⟩ := h.h
  obtain ⟨cur, fz, hg, hfz, hn, hm, hc, htk⟩ := mrk_has S
  obtain ⟨hxl, _⟩ := mrk_len S
  obtain ⟨b0, off0, rfl, _⟩ := hs 0 news[0] (List.getElem?_eq_getElem (by omega))
  have hnews : ∀ j u, news[j]? = some u → w.cell? ((⟨b0, off0, none⟩ : Addr).add j) = some u := fun j u hj => by
    obtain ⟨b, off, hp, hcl⟩ := hs j u hj
    cases hp; rw [addr_add']; exact hcl
  by_cases hroom : n + m ≤ cap
  · have hf := run_firstCells_some (P := P) w i.size m ⟨b0, off0, none⟩ m c news (by rw [hs1]; omega) hnews
    have hst := run_storeCells_M P g n e fz news 0 cur w hg hfz (by omega) h1
    simp only [Nat.add_zero, hl] at hst
    refine ⟨_, _, ?_, k g cap _ (mrk_set S hg hfz hc hm htk hn hl hroom)⟩
    rw [hs1] at hf
    simp [Builtin.append_, run_underlying ht, Go.sizeOf, typeInfo, hi, hs1, Builtin.lenOf, hroom, hf, Addr.add_lit, hst]
  · have hr := run_append_grow (P := P) w t ty e i (.int .u8 0) ht hi hz ⟨g, 0, none⟩ n cap xs (by rw [hs1]; omega) (fun j v hj => by
      obtain ⟨b, off, hp, hcl⟩ := mrk_sl S j v hj
      cases hp; rw [addr_add']; simpa using hcl) ⟨b0, off0, none⟩ m c news (by rw [hs1]; omega) hnews (by omega) (by omega) (by rw [hb1]; exact growslice_fits (by omega) (by omega))
    refine ⟨_, _, hr, k _ _ _ (mrk_new S (grownCap_ge w (n + m) cap e) (grownCap_le_maxLen w (n + m) cap e (by unfold maxLen; omega)) ?_ ?_)⟩
    · have hge := grownCap_ge w (n + m) cap e
      have hz1 : (Value.int IntKind.u8 0).cells.size = 1 := rfl
      simp only [Array.size_append, List.size_toArray, size_zeroCells, hz1, hxl, hl]
      omega
    · have : (xs ++ news).length = n + m := by rw [List.length_append, hxl, hl]
      simp only [Array.toList_append, List.append_assoc]
      rw [← List.append_assoc, ← this]
      exact List.take_left
theorem StX.addObj {w' : World} {Q : Obj → Prop} {o : Obj} (S : StX X w0 r w L) (e : Ext w w') {b : Nat} (hb : w.heap.size ≤ b) (ho : w'.heap[b]? = some o) (hbk : Obj.isBook o = false) (hQ : Q o) : StX X w0 r w' (.obj b Q :: L) := by
  have S' := S.go e
  refine ⟨S'.x, S'.holds, ?_, ?_, .cons ?_ S'.apart⟩
  · intro x hx; rcases List.mem_cons.1 hx with rfl | hx
    · exact ⟨o, ho, hbk, hQ⟩
    · exact S'.has x hx
  · intro x hx; rcases List.mem_cons.1 hx with rfl | hx
    · rintro k rfl
      exact ⟨.inl (by have := S.x.size; omega), fun o ho => by have := S.holds.lt ho; omega⟩
    · exact S'.mine x hx
  · rintro y hy k rfl hk
    have := Asr.lt (S.has y hy) hk; omega
/-- a text's bytes -/
theorem StX.cvM (S : StX X w0 r w L) [h : BzT P t e] [hu : StrT P u] {s : ByteArray} {K : Value → World → Prop} (hb : s.size ≤ 140737488355328)
    (k : ∀ g' cap' w', StX X w0 r w' (mrk g' e s.size cap' (Lib.strCells s) :: L) → Ext w w' → K (.slice (some ⟨g', 0, none⟩) s.size cap') w') :
    opW P w (convert u t (.string s)) K := by
  obtain ⟨ht, he, i, hi, hz, hs1, hb1⟩ := h.h
  have hut := strT_spec hu.h
  have hr := Lib.run_convert_string_bytes (P := P) w u t e s hut ht he
  have E : Ext w (Lib.bytesWorld w e s) := by
    refine ⟨?_, ?_, ?_, by rw [Lib.bytesWorld_size]; omega, fun j hj => Lib.bytesWorld_at_old w e s j hj⟩
    all_goals (unfold Lib.bytesWorld World.freeze; split <;> rfl)
  have hge := grownCap_ge w s.size 0 e
  refine ⟨_, _, hr, k _ _ _ (S.addObj E (Nat.le_refl _) (Lib.bytesWorld_at_new w e s) rfl ⟨_, _, rfl, .inr (Nat.le_refl _), hge, grownCap_le_maxLen w s.size 0 e (by unfold maxLen; omega), ?_, ?_⟩) E⟩
  · rw [Lib.bytesCells, Array.size_append, Array.size_map, Array.size_replicate, show s.data.size = s.size from rfl]
    omega
  · rw [Lib.bytesCells, Array.toList_append]
    have : (s.data.map fun b => Value.int .u8 b.toNat).toList = Lib.strCells s := by simp [Lib.strCells]
    rw [this, ← Lib.strCells_length s]
    exact List.take_left
theorem bzT_of (h1 : P.underlying t = some (.slice e)) (h2 : P.underlying e = some (.int .u8)) (h3 : (P.info? e).map (fun i => (i.zero, i.size, i.bytes)) = some (some (.int .u8 0), 1, 1)) : BzT P t e := ⟨h1, h2, by
  simp only [Option.map_eq_some_iff, Prod.mk.injEq] at h3
  obtain ⟨i, h3, h4, h5, h6⟩ := h3
  exact ⟨i, h3, h4, h5, h6⟩⟩
/-- cells of bytes -/
def cellsB (l : List UInt8) : List Value := l.map fun b => .int .u8 (b.toNat : Int)
theorem strCells_bs (l : List UInt8) : Lib.strCells (bs l) = cellsB l := by simp [Lib.strCells, cellsB, bs]
theorem cellsB_len (l : List UInt8) : (cellsB l).length = l.length := by simp [cellsB]
theorem cellsB_app (l m : List UInt8) : cellsB (l ++ m) = cellsB l ++ cellsB m := by simp [cellsB]
theorem cellsB_one (l : List UInt8) : ∀ u ∈ cellsB l, u.oneCell' = true := by
  intro u hu
  simp only [cellsB, List.mem_map] at hu
  obtain ⟨b, _, rfl⟩ := hu; rfl
class PullO (g : Nat) (L : List Asr) (Q : outParam (Obj → Prop)) (M : outParam (List Asr)) : Prop where
  h : L.Perm (.obj g Q :: M)
instance {g : Nat} {Q : Obj → Prop} {L : List Asr} : PullO g (.obj g Q :: L) Q L := ⟨.refl _⟩
instance (priority := low) {g : Nat} {Q : Obj → Prop} {x : Asr} {L M : List Asr} [h : PullO g L Q M] : PullO g (x :: L) Q (x :: M) := ⟨(h.h.cons x).trans (.swap _ _ _)⟩
theorem StX.pullO (S : StX X w0 r w L) (g : Nat) {Q : Obj → Prop} {M : List Asr} [h : PullO g L Q M] : StX X w0 r w (.obj g Q :: M) := S.permO h.h.symm
/-- the bytes as a text -/
theorem mrk_str {s d : TypeId} {l : List UInt8} {K : Value → Prop} (S : StX X w0 r w (mrk g e n cap (cellsB l) :: L)) (hs : bytT P s = true) (hd : strT P d = true) (k : K (.string (bs l))) : opQ P w (convert s d (.slice (some ⟨g, 0, none⟩) n cap)) K := by
  obtain ⟨h1, h2⟩ := mrk_len S
  rw [cellsB_len] at h1
  subst h1
  exact q_str hs hd (mrk_sl S) k
/-- a constant text's bytes: a slice, turned into its own type -/
theorem StX.cvSl {b m : Nat} {cs : List Value} (S : StX X w0 r w (.cell b cs e :: L)) [h : BzT P t e] {K : Value → World → Prop} (hn : cs.length = n) (hm : n ≤ maxLen)
    (k : ∀ w', StX X w0 r w' (mrk b e n n cs :: L) → K (.slice (some ⟨b, 0, none⟩) m n) w') : opW P w (convert t t (.slice (some ⟨b, 0, none⟩) m n)) K := by
  obtain ⟨ht, he, i, hi, hz, hs1, hb1⟩ := h.h
  have B : Blk w b cs e := S.has _ (List.mem_cons_self ..)
  have hsh : w.shape? b = some (e, n) := by
    unfold World.shape?; rw [B]; simp [hn]
  refine ⟨_, w.freeze ⟨b, n, none⟩ 1, by simp [convert, run_underlying ht, run_underlying he, markStringish, hsh], k _ ?_⟩
  have hb := Blk.lt B
  have hw : (w.freeze ⟨b, n, none⟩ 1).heap[b]? = some (.cells cs.toArray e (n, n + 1)) := by
    unfold World.freeze
    rw [if_neg (by decide)]
    have hB : w.heap[b] = .cells cs.toArray e (0, 0) := by
      have := B; unfold Blk at this; rw [Array.getElem?_eq_getElem hb] at this; exact Option.some.inj this
    simp [hb]
    rw [Array.getElem_modify_self, hB]
    simp
  refine S.turn (p := []) (x := .cell b cs e) (y := mrk b e n n cs) ⟨?_, ?_, ?_, ?_, fun j hj hne => ?_⟩ ⟨_, hw, rfl, _, _, rfl, .inr (by simp [hn]), Nat.le_refl _, hm, by simpa using hn, by rw [List.toList_toArray, ← hn, List.take_length]⟩ fun j hj => .inl (by cases hj; rfl)
  all_goals unfold World.freeze; rw [if_neg (by decide)]
  · simp
  · have : b ≠ j := fun hh => hne hh.symm
    simp [Array.getElem?_modify, this]
end
end Go.Sh
end

section
namespace Go.Proofs

open Go.Sh Go.BM

set_option maxRecDepth 100000

set_option linter.unusedSimpArgs false

set_option linter.unusedVariables false

instance : BzT Tryd.prog 57 5 := bzT_of (by kernel_rfl) (by kernel_rfl) (by kernel_rfl)
theorem wrap8 (n : Nat) : IntKind.u8.wrap (n : Int) = ((UInt8.ofNat n).toNat : Int) := by
  rw [IntKind.wrap_u8, UInt8.toNat_ofNat']; omega
/-- the row of bytes and the cell that holds it -/
abbrev byL (b4 g cap : Nat) (l : List UInt8) (L : List Asr) : List Asr := mrk g 5 l.length cap (cellsB l) :: .cell b4 [.slice (some ⟨g, 0, none⟩) l.length cap] 57 :: L
/-- a function's lists, one by one -/
def lsAt (f : FnD) (k : Nat) : List RowD := if k = 0 then f.rows else if k = 1 then f.ranges else f.moves
def upTo (f : FnD) : Nat → List UInt8
  | 0 => []
  | k + 1 => upTo f k ++ listB (lsAt f k)
theorem upTo_all (f : FnD) : upTo f 3 = fnB f := by simp [upTo, lsAt, fnB]
theorem lsAt_good {f : FnD} (h : MayF f) (k : Nat) : GoodL (lsAt f k) 512 := by
  unfold lsAt
  split
  · exact h.1
  · split
    · exact ⟨by have := h.2.1.1; omega, h.2.1.2⟩
    · exact ⟨by have := h.2.2.1; omega, h.2.2.2⟩
theorem rowB_le {x : RowD} (h : May x.1 x.2) : (rowB x).length ≤ 130 := by
  rw [rowB_len]; have := h.2.1; omega
theorem rowsB_le : ∀ (l : List RowD), (∀ x ∈ l, May x.1 x.2) → (rowsB l).length ≤ 130 * l.length
  | [], _ => Nat.le_refl _
  | x :: l, h => by
    rw [rowsB, List.length_append, List.length_cons]
    have := rowB_le (h x List.mem_cons_self)
    have := rowsB_le l fun y hy => h y (List.mem_cons_of_mem _ hy)
    omega
theorem rowsB_app (l m : List RowD) : rowsB (l ++ m) = rowsB l ++ rowsB m := by
  induction l with
  | nil => rfl
  | cons x l ih => rw [List.cons_append, rowsB, ih, rowsB, List.append_assoc]
theorem listB_le {l : List RowD} (h : GoodL l 512) : (listB l).length ≤ 70000 := by
  have := rowsB_le l fun x hx => (h.2 x hx).1
  have := h.1
  simp only [listB, List.length_append, two, List.length_cons, List.length_nil]
  omega
theorem upTo_le {f : FnD} (h : MayF f) : ∀ k, (upTo f k).length ≤ 70000 * k
  | 0 => Nat.le_refl _
  | k + 1 => by
    rw [upTo, List.length_append]
    have := upTo_le h k
    have := listB_le (lsAt_good h k)
    omega
theorem fnsB_app (c d : List FnD) : fnsB (c ++ d) = fnsB c ++ fnsB d := by
  induction c with
  | nil => rfl
  | cons x l ih => rw [List.cons_append, fnsB, ih, fnsB, List.append_assoc]
section

variable {w0 w : World} {r : Gh} {L : List Asr} {v : Value} {c : List FnD} {K : Value → World → Prop} {b4 g cap : Nat} {l : List UInt8}

theorem c_Bytes_two {n : Nat} (S : St w0 r w (byL b4 g cap l L)) (hn : n < 65536) (hl : l.length ≤ 140000000000000) (h : ∀ g' cap' w', St w0 r w' (byL b4 g' cap' (l ++ two n) L) → K (.tuple #[]) w') :
    oCall Tryd.prog Tryd.n_cert_Bytes_1 #[.int .i64 (n : Nat), .pointer (some ⟨b4, 0, none⟩)] w K := by
  refine Tryd.ok_cert_Bytes_1 ?_
  unfold Tryd.F_cert_Bytes_1
  (repeat (first | refine s_p ?_ | refine s_c (by omega) ?_ | refine S.ld ?_ | refine S.ldB ?_ | refine S.ce ?_ | refine S.ceB ?_ | refine s_q ?_ | refine s_qc (by omega) ?_ | refine n_some ?_ | rw [List.getD_cons_zero] | rw [List.getD_cons_succ]))
  refine p_shrI 8 (by decide) (by decide) ?_
  rw [show (n : Int) / 2 ^ 8 = ((n / 256 : Nat) : Int) by omega]
  refine p_cvt (k1 := .i64) (k2 := .u8) (by kernel_rfl) (by kernel_rfl) ?_
  refine p_cvt (k1 := .i64) (k2 := .u8) (by kernel_rfl) (by kernel_rfl) ?_
  rw [wrap8, wrap8, show UInt8.ofNat n = UInt8.ofNat (n % 256) from UInt8.toNat.inj (by rw [UInt8.toNat_ofNat', UInt8.toNat_ofNat']; omega)]
  refine S.lit (e := 5) (cs := cellsB (two n)) (by kernel_rfl) fun b9 w1 S => ?_
  refine (S.pullO g).apMb (m := 2) (Sl.blk (S.blk b9)) rfl (by decide) (cellsB_one _) (by omega) fun g' cap' w2 S => ?_
  refine S.st fun w3 S => ?_
  have S := S.drop b9
  have e2 : l.length + 2 = (l ++ two n).length := by rw [List.length_append]; rfl
  rw [e2, ← cellsB_app] at S
  exact h g' cap' _ S
theorem c_cert_Bytes (hr : Holds r w) (hT : Ob r Tab) (hv : CertG r v c) (hl : c.length ≤ 100) (hs : ∀ f ∈ c, FnSm f)
    (hno : ∀ w', ¬ MayC c → Ext w w' → K (.tuple #[.string (bs []), .int .i64 2]) w')
    (h : ∀ w', MayC c → Ext w w' → K (.tuple #[.string (bs (certB c)), .int .i64 0]) w') :
    oCall Tryd.prog Tryd.n_cert_Bytes #[v] w K := by
  refine Tryd.ok_cert_Bytes ?_
  unfold Tryd.F_cert_Bytes
  have hv1 := hv
  obtain ⟨u, rfl, hu⟩ := hv
  have hu0 := hu
  obtain ⟨p, cap, rfl, hp, hc⟩ := hu.shape
  have S := St.start hr
  refine S.box fun b1 w1 S => ?_
  have S : St w r w1 (.cell b1 [.slice p c.length cap] 24 :: []) := S
  (repeat (first | refine s_p ?_ | refine s_c (by omega) ?_ | refine S.ld ?_ | refine S.ldB ?_ | refine S.ce ?_ | refine S.ceB ?_ | refine s_q ?_ | refine s_qc (by omega) ?_ | refine n_some ?_ | rw [List.getD_cons_zero] | rw [List.getD_cons_succ]))
  refine c_cert_May S.holds hv1 hl (fun f hf => (hs f hf).len) fun w3 e3 => ?_
  have S := S.go e3
  (first | refine s_p ?_ | refine s_c (by omega) ?_)
  refine c_b (fun hb => ?_) (fun hb => ?_)
  · exact hno _ (fun h => by rw [mayCB_iff.2 h] at hb; cases hb) S.ext
  have hm : MayC c := mayCB_iff.1 (by simpa using hb)
  have hc32 := hm.2.1
  refine j_intro (fun t w' => ∃ b4 g cap', t = [.pointer (some ⟨b4, 0, none⟩)] ∧ St w r w' (byL b4 g cap' ([76, 87, 67, 1] ++ [UInt8.ofNat c.length]) (.cell b1 [.slice p c.length cap] 24 :: []))) (fun K3 hK3 => ?_) ?_
  · have S := S.go (Ext.drew _)
    have hl8 : Value.int IntKind.u8 (c.length : Int) = .int .u8 ((UInt8.ofNat c.length).toNat : Int) := by rw [u8_nat (by omega)]
    (repeat (first | refine s_p ?_ | refine s_c (by omega) ?_ | refine S.ld ?_ | refine S.ldB ?_ | refine S.ce ?_ | refine S.ceB ?_ | refine s_q ?_ | refine s_qc (by omega) ?_ | refine n_some ?_ | rw [List.getD_cons_zero] | rw [List.getD_cons_succ]))
    rw [hl8]
    repeat' (first
      | with_reducible refine And.intro ?_ ?_
      | with_reducible refine c_cert_mark ⟨Ext.refl _, ?_⟩
      | with_reducible refine S.cvM (s := bs [76, 87, 67, 1]) (by decide) fun g cap2 w3 S E => ⟨E, ?_⟩
      | with_reducible refine S.lit (e := 5) (cs := cellsB [UInt8.ofNat c.length]) (by kernel_rfl) fun b9 w3 S => ?_
      | with_reducible refine S.alU fun b4 w3 S => ?_
      | with_reducible refine (S.pullO g).apMb (m := 1) (Sl.blk (S.blk b9)) rfl (by decide) (cellsB_one _) (by decide) fun g cap2 w3 S => ?_
      | refine S.st fun w3 S => ?_)
    all_goals (
      have S := ((S.drop b9).pull b4).pullO g
      exact hK3 _ _ ⟨b4, g, cap2, rfl, S⟩)
  rintro _ w6 ⟨b4, g, cap1, rfl, S⟩ d6
  (repeat (first | refine s_p ?_ | refine s_c (by omega) ?_ | refine S.ld ?_ | refine S.ldB ?_ | refine S.ce ?_ | refine S.ceB ?_ | refine s_q ?_ | refine s_qc (by omega) ?_ | refine n_some ?_ | rw [List.getD_cons_zero] | rw [List.getD_cons_succ]))
  -- the functions
  refine l_intro (ι := Nat) (fun i => [.int .i64 i])
    (fun i w' => ∃ g cap' l, i ≤ c.length ∧ l = [76, 87, 67, 1] ++ [UInt8.ofNat c.length] ++ fnsB (c.take i) ∧ l.length ≤ 5 + 210000 * i ∧ St w r w' (byL b4 g cap' l (.cell b1 [.slice p c.length cap] 24 :: [])))
    (fun i => c.length - i) 0 rfl ⟨g, cap1, _, Nat.zero_le _, by rw [List.take_zero, fnsB, List.append_nil], by simp, S⟩ ?_
  clear S
  rintro i d7 w7 ⟨g, cap1, l, hi, hlb, hlen, S⟩ K7 hK7
  simp only [List.getD_cons_zero]
  (first | refine s_p ?_ | refine s_c (by omega) ?_)
  refine c_if (fun hlt => ?_) (fun hge => ?_)
  rotate_left
  · have hin : i = c.length := by omega
    subst hin
    rw [List.take_length] at hlb
    (repeat (first | refine s_p ?_ | refine s_c (by omega) ?_ | refine S.ld ?_ | refine S.ldB ?_ | refine S.ce ?_ | refine S.ceB ?_ | refine s_q ?_ | refine s_qc (by omega) ?_ | refine n_some ?_ | rw [List.getD_cons_zero] | rw [List.getD_cons_succ]))
    refine mrk_str S (by kernel_rfl) (by kernel_rfl) ?_
    rw [hlb, List.append_assoc]
    exact h _ hm S.ext
  have hlt : i < c.length := by omega
  obtain ⟨b, off, cap', p1, n1, c1, p2, n2, c2, p3, n3, c3, e, g1, g2, g3, hcell⟩ := fns_at hu0 hlt
  cases e
  have hmf := hm.2.2 _ (List.getElem_mem hlt)
  (first | refine s_p ?_ | refine s_c (by omega) ?_)
  refine s_ldN (n := 3) rfl (fun j u hj => S.at (hcell j u hj)) ?_
  refine S.al fun b7 w8 S => ?_
  refine S.stB fun w9 S => ?_
  refine c_cert_lists fun w10 e10 => ?_
  have S := S.go e10
  have S : St w r w10 (byL b4 g cap1 l (.cell b7 [.slice p1 n1 c1, .slice p2 n2 c2, .slice p3 n3 c3] 50 :: .cell b1 [.slice (some ⟨b, off, none⟩) c.length cap] 24 :: [])) := (S.pull b4).pullO g
  refine l_intro (ι := Nat) (fun k => [.int .i64 k])
    (fun k w' => ∃ g cap2 l', k ≤ 3 ∧ l' = l ++ upTo c[i] k ∧ St w r w' (byL b4 g cap2 l' (.cell b7 [.slice p1 n1 c1, .slice p2 n2 c2, .slice p3 n3 c3] 50 :: .cell b1 [.slice (some ⟨b, off, none⟩) c.length cap] 24 :: [])))
    (fun k => 3 - k) 0 rfl ⟨g, cap1, l, Nat.zero_le _, by rw [upTo, List.append_nil], S⟩ ?_
  clear S
  rintro k d11 w11 ⟨g, cap2, l', hk, hl', S⟩ K11 hK11
  simp only [List.getD_cons_zero]
  have hup := upTo_le hmf k
  have hll' : l'.length ≤ 20000000 := by rw [hl', List.length_append]; omega
  (first | refine s_p ?_ | refine s_c (by omega) ?_)
  refine c_if (fun hk3 => ?_) (fun hk3 => ?_)
  rotate_left
  · have hkk : k = 3 := by omega
    subst hkk
    (first | refine s_p ?_ | refine s_c (by omega) ?_)
    refine hK7 (i + 1) _ ⟨g, cap2, l', hlt, ?_, ?_, S.less (fun _ _ h => h) (.cons_cons _ (.cons_cons _ (List.sublist_cons_self _ _)))⟩ (by omega)
    · rw [hl', hlb, snoc_take hlt, fnsB_app, upTo_all, List.append_assoc _ (fnsB _)]
      simp [fnsB]
    · rw [hl', List.length_append]; omega
  have hk3 : k < 3 := by omega
  have hgood := lsAt_good hmf k
  obtain ⟨q, m, cq, hcq, hpt, gk⟩ : ∃ q m cq, ([.slice p1 n1 c1, .slice p2 n2 c2, .slice p3 n3 c3] : List Value)[k]? = some (.slice q m cq) ∧
      (#[.pointer (some ⟨b7, 0, none⟩), .pointer (some ⟨b7, 1, none⟩), .pointer (some ⟨b7, 2, none⟩)] : Array Value)[(k : Int).toNat * 1]? = some (.pointer (some ⟨b7, k, none⟩)) ∧ RwsG r (.slice q m cq) (lsAt c[i] k) := by
    rcases k with _ | _ | _ | k
    · exact ⟨_, _, _, rfl, rfl, g1⟩
    · exact ⟨_, _, _, rfl, rfl, g2⟩
    · exact ⟨_, _, _, rfl, rfl, g3⟩
    · omega
  obtain rfl := gk.len
  have hlen2 := hgood.1
  refine p_ix (k := ⟨by kernel_rfl⟩) hpt (by omega) (by omega) ?_
  refine n_some ?_
  refine S.ld ?_ hcq
  (first | refine s_p ?_ | refine s_c (by omega) ?_)
  refine v_f11 (by kernel_rfl) ?_
  refine c_Bytes_two S (by omega) (by omega) fun g3' cap3 w12 S => ?_
  refine j_intro (fun t w' => t = [.int .i64 (((headW (lsAt c[i] k)).toNat : Nat) : Int)] ∧ w12 = w') (fun K12 hK12 => ?_) ?_
  · refine n_some ?_
    refine S.ld ?_ hcq
    (first | refine s_p ?_ | refine s_c (by omega) ?_); (first | refine s_p ?_ | refine s_c (by omega) ?_)
    refine c_if (fun hpos => ?_) (fun hzero => ?_)
    · have h0 : 0 < (lsAt c[i] k).length := by omega
      refine n_some ?_
      refine S.ld ?_ hcq
      obtain ⟨b', off', cap'', n3', q3, c3', e, hR0, hcell0⟩ := rws_at gk h0
      cases e
      (first | refine s_p ?_ | refine s_c (by omega) ?_); (first | refine s_p ?_ | refine s_c (by omega) ?_)
      refine S.rd (a := ⟨b', off' + 0 * 2 + 0, none⟩) (hcell0 0 _ rfl) ?_
      refine hK12 _ _ ⟨?_, rfl⟩
      have := (hgood.2 _ (List.getElem_mem h0)).1.1
      rw [headW_get h0, Int.toNat_of_nonneg this]
    · have h0 : lsAt c[i] k = [] := List.eq_nil_of_length_eq_zero (by omega)
      refine hK12 _ _ ⟨?_, rfl⟩
      rw [h0]; rfl
  rintro _ _ ⟨rfl, rfl⟩ d13
  have hw2 : (headW (lsAt c[i] k)).toNat < 65536 := by
    have := headW_le hgood
    split at this <;> omega
  rw [List.getD_cons_zero]
  refine v_f11 (by kernel_rfl) ?_
  have t2 : ∀ n, (two n).length = 2 := fun _ => rfl
  refine c_Bytes_two S hw2 (by rw [List.length_append, t2]; omega) fun g4 cap4 w14 S => ?_
  refine n_some ?_
  refine S.ld ?_ hcq
  (first | refine s_p ?_ | refine s_c (by omega) ?_)
  refine l_intro (ι := Nat) (fun j => [.int .i64 j])
    (fun j w' => ∃ g cap3 l3, j ≤ (lsAt c[i] k).length ∧ l3 = l' ++ two (lsAt c[i] k).length ++ two (headW (lsAt c[i] k)).toNat ++ rowsB ((lsAt c[i] k).take j) ∧
      St w r w' (byL b4 g cap3 l3 (.cell b7 [.slice p1 n1 c1, .slice p2 n2 c2, .slice p3 n3 c3] 50 :: .cell b1 [.slice (some ⟨b, off, none⟩) c.length cap] 24 :: [])))
    (fun j => (lsAt c[i] k).length - j) 0 rfl ⟨g4, cap4, _, Nat.zero_le _, by rw [List.take_zero, rowsB, List.append_nil], S⟩ ?_
  clear S
  rintro j d15 w15 ⟨g5, cap5, l3, hj, hl3, S⟩ K15 hK15
  simp only [List.getD_cons_zero]
  (first | refine s_p ?_ | refine s_c (by omega) ?_)
  refine c_if (fun hjl => ?_) (fun hjl => ?_)
  · have hjl : j < (lsAt c[i] k).length := by omega
    have hmay := hgood.2 _ (List.getElem_mem hjl)
    have hrl := rowsB_le ((lsAt c[i] k).take j) fun x hx => (hgood.2 x (List.mem_of_mem_take hx)).1
    rw [List.length_take] at hrl
    have hl3l : l3.length ≤ 30000000 := by rw [hl3]; simp only [List.length_append, t2]; omega
    obtain ⟨b', off', cap'', n3', q3, c3', e, hR, hcellr⟩ := rws_at gk hjl
    cases e
    (first | refine s_p ?_ | refine s_c (by omega) ?_)
    refine s_ldN (n := 2) rfl (fun j u hj => S.at (hcellr j u hj)) ?_
    refine S.al fun b12 w16 S => ?_
    refine S.stB fun w17 S => ?_
    (repeat (first | refine s_p ?_ | refine s_c (by omega) ?_ | refine S.ld ?_ | refine S.ldB ?_ | refine S.ce ?_ | refine S.ceB ?_ | refine s_q ?_ | refine s_qc (by omega) ?_ | refine n_some ?_ | rw [List.getD_cons_zero] | rw [List.getD_cons_succ]))
    refine c_bits_BytesO (S.at hT) (S.at hR.row) fun w18 e18 => ?_
    have S := S.go e18
    rw [bytesO_may hmay.1]
    have hrb := rowB_le hmay.1
    have hsz : (strOf (bytesOf (lsAt c[i] k)[j].1 (lsAt c[i] k)[j].2)).size = (rowB (lsAt c[i] k)[j]).length := by rw [strOf_size, rowB, b8, List.length_map]
    (repeat (first | refine s_p ?_ | refine s_c (by omega) ?_ | refine S.ld ?_ | refine S.ldB ?_ | refine S.ce ?_ | refine S.ceB ?_ | refine s_q ?_ | refine s_qc (by omega) ?_ | refine n_some ?_ | rw [List.getD_cons_zero] | rw [List.getD_cons_succ]))
    refine (S.pullO g5).apMs (by rw [hsz]; omega) fun g6 cap6 w19 S => ?_
    refine S.st fun w20 S => ?_
    (first | refine s_p ?_ | refine s_c (by omega) ?_)
    have S := S.drop b12
    have ec : Lib.strCells (strOf (bytesOf (lsAt c[i] k)[j].1 (lsAt c[i] k)[j].2)) = cellsB (rowB (lsAt c[i] k)[j]) := strCells_bs _
    have el : l3.length + (strOf (bytesOf (lsAt c[i] k)[j].1 (lsAt c[i] k)[j].2)).size = (l3 ++ rowB (lsAt c[i] k)[j]).length := by rw [hsz, List.length_append]
    rw [ec, ← cellsB_app, el] at S
    refine hK15 (j + 1) _ ⟨g6, cap6, _, hjl, ?_, S⟩ (by omega)
    rw [hl3, snoc_take hjl, rowsB_app, List.append_assoc _ (rowsB _)]
    simp [rowsB]
  · have hjj : j = (lsAt c[i] k).length := by omega
    rw [hjj, List.take_length] at hl3
    (first | refine s_p ?_ | refine s_c (by omega) ?_)
    refine hK11 (k + 1) _ ⟨g5, cap5, l3, hk3, ?_, S⟩ (by omega)
    rw [hl3, hl', upTo, listB]
    simp only [List.append_assoc]
end

end Go.Proofs
end

section
namespace Go.Proofs

open Go.Sh Go.BM

set_option maxRecDepth 100000

set_option linter.unusedSimpArgs false

set_option linter.unusedVariables false

noncomputable def bytesC (c : List FnD) : List UInt8 × Int := if mayCB c then (certB c, 0) else ([], 2)
theorem bytesC_may {c : List FnD} (h : MayC c) : bytesC c = (certB c, 0) := by rw [bytesC, if_pos (mayCB_iff.2 h)]
theorem bytesC_not {c : List FnD} (h : ¬ MayC c) : bytesC c = ([], 2) := by rw [bytesC, if_neg (fun x => h (mayCB_iff.1 x))]
noncomputable def sameC (c d : List FnD) : Bool := (mayCB c && mayCB d) && (certB c == certB d)
/-- a certificate of no great size -/
def CSm (c : List FnD) : Prop := c.length ≤ 100 ∧ ∀ f ∈ c, FnSm f
section

variable {w0 w : World} {r : Gh} {L : List Asr} {v va vb : Value} {c d : List FnD} {K : Value → World → Prop}

theorem c_cert_BytesC (hr : Holds r w) (hT : Ob r Tab) (hv : CertG r v c) (hs : CSm c) (h : ∀ w', Ext w w' → K (.tuple #[.string (bs (bytesC c).1), .int .i64 (bytesC c).2]) w') : oCall Tryd.prog Tryd.n_cert_Bytes #[v] w K :=
  c_cert_Bytes hr hT hv hs.1 hs.2 (fun w' hn e => by rw [bytesC_not hn] at h; exact h w' e) fun w' hm e => by rw [bytesC_may hm] at h; exact h w' e
theorem c_cert_Same (hr : Holds r w) (hT : Ob r Tab) (hv : CertG r va c) (hu : CertG r vb d) (hs : CSm c) (hs2 : CSm d) (h : ∀ w', Ext w w' → K (.bool (sameC c d)) w') : oCall Tryd.prog Tryd.n_cert_Same #[va, vb] w K := by
  refine Tryd.ok_cert_Same ?_
  unfold Tryd.F_cert_Same
  have hv1 := hv
  have hu1 := hu
  obtain ⟨x, rfl, hx⟩ := hv
  obtain ⟨y, rfl, hy⟩ := hu
  obtain ⟨p1, c1, rfl, _⟩ := hx.shape
  obtain ⟨p2, c2, rfl, _⟩ := hy.shape
  have S := St.start hr
  refine S.box fun b1 w1 S => ?_
  refine S.box fun b2 w2 S => ?_
  have S : St w r w2 (.cell b2 [.slice p2 d.length c2] 24 :: .cell b1 [.slice p1 c.length c1] 24 :: []) := S
  (repeat (first | refine s_p ?_ | refine s_c (by omega) ?_ | refine S.ld ?_ | refine S.ldB ?_ | refine S.ce ?_ | refine S.ceB ?_ | refine s_q ?_ | refine s_qc (by omega) ?_ | refine n_some ?_ | rw [List.getD_cons_zero] | rw [List.getD_cons_succ]))
  refine c_cert_BytesC S.holds hT hv1 hs fun w3 e3 => ?_
  have S := S.go e3
  (repeat (first | refine s_p ?_ | refine s_c (by omega) ?_ | refine S.ld ?_ | refine S.ldB ?_ | refine S.ce ?_ | refine S.ceB ?_ | refine s_q ?_ | refine s_qc (by omega) ?_ | refine n_some ?_ | rw [List.getD_cons_zero] | rw [List.getD_cons_succ]))
  refine c_cert_BytesC S.holds hT hu1 hs2 fun w4 e4 => ?_
  have S := S.go e4
  (repeat (first | refine s_p ?_ | refine s_c (by omega) ?_ | refine S.ld ?_ | refine S.ldB ?_ | refine S.ce ?_ | refine S.ceB ?_ | refine s_q ?_ | refine s_qc (by omega) ?_ | refine n_some ?_ | rw [List.getD_cons_zero] | rw [List.getD_cons_succ]))
  refine j_bandH (c := decide ((bytesC d).2 = 0)) (fun _ K6 hK6 => by (repeat (first | refine s_p ?_ | refine s_c (by omega) ?_ | refine S.ld ?_ | refine S.ldB ?_ | refine S.ce ?_ | refine S.ceB ?_ | refine s_q ?_ | refine s_qc (by omega) ?_ | refine n_some ?_ | rw [List.getD_cons_zero] | rw [List.getD_cons_succ])); exact hK6) ?_
  refine j_bandH (c := (bytesC c).1 == (bytesC d).1) (fun _ K6 hK6 => by (repeat (first | refine s_p ?_ | refine s_c (by omega) ?_ | refine S.ld ?_ | refine S.ldB ?_ | refine S.ce ?_ | refine S.ceB ?_ | refine s_q ?_ | refine s_qc (by omega) ?_ | refine n_some ?_ | rw [List.getD_cons_zero] | rw [List.getD_cons_succ])); exact hK6) ?_
  have : ((decide ((bytesC c).2 = 0) && decide ((bytesC d).2 = 0)) && (bytesC c).1 == (bytesC d).1) = sameC c d := by
    unfold sameC bytesC
    cases mayCB c <;> cases mayCB d <;> simp
  rw [this]
  exact h _ S.ext
noncomputable def sizeC (c : List FnD) : Nat := if mayCB c then (certB c).length else 0
theorem c_cert_Size (hr : Holds r w) (hv : CertG r v c) (hs : CSm c) (h : ∀ w', Ext w w' → K (.int .i64 (sizeC c : Nat)) w') : oCall Tryd.prog Tryd.n_cert_Size #[v] w K := by
  refine Tryd.ok_cert_Size ?_
  unfold Tryd.F_cert_Size
  have hv1 := hv
  obtain ⟨u, rfl, hu⟩ := hv
  have hu0 := hu
  obtain ⟨p, cap, rfl, hp, hc⟩ := hu.shape
  have S := St.start hr
  refine S.box fun b1 w1 S => ?_
  have S : St w r w1 (.cell b1 [.slice p c.length cap] 24 :: []) := S
  (repeat (first | refine s_p ?_ | refine s_c (by omega) ?_ | refine S.ld ?_ | refine S.ldB ?_ | refine S.ce ?_ | refine S.ceB ?_ | refine s_q ?_ | refine s_qc (by omega) ?_ | refine n_some ?_ | rw [List.getD_cons_zero] | rw [List.getD_cons_succ]))
  refine c_cert_May S.holds hv1 hs.1 (fun f hf => (hs.2 f hf).len) fun w3 e3 => ?_
  have S := S.go e3
  (first | refine s_p ?_ | refine s_c (by omega) ?_)
  refine c_b (fun hb => ?_) (fun hb => ?_)
  · rw [sizeC, if_neg (by simpa using hb)] at h
    exact h _ S.ext
  have hm : MayC c := mayCB_iff.1 (by simpa using hb)
  rw [sizeC, if_pos (by simpa using hb)] at h
  have hc32 := hm.2.1
  refine c_cert_mark ?_
  (first | refine s_p ?_ | refine s_c (by omega) ?_)
  refine s_c (by decide) ?_
  (repeat (first | refine s_p ?_ | refine s_c (by omega) ?_ | refine S.ld ?_ | refine S.ldB ?_ | refine S.ce ?_ | refine S.ceB ?_ | refine s_q ?_ | refine s_qc (by omega) ?_ | refine n_some ?_ | rw [List.getD_cons_zero] | rw [List.getD_cons_succ]))
  refine l_intro (ι := Nat × Nat) (fun i => [.int .i64 i.1, .int .i64 i.2])
    (fun i w' => i.2 ≤ c.length ∧ i.1 = 5 + (fnsB (c.take i.2)).length ∧ i.1 ≤ 5 + 210000 * i.2 ∧ St w r w' [])
    (fun i => c.length - i.2) (5, 0) rfl ⟨Nat.zero_le _, rfl, Nat.le_refl _, S.tl⟩ ?_
  repeat clear S
  rintro ⟨n, i⟩ d7 w7 ⟨hi, hn, hnl, S⟩ K7 hK7
  simp only at hi hn hnl ⊢
  simp only [List.getD_cons_zero, List.getD_cons_succ]
  (first | refine s_p ?_ | refine s_c (by omega) ?_)
  refine c_if (fun hlt => ?_) (fun hge => ?_)
  rotate_left
  · have hin : i = c.length := by omega
    subst hin
    rw [List.take_length] at hn
    have e : (certB c).length = n := by rw [hn, certB]; simp only [List.length_append, List.length_cons, List.length_nil]; omega
    rw [e] at h
    exact h _ S.ext
  have hlt : i < c.length := by omega
  obtain ⟨b, off, cap', p1, n1, c1, p2, n2, c2, p3, n3, c3, e, g1, g2, g3, hcell⟩ := fns_at hu0 hlt
  cases e
  have hmf := hm.2.2 _ (List.getElem_mem hlt)
  (first | refine s_p ?_ | refine s_c (by omega) ?_)
  refine s_ldN (n := 3) rfl (fun j u hj => S.at (hcell j u hj)) ?_
  refine S.al fun b7 w8 S => ?_
  refine S.stB fun w9 S => ?_
  refine c_cert_lists fun w10 e10 => ?_
  have S := S.go e10
  have S : St w r w10 (.cell b7 [.slice p1 n1 c1, .slice p2 n2 c2, .slice p3 n3 c3] 50 :: []) := S
  refine l_intro (ι := Nat × Nat) (fun i => [.int .i64 i.1, .int .i64 i.2])
    (fun k w' => k.2 ≤ 3 ∧ k.1 = n + (upTo c[i] k.2).length ∧ St w r w' (.cell b7 [.slice p1 n1 c1, .slice p2 n2 c2, .slice p3 n3 c3] 50 :: []))
    (fun k => 3 - k.2) (n, 0) rfl ⟨Nat.zero_le _, rfl, S⟩ ?_
  repeat clear S
  rintro ⟨m, k⟩ d11 w11 ⟨hk, hmk, S⟩ K11 hK11
  simp only at hk hmk ⊢
  simp only [List.getD_cons_zero, List.getD_cons_succ]
  have hup := upTo_le hmf k
  (first | refine s_p ?_ | refine s_c (by omega) ?_)
  refine c_if (fun hk3 => ?_) (fun hk3 => ?_)
  rotate_left
  · have hkk : k = 3 := by omega
    subst hkk
    (first | refine s_p ?_ | refine s_c (by omega) ?_)
    refine hK7 (m, i + 1) _ ⟨hlt, ?_, ?_, S.tl⟩ (by simp only; omega)
    · simp only
      rw [hmk, hn, snoc_take hlt, fnsB_app, upTo_all, List.length_append, ← Nat.add_assoc]
      simp [fnsB]
    · simp only; omega
  have hk3 : k < 3 := by omega
  have hgood := lsAt_good hmf k
  obtain ⟨q, m', cq, hcq, hpt, gk⟩ : ∃ q m cq, ([.slice p1 n1 c1, .slice p2 n2 c2, .slice p3 n3 c3] : List Value)[k]? = some (.slice q m cq) ∧
      (#[.pointer (some ⟨b7, 0, none⟩), .pointer (some ⟨b7, 1, none⟩), .pointer (some ⟨b7, 2, none⟩)] : Array Value)[(k : Int).toNat * 1]? = some (.pointer (some ⟨b7, k, none⟩)) ∧ RwsG r (.slice q m cq) (lsAt c[i] k) := by
    rcases k with _ | _ | _ | k
    · exact ⟨_, _, _, rfl, rfl, g1⟩
    · exact ⟨_, _, _, rfl, rfl, g2⟩
    · exact ⟨_, _, _, rfl, rfl, g3⟩
    · omega
  obtain rfl := gk.len
  have hlen2 := hgood.1
  refine p_ix (k := ⟨by kernel_rfl⟩) hpt (by omega) (by omega) ?_
  (first | refine s_p ?_ | refine s_c (by omega) ?_)
  refine n_some ?_
  refine S.ld ?_ hcq
  (first | refine s_p ?_ | refine s_c (by omega) ?_)
  refine l_intro (ι := Nat × Nat) (fun i => [.int .i64 i.1, .int .i64 i.2])
    (fun j w' => j.2 ≤ (lsAt c[i] k).length ∧ j.1 = m + 4 + (rowsB ((lsAt c[i] k).take j.2)).length ∧ St w r w' (.cell b7 [.slice p1 n1 c1, .slice p2 n2 c2, .slice p3 n3 c3] 50 :: []))
    (fun j => (lsAt c[i] k).length - j.2) (m + 4, 0) rfl ⟨Nat.zero_le _, rfl, S⟩ ?_
  repeat clear S
  rintro ⟨q', j⟩ d15 w15 ⟨hj, hq', S⟩ K15 hK15
  simp only at hj hq' ⊢
  simp only [List.getD_cons_zero, List.getD_cons_succ]
  (first | refine s_p ?_ | refine s_c (by omega) ?_)
  refine c_if (fun hjl => ?_) (fun hjl => ?_)
  · have hjl : j < (lsAt c[i] k).length := by omega
    have hmay := (hgood.2 _ (List.getElem_mem hjl)).1
    have hrl := rowsB_le ((lsAt c[i] k).take j) fun x hx => (hgood.2 x (List.mem_of_mem_take hx)).1
    rw [List.length_take] at hrl
    obtain ⟨b', off', cap'', n3', q3, c3', e, hR, hcellr⟩ := rws_at gk hjl
    cases e
    have h01 := hmay.1
    have h02 := hmay.2.1
    (first | refine s_p ?_ | refine s_c (by omega) ?_)
    refine s_ldN (n := 2) rfl (fun j u hj => S.at (hcellr j u hj)) ?_
    refine S.al fun b12 w16 S => ?_
    refine S.stB fun w17 S => ?_
    (repeat (first | refine s_p ?_ | refine s_c (by omega) ?_ | refine S.ld ?_ | refine S.ldB ?_ | refine S.ce ?_ | refine S.ceB ?_ | refine s_q ?_ | refine s_qc (by omega) ?_ | refine n_some ?_ | rw [List.getD_cons_zero] | rw [List.getD_cons_succ]))
    have hrb := rowB_len (lsAt c[i] k)[j]
    rw [show ((lsAt c[i] k)[j].1 + 7) / 8 = ((rowB (lsAt c[i] k)[j]).length : Int) by rw [hrb]; omega]
    have hrb2 := rowB_le hmay
    (repeat (first | refine s_p ?_ | refine s_c (by omega) ?_ | refine S.ld ?_ | refine S.ldB ?_ | refine S.ce ?_ | refine S.ceB ?_ | refine s_q ?_ | refine s_qc (by omega) ?_ | refine n_some ?_ | rw [List.getD_cons_zero] | rw [List.getD_cons_succ]))
    refine hK15 (q' + (rowB (lsAt c[i] k)[j]).length, j + 1) _ ⟨hjl, ?_, S.tl⟩ (by simp only; omega)
    simp only
    rw [hq', snoc_take hjl, rowsB_app, List.length_append, ← Nat.add_assoc]
    simp [rowsB]
  · have hjj : j = (lsAt c[i] k).length := by omega
    rw [hjj, List.take_length] at hq'
    (first | refine s_p ?_ | refine s_c (by omega) ?_)
    refine hK11 (q', k + 1) _ ⟨hk3, ?_, S⟩ (by simp only; omega)
    simp only
    rw [hq', hmk, upTo, List.length_append, listB]
    simp only [List.length_append, two, List.length_cons, List.length_nil]
    omega
end

end Go.Proofs
end

section
namespace Go.Proofs

open Go.Sh Go.BM

set_option maxRecDepth 100000

set_option linter.unusedSimpArgs false

set_option linter.unusedVariables false

section

variable {w0 w : World} {r : Gh} {L : List Asr} {v va vb : Value} {c d : List FnD} {K : Value → World → Prop} {g cap : Nat} {l : List UInt8}

theorem c_ref20_two {n : Nat} (hn : n < 65536) (h : ∀ w', Ext w w' → K (.string (bs (two n))) w') : oCall Tryd.prog Tryd.n_ref20_two #[.int .i64 (n : Nat)] w K := by
  refine Tryd.ok_ref20_two ?_
  unfold Tryd.F_ref20_two
  have S := St.start (all_holds w)
  refine s_c (by omega) ?_
  rw [show (n : Int) / 256 = ((n / 256 : Nat) : Int) by omega]
  refine p_cvt (k1 := .i64) (k2 := .u8) (by kernel_rfl) (by kernel_rfl) ?_
  refine s_c (by omega) ?_
  rw [show (n : Int) % 256 = ((n % 256 : Nat) : Int) by omega]
  refine p_cvt (k1 := .i64) (k2 := .u8) (by kernel_rfl) (by kernel_rfl) ?_
  rw [wrap8, wrap8]
  refine S.lit (e := 5) (cs := cellsB (two n)) (by kernel_rfl) fun b9 w1 S => ?_
  refine q_str (l := two n) (by kernel_rfl) (by kernel_rfl) (Sl.blk (S.blk b9)) ?_
  exact h _ S.ext
/-- a row of one's own is one that need not bear a mark -/
theorem cell_mrk {X : Nat → Prop} {b : Nat} {cs : List Value} {e : TypeId} {n : Nat} (S : StX X w0 r w (.cell b cs e :: L)) (hn : cs.length = n) (hm : n ≤ Go.maxLen) : StX X w0 r w (mrk b e n n cs :: L) := by
  have B : Blk w b cs e := S.has _ (List.mem_cons_self ..)
  refine S.turn (p := []) (x := .cell b cs e) (y := mrk b e n n cs) (ExtBut.refl _ _) ⟨_, B, rfl, _, _, rfl, .inl rfl, Nat.le_refl _, hm, by simpa using hn, ?_⟩ fun k hk => .inl (by cases hk; rfl)
  rw [List.toList_toArray, ← hn, List.take_length]
theorem c_ref20_laid {ls : List RowD} (S : St w0 r w (mrk g 5 l.length cap (cellsB l) :: L)) (hv : RwsG r v ls) (hg : GoodL ls 512) (hl : l.length ≤ 100000000)
    (h : ∀ g' cap' w', St w0 r w' (mrk g' 5 (l ++ listB ls).length cap' (cellsB (l ++ listB ls)) :: L) → K (.slice (some ⟨g', 0, none⟩) (l ++ listB ls).length cap') w') :
    oCall Tryd.prog Tryd.n_ref20_laid #[.slice (some ⟨g, 0, none⟩) l.length cap, v] w K := by
  refine Tryd.ok_ref20_laid ?_
  unfold Tryd.F_ref20_laid
  have hlen := hg.1
  have gk := hv
  obtain ⟨p, cap0, rfl, hp, hc⟩ := hv.shape
  have hw2 : (headW ls).toNat < 65536 := by
    have := headW_le hg
    split at this <;> omega
  have step : ∀ {g cap : Nat} {l m : List UInt8} {w : World} {s : ByteArray} {K' : Value → World → Prop}, StX noX w0 r w (mrk g 5 l.length cap (cellsB l) :: L) → s = bs m → l.length + m.length ≤ 140737488355328 →
      (∀ g' cap' w', StX noX w0 r w' (mrk g' 5 (l ++ m).length cap' (cellsB (l ++ m)) :: L) → K' (.slice (some ⟨g', 0, none⟩) (l ++ m).length cap') w') →
      opW Tryd.prog w (Builtin.append_ #[57, 9] 57 #[.slice (some ⟨g, 0, none⟩) l.length cap, .string s]) K' := by
    rintro g cap l m w _ K' S rfl hb hK
    refine S.apMs (by rw [bs_size]; exact hb) fun g' cap' w' S => ?_
    rw [strCells_bs, ← cellsB_app, bs_size, ← List.length_append] at S
    rw [bs_size, ← List.length_append]
    exact hK g' cap' w' S
  refine j_intro (fun t w' => t = [.int .i64 (((headW ls).toNat : Nat) : Int)] ∧ w = w') (fun K12 hK12 => ?_) ?_
  · (first | refine s_p ?_ | refine s_c (by omega) ?_); (first | refine s_p ?_ | refine s_c (by omega) ?_)
    refine c_if (fun hpos => ?_) (fun hzero => ?_)
    · have h0 : 0 < ls.length := by omega
      obtain ⟨b', off', cap'', n3', q3, c3', e, hR0, hcell0⟩ := rws_at gk h0
      cases e
      (first | refine s_p ?_ | refine s_c (by omega) ?_); (first | refine s_p ?_ | refine s_c (by omega) ?_)
      refine S.rd (a := ⟨b', off' + 0 * 2 + 0, none⟩) (hcell0 0 _ rfl) ?_
      refine hK12 _ _ ⟨?_, rfl⟩
      have := (hg.2 _ (List.getElem_mem h0)).1.1
      rw [headW_get h0, Int.toNat_of_nonneg this]
    · have h0 : ls = [] := List.eq_nil_of_length_eq_zero (by omega)
      refine hK12 _ _ ⟨?_, rfl⟩
      rw [h0]; rfl
  rintro _ _ ⟨rfl, rfl⟩ d13
  have t2 : ∀ n, (two n).length = 2 := fun _ => rfl
  (first | refine s_p ?_ | refine s_c (by omega) ?_)
  refine c_ref20_two (by omega) fun w1 e1 => ?_
  have S := S.go e1
  refine step S rfl (by rw [t2]; omega) fun g1 cap1 w2 S => ?_
  rw [List.getD_cons_zero]
  refine c_ref20_two hw2 fun w3 e3 => ?_
  have S := S.go e3
  refine step S rfl (by rw [List.length_append, t2, t2]; omega) fun g2 cap2 w4 S => ?_
  refine l_intro (ι := (Nat × Nat) × Nat) (fun i => [.slice (some ⟨i.1.1, 0, none⟩) (l ++ two ls.length ++ two (headW ls).toNat ++ rowsB (ls.take i.2)).length i.1.2, .int .i64 i.2])
    (fun i w' => i.2 ≤ ls.length ∧ StX noX w0 r w' (mrk i.1.1 5 (l ++ two ls.length ++ two (headW ls).toNat ++ rowsB (ls.take i.2)).length i.1.2 (cellsB (l ++ two ls.length ++ two (headW ls).toNat ++ rowsB (ls.take i.2))) :: L))
    (fun i => ls.length - i.2) ((g2, cap2), 0) (by simp [rowsB]) ⟨Nat.zero_le _, by simpa [rowsB] using S⟩ ?_
  repeat clear S
  rintro ⟨⟨g5, cap5⟩, j⟩ d15 w15 ⟨hj, S⟩ K15 hK15
  simp only at hj S ⊢
  simp only [List.getD_cons_zero, List.getD_cons_succ]
  (first | refine s_p ?_ | refine s_c (by omega) ?_); (first | refine s_p ?_ | refine s_c (by omega) ?_)
  refine c_if (fun hjl => ?_) (fun hjl => ?_)
  · have hjl : j < ls.length := by omega
    have hmay := hg.2 _ (List.getElem_mem hjl)
    have hrl := rowsB_le (ls.take j) fun x hx => (hg.2 x (List.mem_of_mem_take hx)).1
    rw [List.length_take] at hrl
    have hrb := rowB_le hmay.1
    obtain ⟨b', off', cap'', n3', q3, c3', e, hR, hcellr⟩ := rws_at gk hjl
    cases e
    (first | refine s_p ?_ | refine s_c (by omega) ?_)
    refine s_ldN (n := 2) rfl (fun j u hj => S.at (hcellr j u hj)) ?_
    refine c_ref01_Bytes (S.at hR.row) hmay.1 fun w18 e18 => ?_
    have S := S.go e18
    refine step S (m := rowB ls[j]) rfl (by simp only [List.length_append, t2]; omega) fun g6 cap6 w19 S => ?_
    (first | refine s_p ?_ | refine s_c (by omega) ?_)
    have ec : l ++ two ls.length ++ two (headW ls).toNat ++ rowsB (ls.take j) ++ rowB ls[j] = l ++ two ls.length ++ two (headW ls).toNat ++ rowsB (ls.take (j + 1)) := by
      rw [snoc_take hjl, rowsB_app, List.append_assoc _ (rowsB _)]; simp [rowsB]
    rw [ec] at S ⊢
    exact hK15 ((g6, cap6), j + 1) _ ⟨hjl, S⟩ (by simp only; omega)
  · have hjj : j = ls.length := by omega
    subst hjj
    have ec : l ++ two ls.length ++ two (headW ls).toNat ++ rowsB (ls.take ls.length) = l ++ listB ls := by
      rw [List.take_length, listB]; simp only [List.append_assoc]
    rw [ec] at S ⊢
    exact h g5 cap5 _ S
end

end Go.Proofs
end

section
namespace Go.Proofs

open Go.Sh Go.BM

set_option maxRecDepth 100000

set_option linter.unusedSimpArgs false

set_option linter.unusedVariables false

section

variable {w0 w : World} {r : Gh} {L : List Asr} {v va vb : Value} {c d : List FnD} {K : Value → World → Prop} {g cap : Nat} {l : List UInt8}

theorem c_ref20_Bytes (hr : Holds r w) (hv : CertG r v c) (hm : MayC c) (h : ∀ w', Ext w w' → K (.string (bs (certB c))) w') : oCall Tryd.prog Tryd.n_ref20_Bytes #[v] w K := by
  refine Tryd.ok_ref20_Bytes ?_
  unfold Tryd.F_ref20_Bytes
  obtain ⟨u, rfl, hu⟩ := hv
  have hu0 := hu
  obtain ⟨p, cap, rfl, hp, hc⟩ := hu.shape
  have hc32 := hm.2.1
  have S := St.start hr
  refine S.box fun b1 w1 S => ?_
  have S : St w r w1 (.cell b1 [.slice p c.length cap] 24 :: []) := S
  refine S.lit (e := 5) (cs := cellsB [76, 87, 67, 1]) (by kernel_rfl) fun b5 w2 S => ?_
  refine S.cvSl rfl (by decide) fun w2 S => ?_
  have hl8 : Value.int IntKind.u8 (c.length : Int) = .int .u8 ((UInt8.ofNat c.length).toNat : Int) := by rw [u8_nat (by omega)]
  (repeat (first | refine s_p ?_ | refine s_c (by omega) ?_ | refine S.ld ?_ | refine S.ldB ?_ | refine S.ce ?_ | refine S.ceB ?_ | refine s_q ?_ | refine s_qc (by omega) ?_ | refine n_some ?_ | rw [List.getD_cons_zero] | rw [List.getD_cons_succ]))
  rw [hl8]
  refine S.lit (e := 5) (cs := cellsB [UInt8.ofNat c.length]) (by kernel_rfl) fun b9 w3 S => ?_
  refine (S.pullO b5).apMb (m := 1) (Sl.blk (S.blk b9)) rfl (by decide) (cellsB_one _) (by decide) fun g cap2 w4 S => ?_
  have S := S.drop b9
  refine l_intro (ι := (Nat × Nat) × Nat) (fun i => [.slice (some ⟨i.1.1, 0, none⟩) ([76, 87, 67, 1] ++ ([UInt8.ofNat c.length] ++ fnsB (c.take i.2))).length i.1.2, .int .i64 i.2])
    (fun i w' => i.2 ≤ c.length ∧ (fnsB (c.take i.2)).length ≤ 210000 * i.2 ∧ StX noX w r w' (mrk i.1.1 5 ([76, 87, 67, 1] ++ ([UInt8.ofNat c.length] ++ fnsB (c.take i.2))).length i.1.2 (cellsB ([76, 87, 67, 1] ++ ([UInt8.ofNat c.length] ++ fnsB (c.take i.2)))) :: .cell b1 [.slice p c.length cap] 24 :: []))
    (fun i => c.length - i.2) ((g, cap2), 0) (by simp [fnsB]) ⟨Nat.zero_le _, Nat.zero_le _, S⟩ ?_
  repeat clear S
  rintro ⟨⟨g5, cap5⟩, i⟩ d15 w15 ⟨hi, hfl, S⟩ K15 hK15
  simp only at hi hfl S ⊢
  simp only [List.getD_cons_zero, List.getD_cons_succ]
  (repeat (first | refine s_p ?_ | refine s_c (by omega) ?_ | refine S.ld ?_ | refine S.ldB ?_ | refine S.ce ?_ | refine S.ceB ?_ | refine s_q ?_ | refine s_qc (by omega) ?_ | refine n_some ?_ | rw [List.getD_cons_zero] | rw [List.getD_cons_succ]))
  refine c_if (fun hlt => ?_) (fun hge => ?_)
  rotate_left
  · have hin : i = c.length := by omega
    subst hin
    rw [List.take_length] at S ⊢
    refine mrk_str S (by kernel_rfl) (by kernel_rfl) ?_
    exact h _ S.ext
  have hlt : i < c.length := by omega
  obtain ⟨b, off, cap', p1, n1, c1, p2, n2, c2, p3, n3, c3, e, g1, g2, g3, hcell⟩ := fns_at hu0 hlt
  cases e
  have hmf := hm.2.2 _ (List.getElem_mem hlt)
  have u0 := listB_le (lsAt_good hmf 0)
  have u1 := listB_le (lsAt_good hmf 1)
  have u2 := listB_le (lsAt_good hmf 2)
  have l0 : ([76, 87, 67, 1] ++ ([UInt8.ofNat c.length] ++ fnsB (c.take i)) : List UInt8).length ≤ 10000000 := by simp only [List.length_append, List.length_cons, List.length_nil]; omega
  (repeat (first | refine s_p ?_ | refine s_c (by omega) ?_ | refine S.ld ?_ | refine S.ldB ?_ | refine S.ce ?_ | refine S.ceB ?_ | refine s_q ?_ | refine s_qc (by omega) ?_ | refine n_some ?_ | rw [List.getD_cons_zero] | rw [List.getD_cons_succ]))
  refine S.rd (a := ⟨b, off + i * 3 + 0, none⟩) (hcell 0 _ rfl) ?_
  refine c_ref20_laid S g1 (lsAt_good hmf 0) (by omega) fun g6 cap6 w6 S => ?_
  (repeat (first | refine s_p ?_ | refine s_c (by omega) ?_ | refine S.ld ?_ | refine S.ldB ?_ | refine S.ce ?_ | refine S.ceB ?_ | refine s_q ?_ | refine s_qc (by omega) ?_ | refine n_some ?_ | rw [List.getD_cons_zero] | rw [List.getD_cons_succ]))
  refine S.rd (a := ⟨b, off + i * 3 + 1, none⟩) (hcell 1 _ rfl) ?_
  refine c_ref20_laid S g2 (lsAt_good hmf 1) (by rw [List.length_append]; simp only [lsAt] at u0; simp at u0; omega) fun g7 cap7 w7 S => ?_
  (repeat (first | refine s_p ?_ | refine s_c (by omega) ?_ | refine S.ld ?_ | refine S.ldB ?_ | refine S.ce ?_ | refine S.ceB ?_ | refine s_q ?_ | refine s_qc (by omega) ?_ | refine n_some ?_ | rw [List.getD_cons_zero] | rw [List.getD_cons_succ]))
  refine S.rd (a := ⟨b, off + i * 3 + 2, none⟩) (hcell 2 _ rfl) ?_
  refine c_ref20_laid S g3 (lsAt_good hmf 2) (by simp only [lsAt] at u0 u1; simp at u0 u1; rw [List.length_append, List.length_append]; omega) fun g8 cap8 w8 S => ?_
  (first | refine s_p ?_ | refine s_c (by omega) ?_)
  have ec : [76, 87, 67, 1] ++ ([UInt8.ofNat c.length] ++ fnsB (c.take i)) ++ listB c[i].rows ++ listB c[i].ranges ++ listB c[i].moves = [76, 87, 67, 1] ++ ([UInt8.ofNat c.length] ++ fnsB (c.take (i + 1))) := by
    rw [snoc_take hlt, fnsB_app]; simp only [List.append_assoc, fnsB, fnB, List.append_nil]
  rw [ec] at S ⊢
  refine hK15 ((g8, cap8), i + 1) _ ⟨hlt, ?_, S⟩ (by simp only; omega)
  simp only
  rw [snoc_take hlt, fnsB_app, List.length_append]
  simp only [lsAt] at u0 u1 u2
  simp at u0 u1 u2
  simp only [fnsB, fnB, List.length_append, List.length_nil]
  omega
theorem c_ref01_SameAll {l m : List RowD} (hr : Holds r w) (hv : RwsG r va l) (hu : RwsG r vb m) (hs : RwSm l) (h : ∀ w', Ext w w' → K (.bool (decide (l = m))) w') : oCall Tryd.prog Tryd.n_ref01_SameAll #[va, vb] w K := by
  refine Tryd.ok_ref01_SameAll ?_
  unfold Tryd.F_ref01_SameAll
  have hv0 := hv
  have hu0 := hu
  have hl := hs.1
  obtain ⟨p1, c1, rfl, _⟩ := hv.shape
  obtain ⟨p2, c2, rfl, _⟩ := hu.shape
  (first | refine s_p ?_ | refine s_c (by omega) ?_); (first | refine s_p ?_ | refine s_c (by omega) ?_); (first | refine s_p ?_ | refine s_c (by omega) ?_)
  refine c_if (fun hne => ?_) (fun heq => ?_)
  · have := h w (Ext.refl w)
    rwa [decide_eq_false (fun e => hne (by rw [e]))] at this
  have heq : l.length = m.length := by omega
  refine l_intro (ι := Nat) (fun i => [.int .i64 i]) (fun i w' => i ≤ l.length ∧ l.take i = m.take i ∧ St w r w' [])
    (fun i => l.length - i) 0 rfl ⟨Nat.zero_le _, rfl, St.start hr⟩ ?_
  rintro i d w2 ⟨hi, hno, S⟩ K2 hK2
  simp only [List.getD_cons_zero]
  (first | refine s_p ?_ | refine s_c (by omega) ?_); (first | refine s_p ?_ | refine s_c (by omega) ?_)
  refine c_if (fun hlt => ?_) (fun hge => ?_)
  · have hlt : i < l.length := by omega
    have hlm : i < m.length := by omega
    obtain ⟨b, off, cap', n1, q1, c2', e, hR, hcell⟩ := rws_at hv0 hlt
    cases e
    obtain ⟨b', off', cap'', n3, q3, c3', e, hR3, hcell3⟩ := rws_at hu0 hlm
    cases e
    have S := S.go (Ext.drew _)
    have hx := hs.2 _ (List.getElem_mem hlt)
    (first | refine s_p ?_ | refine s_c (by omega) ?_)
    refine s_ldN (n := 2) rfl (fun j u hj => S.at (hcell j u hj)) ?_
    (first | refine s_p ?_ | refine s_c (by omega) ?_)
    refine s_ldN (n := 2) rfl (fun j u hj => S.at (hcell3 j u hj)) ?_
    refine c_ref01_Same (S.at hR.row) (S.at hR3.row) (by omega) fun w3 e3 => ?_
    have S := S.go e3
    (first | refine s_p ?_ | refine s_c (by omega) ?_)
    refine c_b (fun hq => ?_) (fun hq => ?_)
    · have hq : ¬ (l[i].1 = m[i].1 ∧ l[i].2 = m[i].2) := fun hh => by simp [hh.1, hh.2] at hq
      have := h _ S.ext
      rwa [decide_eq_false (fun e => hq (by subst e; exact ⟨rfl, rfl⟩))] at this
    · have hq : l[i].1 = m[i].1 ∧ l[i].2 = m[i].2 := by simpa using hq
      (first | refine s_p ?_ | refine s_c (by omega) ?_)
      refine hK2 (i + 1) _ ⟨hlt, ?_, S⟩ (by omega)
      rw [snoc_take hlt, snoc_take hlm, hno, Prod.ext hq.1 hq.2]
  · have hin : i = l.length := by omega
    rw [List.take_of_length_le (by omega), List.take_of_length_le (by omega)] at hno
    have := h _ S.ext
    rwa [decide_eq_true hno] at this
open Classical in
noncomputable def eqF (f g : FnD) : Bool := decide (f = g)
theorem eqF_parts (f g : FnD) : ((decide (f.rows = g.rows) && decide (f.ranges = g.ranges)) && decide (f.moves = g.moves)) = eqF f g := by
  obtain ⟨a, b, c⟩ := f
  obtain ⟨x, y, z⟩ := g
  rw [eqF, ← Bool.decide_and, ← Bool.decide_and]
  exact decide_eq_decide.2 (by simp [and_assoc])
open Classical in
noncomputable def eqC (c d : List FnD) : Bool := decide (c = d)
theorem eqC_t {c d : List FnD} (h : c = d) : eqC c d = true := by simp [eqC, h]
theorem eqC_f {c d : List FnD} (h : c ≠ d) : eqC c d = false := by simp [eqC, h]
theorem c_ref20_EqualFn {cs ds : List Value} {f g : FnD} (hr : Holds r w) (hv : FnC r cs f) (hu : FnC r ds g) (hs : FnSm f) (h : ∀ w', Ext w w' → K (.bool (eqF f g)) w') : oCall Tryd.prog Tryd.n_ref20_EqualFn #[.agg cs.toArray, .agg ds.toArray] w K := by
  refine Tryd.ok_ref20_EqualFn ?_
  unfold Tryd.F_ref20_EqualFn
  obtain ⟨x1, x2, x3, rfl, a1, a2, a3⟩ := hv
  obtain ⟨y1, y2, y3, rfl, b1, b2, b3⟩ := hu
  obtain ⟨p1, k1, rfl, _⟩ := a1.shape
  obtain ⟨p2, k2, rfl, _⟩ := a2.shape
  obtain ⟨p3, k3, rfl, _⟩ := a3.shape
  obtain ⟨q1, m1, rfl, _⟩ := b1.shape
  obtain ⟨q2, m2, rfl, _⟩ := b2.shape
  obtain ⟨q3, m3, rfl, _⟩ := b3.shape
  have S := St.start hr
  refine S.box fun b1' w1 S => ?_
  refine S.box fun b2' w2 S => ?_
  have S : St w r w2 (.cell b2' [.slice q1 g.rows.length m1, .slice q2 g.ranges.length m2, .slice q3 g.moves.length m3] 50 :: .cell b1' [.slice p1 f.rows.length k1, .slice p2 f.ranges.length k2, .slice p3 f.moves.length k3] 50 :: []) := S
  (repeat (first | refine s_p ?_ | refine s_c (by omega) ?_ | refine S.ld ?_ | refine S.ldB ?_ | refine S.ce ?_ | refine S.ceB ?_ | refine s_q ?_ | refine s_qc (by omega) ?_ | refine n_some ?_ | rw [List.getD_cons_zero] | rw [List.getD_cons_succ]))
  refine c_ref01_SameAll S.holds a1 b1 hs.1 fun w3 e3 => ?_
  have S := S.go e3
  refine j_bandR (c := decide (f.ranges = g.ranges)) (R := fun w' => St w r w' (.cell b2' [.slice q1 g.rows.length m1, .slice q2 g.ranges.length m2, .slice q3 g.moves.length m3] 50 :: .cell b1' [.slice p1 f.rows.length k1, .slice p2 f.ranges.length k2, .slice p3 f.moves.length k3] 50 :: [])) (fun _ => S) (fun _ K6 hK6 => ?_) (fun w4 S => ?_)
  · (repeat (first | refine s_p ?_ | refine s_c (by omega) ?_ | refine S.ld ?_ | refine S.ldB ?_ | refine S.ce ?_ | refine S.ceB ?_ | refine s_q ?_ | refine s_qc (by omega) ?_ | refine n_some ?_ | rw [List.getD_cons_zero] | rw [List.getD_cons_succ]))
    refine c_ref01_SameAll S.holds a2 b2 hs.2.1 fun w5 e5 => ?_
    exact hK6 _ (S.go e5)
  refine j_bandR (c := decide (f.moves = g.moves)) (R := fun w' => St w r w' (.cell b2' [.slice q1 g.rows.length m1, .slice q2 g.ranges.length m2, .slice q3 g.moves.length m3] 50 :: .cell b1' [.slice p1 f.rows.length k1, .slice p2 f.ranges.length k2, .slice p3 f.moves.length k3] 50 :: [])) (fun _ => S) (fun _ K6 hK6 => ?_) (fun w5 S => ?_)
  · (repeat (first | refine s_p ?_ | refine s_c (by omega) ?_ | refine S.ld ?_ | refine S.ldB ?_ | refine S.ce ?_ | refine S.ceB ?_ | refine s_q ?_ | refine s_qc (by omega) ?_ | refine n_some ?_ | rw [List.getD_cons_zero] | rw [List.getD_cons_succ]))
    refine c_ref01_SameAll S.holds a3 b3 hs.2.2 fun w6 e6 => ?_
    exact hK6 _ (S.go e6)
  rw [eqF_parts]
  exact h _ S.ext
theorem c_ref20_Equal (hr : Holds r w) (hv : CertG r va c) (hu : CertG r vb d) (hs : CSm c) (h : ∀ w', Ext w w' → K (.bool (eqC c d)) w') : oCall Tryd.prog Tryd.n_ref20_Equal #[va, vb] w K := by
  refine Tryd.ok_ref20_Equal ?_
  unfold Tryd.F_ref20_Equal
  obtain ⟨x, rfl, hx⟩ := hv
  obtain ⟨y, rfl, hy⟩ := hu
  have hx0 := hx
  have hy0 := hy
  have hl := hs.1
  obtain ⟨p1, c1, rfl, _⟩ := hx.shape
  obtain ⟨p2, c2, rfl, _⟩ := hy.shape
  have S := St.start hr
  refine S.box fun b1 w1 S => ?_
  refine S.box fun b2 w2 S => ?_
  have S : St w r w2 (.cell b2 [.slice p2 d.length c2] 24 :: .cell b1 [.slice p1 c.length c1] 24 :: []) := S
  (repeat (first | refine s_p ?_ | refine s_c (by omega) ?_ | refine S.ld ?_ | refine S.ldB ?_ | refine S.ce ?_ | refine S.ceB ?_ | refine s_q ?_ | refine s_qc (by omega) ?_ | refine n_some ?_ | rw [List.getD_cons_zero] | rw [List.getD_cons_succ]))
  refine c_if (fun hne => ?_) (fun heq => ?_)
  · have := h _ S.ext
    rwa [eqC_f (fun e => hne (by rw [e]))] at this
  have heq : c.length = d.length := by omega
  refine l_intro (ι := Nat) (fun i => [.int .i64 i]) (fun i w' => i ≤ c.length ∧ c.take i = d.take i ∧ St w r w' (.cell b2 [.slice p2 d.length c2] 24 :: .cell b1 [.slice p1 c.length c1] 24 :: []))
    (fun i => c.length - i) 0 rfl ⟨Nat.zero_le _, rfl, S⟩ ?_
  repeat clear S
  rintro i d' w3 ⟨hi, hno, S⟩ K2 hK2
  simp only [List.getD_cons_zero]
  (repeat (first | refine s_p ?_ | refine s_c (by omega) ?_ | refine S.ld ?_ | refine S.ldB ?_ | refine S.ce ?_ | refine S.ceB ?_ | refine s_q ?_ | refine s_qc (by omega) ?_ | refine n_some ?_ | rw [List.getD_cons_zero] | rw [List.getD_cons_succ]))
  refine c_if (fun hlt => ?_) (fun hge => ?_)
  · have hlt : i < c.length := by omega
    have hlm : i < d.length := by omega
    obtain ⟨b, off, cap', p1', n1, c1', p2', n2, c2', p3, n3, c3, e, g1, g2, g3, hcell⟩ := fns_at hx0 hlt
    cases e
    obtain ⟨b', off', cap'', q1', n1', k1', q2', n2', k2', q3, n3', k3, e, f1, f2, f3, hcell2⟩ := fns_at hy0 hlm
    cases e
    have S := S.go (Ext.drew _)
    (repeat (first | refine s_p ?_ | refine s_c (by omega) ?_ | refine S.ld ?_ | refine S.ldB ?_ | refine S.ce ?_ | refine S.ceB ?_ | refine s_q ?_ | refine s_qc (by omega) ?_ | refine n_some ?_ | rw [List.getD_cons_zero] | rw [List.getD_cons_succ]))
    refine s_ldN (n := 3) rfl (fun j u hj => S.at (hcell j u hj)) ?_
    (repeat (first | refine s_p ?_ | refine s_c (by omega) ?_ | refine S.ld ?_ | refine S.ldB ?_ | refine S.ce ?_ | refine S.ceB ?_ | refine s_q ?_ | refine s_qc (by omega) ?_ | refine n_some ?_ | rw [List.getD_cons_zero] | rw [List.getD_cons_succ]))
    refine s_ldN (n := 3) rfl (fun j u hj => S.at (hcell2 j u hj)) ?_
    refine c_ref20_EqualFn (cs := [_, _, _]) (ds := [_, _, _]) (f := c[i]) (g := d[i]) S.holds ⟨_, _, _, rfl, g1, g2, g3⟩ ⟨_, _, _, rfl, f1, f2, f3⟩ (hs.2 _ (List.getElem_mem hlt)) fun w4 e4 => ?_
    have S := S.go e4
    (first | refine s_p ?_ | refine s_c (by omega) ?_)
    refine c_b (fun hq => ?_) (fun hq => ?_)
    · have hq : ¬ c[i] = d[i] := by simpa [eqF] using hq
      have := h _ S.ext
      rwa [eqC_f (fun e => hq (by subst e; rfl))] at this
    · have hq : c[i] = d[i] := by simpa [eqF] using hq
      (first | refine s_p ?_ | refine s_c (by omega) ?_)
      refine hK2 (i + 1) _ ⟨hlt, ?_, S⟩ (by omega)
      rw [snoc_take hlt, snoc_take hlm, hno, hq]
  · rw [List.take_of_length_le (by omega), List.take_of_length_le (by omega)] at hno
    have := h _ S.ext
    rwa [eqC_t hno] at this
end

end Go.Proofs
end

section
namespace Go.Proofs
open Go.Sh
set_option maxRecDepth 100000
/- 3: loanword/loanwordlaw20.CertTells -/
def Tryd.A_law20_CertTells : Ann := .s (.r (.op 0 .l (.op 1 .l (.op 2 .p (.nil))))) (.s (.s (.r (.op 0 .q (.op 1 .l (.op 2 .p (.op 3 .p (.grp 17 false [(4, .q), (5, .l), (6, .p)] [20] (.op 7 .p (.nil)))))))) (.c (.s (.r (.op 0 .l (.op 1 .p (.nil)))) (.n)) (.n))) (.s (.r (.op 0 .q (.op 1 .l (.op 2 .l (.op 3 .l (.nil)))))) (.s (.r (.op 0 .q (.op 1 .l (.op 2 .p (.nil))))) (.s (.r (.op 0 .q (.op 1 .l (.op 2 .p (.op 3 .p (.op 4 .p (.op 5 .p (.op 6 .p (.nil))))))))) (.s (.r (.op 0 .q (.op 1 .l (.op 2 .p (.op 3 .p (.op 4 .p (.op 5 .l (.op 6 .l (.op 7 .p (.nil)))))))))) (.s (.r (.op 0 .q (.op 1 .l (.op 2 .p (.op 3 .p (.op 4 .p (.op 5 .l (.op 6 .l (.op 7 .p (.nil)))))))))) (.s (.s (.r (.op 0 .q (.op 1 .l (.op 2 .p (.op 3 .p (.op 4 .p (.grp 46 false [(5, .q), (6, .q), (7, .l), (8, .p), (9, .p)] [49, 51] (.grp 51 true [(10, .q), (11, .l)] [53] (.grp 46 false [(12, .p), (13, .p)] [55] (.grp 55 true [(14, .q), (15, .q), (16, .l)] [58] (.grp 46 false [(17, .p), (18, .p)] [60] (.op 19 .p (.nil))))))))))))) (.c (.s (.r (.op 0 .p (.nil))) (.n)) (.n))) (.s (.s (.r (.op 0 .p (.op 1 .p (.nil)))) (.c (.s (.r (.op 0 .p (.op 1 .p (.op 2 .p (.grp 66 true [(3, .p), (4, .p)] [68] (.op 5 .p (.op 6 .p (.grp 70 true [(7, .p), (8, .p)] [72] (.op 9 .p (.op 10 .p (.grp 74 true [(11, .p), (12, .q), (13, .p), (14, .p)] [78] (.op 15 .p (.op 16 .p (.grp 80 true [(17, .q), (18, .l), (19, .p)] [83] (.op 20 .p (.op 21 .p (.grp 85 true [(22, .q), (23, .q), (24, .l)] [88] (.op 25 .p (.op 26 .p (.grp 90 true [(27, .l)] [91] (.op 28 .p (.op 29 .p (.nil))))))))))))))))))))))) (.n)) (.n))) (.s (.r (.op 0 .q (.op 1 .l (.op 2 .p (.nil))))) (.s (.r (.op 0 .p (.op 1 .p (.op 2 .p (.grp 97 true [(3, .p), (4, .p)] [99] (.op 5 .p (.op 6 .p (.grp 101 true [(7, .p), (8, .p), (9, .p)] [104] (.op 10 .p (.op 11 .p (.grp 106 true [(12, .q), (13, .l), (14, .p), (15, .p), (16, .p)] [111] (.op 17 .p (.op 18 .p (.grp 113 true [(19, .q), (20, .q), (21, .q), (22, .l)] [117] (.op 23 .p (.op 24 .p (.grp 119 true [(25, .q), (26, .q), (27, .l)] [122] (.op 28 .p (.op 29 .p (.grp 124 true [(30, .l)] [125] (.op 31 .p (.op 32 .p (.nil))))))))))))))))))))))) (.n)))))))))))
def Tryd.F_law20_CertTells (t0 : Value) (t1 : Value) (w : World) (K : Value → World → Prop) : Prop :=
 opW Tryd.prog w (Instr.box 24 t0) fun t2 w1 =>
 opW Tryd.prog w1 (Instr.box 24 t1) fun t3 w2 =>
 opQ Tryd.prog w2 (Instr.loadAt 24 t2) fun t14 =>
 oCall Tryd.prog Tryd.n_law20_fits #[t14] w2 fun t15 w3 =>
 opP Tryd.prog (Op.unary .not t15) fun t16 =>
 sJoin (fun K4 => gIf t16 false (opQ Tryd.prog w3 (Instr.loadAt 24 t3) fun t18 =>
 oCall Tryd.prog Tryd.n_law20_fits #[t18] w3 fun t19 w8 =>
 opP Tryd.prog (Op.unary .not t19) fun t20 =>
 K4 [t20] w8) (K4 [undef] w3)) (fun s5 _d6 w7 =>
 oPick t16 (Value.bool true) (s5.getD 0 undef) fun t21 =>
 oCond t21 (oCall Tryd.prog Tryd.n_law20_awake #[] w7 fun t22 w9 =>
 K t22 w9) (opQ Tryd.prog w7 (Instr.loadAt 24 t2) fun t23 =>
 oCall Tryd.prog Tryd.n_ref20_Own #[t23] w7 fun t24 w10 =>
 opW Tryd.prog w10 (Instr.alloc 24 true (.tuple #[])) fun t5 w11 =>
 opU Tryd.prog w11 (Instr.storeAt 24 t5 t24) fun w12 =>
 opQ Tryd.prog w12 (Instr.loadAt 24 t2) fun t25 =>
 oCall Tryd.prog Tryd.n_ref20_May #[t25] w12 fun t26 w13 =>
 opQ Tryd.prog w13 (Instr.loadAt 24 t5) fun t28 =>
 oCall Tryd.prog Tryd.n_cert_Bytes #[t28] w13 fun t29 w14 =>
 opP Tryd.prog (Instr.extract t29 0) fun t30 =>
 opP Tryd.prog (Instr.extract t29 1) fun t31 =>
 opQ Tryd.prog w14 (Instr.loadAt 24 t5) fun t33 =>
 oCall Tryd.prog Tryd.n_cert_Own #[t33] w14 fun t34 w15 =>
 opP Tryd.prog (Instr.extract t34 0) fun t35 =>
 opP Tryd.prog (Instr.extract t34 1) fun t36 =>
 opW Tryd.prog w15 (Instr.alloc 24 true (.tuple #[])) fun t9 w16 =>
 opU Tryd.prog w16 (Instr.storeAt 24 t9 t35) fun w17 =>
 opQ Tryd.prog w17 (Instr.loadAt 24 t5) fun t38 =>
 oCall Tryd.prog Tryd.n_cert_Own #[t38] w17 fun t39 w18 =>
 opP Tryd.prog (Instr.extract t39 0) fun t40 =>
 opP Tryd.prog (Instr.extract t39 1) fun _t41 =>
 opW Tryd.prog w18 (Instr.alloc 24 true (.tuple #[])) fun t11 w19 =>
 opU Tryd.prog w19 (Instr.storeAt 24 t11 t40) fun w20 =>
 opQ Tryd.prog w20 (Instr.loadAt 24 t5) fun t42 =>
 oCall Tryd.prog Tryd.n_cert_May #[t42] w20 fun t43 w21 =>
 opP Tryd.prog (bsem .neq 4 false t43 t26) fun t45 =>
 sJoin (fun K22 => gIf t45 false (opQ Tryd.prog w21 (Instr.loadAt 24 t5) fun t47 =>
 opQ Tryd.prog w21 (Instr.loadAt 24 t3) fun t48 =>
 oCall Tryd.prog Tryd.n_cert_Same #[t47, t48] w21 fun t49 w26 =>
 K22 [t49, t26] w26) (K22 [undef, undef] w21)) (fun s23 _d24 w25 =>
 sJoin (fun K27 => gIf (s23.getD 1 undef) true (opQ Tryd.prog w25 (Instr.loadAt 24 t3) fun t52 =>
 oCall Tryd.prog Tryd.n_ref20_May #[t52] w25 fun t53 w31 =>
 K27 [t53] w31) (K27 [undef] w25)) (fun s28 _d29 w30 =>
 sJoin (fun K32 => gIf t45 false (oPick (s23.getD 1 undef) (s28.getD 0 undef) (Value.bool false) fun t54 =>
 K32 [t54] w30) (K32 [undef] w30)) (fun s33 _d34 w35 =>
 sJoin (fun K36 => gIf (s33.getD 0 undef) true (opQ Tryd.prog w35 (Instr.loadAt 24 t2) fun t56 =>
 opQ Tryd.prog w35 (Instr.loadAt 24 t3) fun t57 =>
 oCall Tryd.prog Tryd.n_ref20_Equal #[t56, t57] w35 fun t58 w40 =>
 K36 [t58] w40) (K36 [undef] w35)) (fun s37 _d38 w39 =>
 sJoin (fun K41 => gIf t45 false (oPick (s33.getD 0 undef) (s37.getD 0 undef) (Value.bool false) fun t59 =>
 opP Tryd.prog (bsem .neq 4 false (s23.getD 0 undef) t59) fun t60 =>
 K41 [t60] w39) (K41 [undef] w39)) (fun s42 _d43 w44 =>
 oPick t45 (Value.bool true) (s42.getD 0 undef) fun t61 =>
 oCond t61 (K (Value.bool false) w44) (opP Tryd.prog (Op.unary .not t26) fun t63 =>
 oCond t63 (opP Tryd.prog (bsem .eql 9 true t30 (Value.string { data := #[] })) fun t65 =>
 sJoin (fun K45 => gIf t65 true (opP Tryd.prog (bsem .eql 28 true t31 (Value.int .i64 2)) fun t68 =>
 K45 [t68] w44) (K45 [undef] w44)) (fun s46 _d47 w48 =>
 oPick t65 (s46.getD 0 undef) (Value.bool false) fun t69 =>
 sJoin (fun K49 => gIf t69 true (opP Tryd.prog (bsem .eql 28 true t36 (Value.int .i64 2)) fun t72 =>
 K49 [t72] w48) (K49 [undef] w48)) (fun s50 _d51 w52 =>
 oPick t69 (s50.getD 0 undef) (Value.bool false) fun t73 =>
 sJoin (fun K53 => gIf t73 true (opP Tryd.prog (Instr.fieldAt 24 t9 0) fun t75 =>
 opQ Tryd.prog w52 (Instr.loadAt 22 t75) fun t76 =>
 opP Tryd.prog (Builtin.len_ #[22] 3 #[t76]) fun t77 =>
 opP Tryd.prog (bsem .eql 3 true t77 (Value.int .i64 0)) fun t78 =>
 K53 [t78] w52) (K53 [undef] w52)) (fun s54 _d55 w56 =>
 oPick t73 (s54.getD 0 undef) (Value.bool false) fun t79 =>
 sJoin (fun K57 => gIf t79 true (opQ Tryd.prog w56 (Instr.loadAt 24 t5) fun t81 =>
 oCall Tryd.prog Tryd.n_cert_Size #[t81] w56 fun t82 w61 =>
 opP Tryd.prog (bsem .eql 3 true t82 (Value.int .i64 0)) fun t83 =>
 K57 [t83] w61) (K57 [undef] w56)) (fun s58 _d59 w60 =>
 oPick t79 (s58.getD 0 undef) (Value.bool false) fun t84 =>
 sJoin (fun K62 => gIf t84 true (opQ Tryd.prog w60 (Instr.loadAt 24 t5) fun t86 =>
 opQ Tryd.prog w60 (Instr.loadAt 24 t2) fun t87 =>
 oCall Tryd.prog Tryd.n_ref20_Equal #[t86, t87] w60 fun t88 w66 =>
 K62 [t88] w66) (K62 [undef] w60)) (fun s63 _d64 w65 =>
 oPick t84 (s63.getD 0 undef) (Value.bool false) fun t89 =>
 sJoin (fun K67 => gIf t89 true (oCall Tryd.prog Tryd.n_law20_awake #[] w65 fun t91 w71 =>
 K67 [t91] w71) (K67 [undef] w65)) (fun s68 _d69 w70 =>
 oPick t89 (s68.getD 0 undef) (Value.bool false) fun t92 =>
 K t92 w70))))))) (opQ Tryd.prog w44 (Instr.loadAt 24 t2) fun t93 =>
 oCall Tryd.prog Tryd.n_ref20_Bytes #[t93] w44 fun t94 w72 =>
 opP Tryd.prog (bsem .eql 28 true t31 (Value.int .i64 0)) fun t96 =>
 sJoin (fun K73 => gIf t96 true (opP Tryd.prog (bsem .eql 28 true t36 (Value.int .i64 0)) fun t99 =>
 K73 [t99] w72) (K73 [undef] w72)) (fun s74 _d75 w76 =>
 oPick t96 (s74.getD 0 undef) (Value.bool false) fun t100 =>
 sJoin (fun K77 => gIf t100 true (opP Tryd.prog (bsem .eql 9 false t30 t94) fun t104 =>
 K77 [t104] w76) (K77 [undef] w76)) (fun s78 _d79 w80 =>
 oPick t100 (s78.getD 0 undef) (Value.bool false) fun t105 =>
 sJoin (fun K81 => gIf t105 true (opQ Tryd.prog w80 (Instr.loadAt 24 t5) fun t107 =>
 oCall Tryd.prog Tryd.n_cert_Size #[t107] w80 fun t108 w85 =>
 opP Tryd.prog (Builtin.len_ #[9] 3 #[t94]) fun t110 =>
 opP Tryd.prog (bsem .eql 3 false t108 t110) fun t111 =>
 K81 [t111] w85) (K81 [undef] w80)) (fun s82 _d83 w84 =>
 oPick t105 (s82.getD 0 undef) (Value.bool false) fun t112 =>
 sJoin (fun K86 => gIf t112 true (opQ Tryd.prog w84 (Instr.loadAt 24 t9) fun t114 =>
 opQ Tryd.prog w84 (Instr.loadAt 24 t11) fun t115 =>
 opQ Tryd.prog w84 (Instr.loadAt 24 t2) fun t116 =>
 oCall Tryd.prog Tryd.n_law20_held #[t114, t115, t116] w84 fun t117 w90 =>
 K86 [t117] w90) (K86 [undef] w84)) (fun s87 _d88 w89 =>
 oPick t112 (s87.getD 0 undef) (Value.bool false) fun t118 =>
 sJoin (fun K91 => gIf t118 true (opQ Tryd.prog w89 (Instr.loadAt 24 t5) fun t120 =>
 opQ Tryd.prog w89 (Instr.loadAt 24 t2) fun t121 =>
 oCall Tryd.prog Tryd.n_ref20_Equal #[t120, t121] w89 fun t122 w95 =>
 K91 [t122] w95) (K91 [undef] w89)) (fun s92 _d93 w94 =>
 oPick t118 (s92.getD 0 undef) (Value.bool false) fun t123 =>
 sJoin (fun K96 => gIf t123 true (oCall Tryd.prog Tryd.n_law20_awake #[] w94 fun t125 w100 =>
 K96 [t125] w100) (K96 [undef] w94)) (fun s97 _d98 w99 =>
 oPick t123 (s97.getD 0 undef) (Value.bool false) fun t126 =>
 K t126 w99)))))))))))))))
theorem Tryd.E_law20_CertTells (t0 t1 : Value) (w : World) (K : Value → World → Prop) : sw ⟨false, false⟩ Tryd.prog (fun _ _ => False) Tryd.A_law20_CertTells (bodyOf Tryd.f3) [t0, t1, undef, undef, undef, undef, undef, undef, undef, undef, undef, undef, undef, undef, undef, undef, undef, undef, undef, undef, undef, undef, undef, undef, undef, undef, undef, undef, undef, undef, undef, undef, undef, undef, undef, undef, undef, undef, undef, undef, undef, undef, undef, undef, undef, undef, undef, undef, undef, undef, undef, undef, undef, undef, undef, undef, undef, undef, undef, undef, undef, undef, undef, undef, undef, undef, undef, undef, undef, undef, undef, undef, undef, undef, undef, undef, undef, undef, undef, undef, undef, undef, undef, undef, undef, undef, undef, undef, undef, undef, undef, undef, undef, undef, undef, undef, undef, undef, undef, undef, undef, undef, undef, undef, undef, undef, undef, undef, undef, undef, undef, undef, undef, undef, undef, undef, undef, undef, undef, undef, undef, undef, undef, undef, undef, undef, undef] w (topQ false Tryd.prog Tryd.f3 w K) = Tryd.F_law20_CertTells t0 t1 w K := by kernel_rfl
theorem Tryd.C_law20_CertTells : chk ⟨false, false⟩ Tryd.prog false Tryd.A_law20_CertTells (bodyOf Tryd.f3) = true := by kernel_rfl
theorem Tryd.ok_law20_CertTells {t0 t1 : Value} {w : World} {K : Value → World → Prop} (h : Tryd.F_law20_CertTells t0 t1 w K) : oCall Tryd.prog Tryd.n_law20_CertTells #[t0, t1] w K :=
  calls_of_sw (cf := ⟨false, false⟩) Tryd.mixed Tryd.func3 rfl Tryd.C_law20_CertTells ((Tryd.E_law20_CertTells t0 t1 w K).mpr h)

/- 4: loanword/loanwordlaw20.CertReads -/
def Tryd.A_law20_CertReads : Ann := .s (.r (.op 0 .l (.op 1 .p (.nil)))) (.s (.s (.r (.op 0 .p (.op 1 .p (.op 2 .p (.nil))))) (.c (.s (.r (.op 0 .l (.op 1 .p (.nil)))) (.n)) (.n))) (.s (.r (.op 0 .p (.op 1 .l (.op 2 .p (.op 3 .p (.op 4 .p (.op 5 .p (.op 6 .l (.op 7 .l (.op 8 .p (.op 9 .p (.nil)))))))))))) (.s (.r (.op 0 .p (.op 1 .l (.op 2 .p (.op 3 .p (.op 4 .p (.op 5 .p (.op 6 .l (.op 7 .l (.op 8 .p (.op 9 .p (.nil)))))))))))) (.s (.r (.op 0 .p (.op 1 .l (.op 2 .p (.op 3 .p (.op 4 .p (.op 5 .p (.op 6 .l (.op 7 .l (.op 8 .p (.op 9 .p (.nil)))))))))))) (.s (.s (.r (.op 0 .p (.op 1 .p (.op 2 .p (.op 3 .p (.grp 50 false [(4, .p), (5, .p), (6, .p)] [53] (.op 7 .p (.op 8 .p (.grp 55 false [(9, .q), (10, .q), (11, .q), (12, .l), (13, .p)] [60] (.op 14 .p (.nil))))))))))) (.c (.s (.r (.op 0 .p (.nil))) (.n)) (.n))) (.s (.r (.op 0 .p (.op 1 .l (.op 2 .p (.op 3 .p (.op 4 .p (.op 5 .p (.op 6 .p (.op 7 .p (.op 8 .p (.nil))))))))))) (.s (.r (.op 0 .p (.op 1 .l (.op 2 .p (.op 3 .p (.op 4 .p (.op 5 .p (.op 6 .p (.op 7 .p (.op 8 .p (.nil))))))))))) (.s (.s (.r (.op 0 .p (.op 1 .p (.op 2 .p (.op 3 .p (.grp 77 false [(4, .p), (5, .p), (6, .p)] [80] (.op 7 .p (.op 8 .p (.grp 82 false [(9, .p), (10, .p), (11, .p), (12, .p), (13, .p)] [87] (.op 14 .p (.nil))))))))))) (.c (.s (.r (.op 0 .p (.nil))) (.n)) (.n))) (.s (.s (.r (.op 0 .p (.nil))) (.b (.lp [16] (.s (.s (.r (.op 0 .p (.op 1 .p (.op 2 .p (.op 3 .p (.nil)))))) (.c (.n) (.n))) (.s (.b (.s (.s (.r (.op 0 .p (.op 1 .p (.op 2 .p (.op 3 .q (.op 4 .p (.op 5 .p (.op 6 .p (.op 7 .q (.op 8 .q (.nil))))))))))) (.c (.s (.r (.op 0 .p (.nil))) (.n)) (.n))) (.s (.r (.op 0 .p (.op 1 .p (.op 2 .p (.op 3 .p (.op 4 .q (.op 5 .l (.op 6 .p (.op 7 .p (.op 8 .p (.op 9 .p (.op 10 .l (.op 11 .l (.op 12 .p (.op 13 .p (.nil)))))))))))))))) (.s (.r (.op 0 .p (.op 1 .p (.op 2 .p (.op 3 .p (.op 4 .q (.op 5 .l (.op 6 .p (.op 7 .p (.op 8 .p (.op 9 .p (.op 10 .l (.op 11 .l (.op 12 .p (.op 13 .p (.nil)))))))))))))))) (.s (.r (.op 0 .p (.op 1 .p (.op 2 .p (.op 3 .p (.grp 127 false [(4, .p), (5, .p), (6, .p)] [130] (.op 7 .p (.op 8 .p (.grp 132 false [(9, .q), (10, .q), (11, .l), (12, .p)] [136] (.op 13 .p (.nil))))))))))) (.c (.s (.r (.op 0 .p (.nil))) (.n)) (.n))))))) (.r (.op 0 .p (.op 1 .p (.op 2 .p (.nil)))))))))) (.s (.r (.op 0 .p (.op 1 .q (.op 2 .l (.op 3 .p (.op 4 .p (.op 5 .p (.op 6 .p (.op 7 .l (.op 8 .l (.op 9 .p (.op 10 .p (.nil))))))))))))) (.s (.r (.op 0 .p (.op 1 .q (.op 2 .l (.op 3 .p (.op 4 .p (.op 5 .p (.op 6 .p (.op 7 .l (.op 8 .l (.op 9 .p (.op 10 .p (.nil))))))))))))) (.s (.r (.op 0 .p (.op 1 .p (.op 2 .p (.op 3 .p (.grp 155 true [(4, .p), (5, .p), (6, .p)] [158] (.op 7 .p (.op 8 .p (.grp 160 true [(9, .q), (10, .q), (11, .l)] [163] (.op 12 .p (.op 13 .p (.grp 165 true [(14, .l)] [166] (.op 15 .p (.op 16 .p (.nil))))))))))))))) (.n)))))))))))))
def Tryd.F_law20_CertReads (t0 : Value) (t1 : Value) (w : World) (K : Value → World → Prop) : Prop :=
 opW Tryd.prog w (Instr.box 38 t1) fun t3 w1 =>
 opP Tryd.prog (Builtin.len_ #[9] 3 #[t0]) fun t26 =>
 opP Tryd.prog (bsem .gtr 3 true t26 (Value.int .i64 65536)) fun t27 =>
 oCond t27 (oCall Tryd.prog Tryd.n_law20_awake #[] w1 fun t28 w2 =>
 K t28 w2) (oCall Tryd.prog Tryd.n_cert_Read #[t0] w1 fun t31 w3 =>
 opP Tryd.prog (Instr.extract t31 0) fun t32 =>
 opP Tryd.prog (Instr.extract t31 1) fun t33 =>
 opP Tryd.prog (Instr.extract t31 2) fun t34 =>
 opW Tryd.prog w3 (Instr.alloc 24 true (.tuple #[])) fun t5 w4 =>
 opU Tryd.prog w4 (Instr.storeAt 24 t5 t32) fun w5 =>
 oCall Tryd.prog Tryd.n_cert_Read #[t0] w5 fun t37 w6 =>
 opP Tryd.prog (Instr.extract t37 0) fun t38 =>
 opP Tryd.prog (Instr.extract t37 1) fun _t39 =>
 opP Tryd.prog (Instr.extract t37 2) fun _t40 =>
 opW Tryd.prog w6 (Instr.alloc 24 true (.tuple #[])) fun t8 w7 =>
 opU Tryd.prog w7 (Instr.storeAt 24 t8 t38) fun w8 =>
 oCall Tryd.prog Tryd.n_ref20_Read #[t0] w8 fun t43 w9 =>
 opP Tryd.prog (Instr.extract t43 0) fun t44 =>
 opP Tryd.prog (Instr.extract t43 1) fun t45 =>
 opP Tryd.prog (Instr.extract t43 2) fun t46 =>
 opW Tryd.prog w9 (Instr.alloc 24 true (.tuple #[])) fun t11 w10 =>
 opU Tryd.prog w10 (Instr.storeAt 24 t11 t44) fun w11 =>
 opP Tryd.prog (bsem .neq 3 false t33 t45) fun t49 =>
 sJoin (fun K12 => gIf t49 false (opP Tryd.prog (bsem .neq 3 false t34 t46) fun t53 =>
 K12 [t53] w11) (K12 [undef] w11)) (fun s13 _d14 w15 =>
 oPick t49 (Value.bool true) (s13.getD 0 undef) fun t54 =>
 sJoin (fun K16 => gIf t54 false (opQ Tryd.prog w15 (Instr.loadAt 24 t5) fun t56 =>
 opQ Tryd.prog w15 (Instr.loadAt 24 t8) fun t57 =>
 opQ Tryd.prog w15 (Instr.loadAt 24 t11) fun t58 =>
 oCall Tryd.prog Tryd.n_law20_held #[t56, t57, t58] w15 fun t59 w20 =>
 opP Tryd.prog (Op.unary .not t59) fun t60 =>
 K16 [t60] w20) (K16 [undef] w15)) (fun s17 _d18 w19 =>
 oPick t54 (Value.bool true) (s17.getD 0 undef) fun t61 =>
 oCond t61 (K (Value.bool false) w19) (oCall Tryd.prog Tryd.n_cert_Heads #[t0] w19 fun t64 w21 =>
 opP Tryd.prog (Instr.extract t64 0) fun t65 =>
 opP Tryd.prog (Instr.extract t64 1) fun t66 =>
 opP Tryd.prog (Instr.extract t64 2) fun t67 =>
 oCall Tryd.prog Tryd.n_ref20_Heads #[t0] w21 fun t70 w22 =>
 opP Tryd.prog (Instr.extract t70 0) fun t71 =>
 opP Tryd.prog (Instr.extract t70 1) fun t72 =>
 opP Tryd.prog (Instr.extract t70 2) fun t73 =>
 opP Tryd.prog (bsem .neq 3 false t66 t72) fun t76 =>
 sJoin (fun K23 => gIf t76 false (opP Tryd.prog (bsem .neq 3 false t67 t73) fun t80 =>
 K23 [t80] w22) (K23 [undef] w22)) (fun s24 _d25 w26 =>
 oPick t76 (Value.bool true) (s24.getD 0 undef) fun t81 =>
 sJoin (fun K27 => gIf t81 false (opP Tryd.prog (Builtin.len_ #[43] 3 #[t65]) fun t84 =>
 opP Tryd.prog (Builtin.len_ #[43] 3 #[t71]) fun t86 =>
 opP Tryd.prog (bsem .neq 3 false t84 t86) fun t87 =>
 K27 [t87] w26) (K27 [undef] w26)) (fun s28 _d29 w30 =>
 oPick t81 (Value.bool true) (s28.getD 0 undef) fun t88 =>
 oCond t88 (K (Value.bool false) w30) (sLoop [(Value.int .i64 0)] w30 (fun s32 _d33 w34 K31 =>
 opP Tryd.prog (Builtin.len_ #[43] 3 #[t65]) fun t91 =>
 opP Tryd.prog (bsem .lss 3 false (s32.getD 0 undef) t91) fun t92 =>
 oCond t92 (opP Tryd.prog (Instr.indexAt 43 t65 (s32.getD 0 undef)) fun t97 =>
 opQ Tryd.prog w34.drew (Instr.loadAt 38 t97) fun t98 =>
 opP Tryd.prog (Instr.indexAt 43 t71 (s32.getD 0 undef)) fun t101 =>
 opQ Tryd.prog w34.drew (Instr.loadAt 38 t101) fun t102 =>
 opQ Tryd.prog w34.drew (bsem .neq 38 false t98 t102) fun t103 =>
 oCond t103 (K (Value.bool false) w34.drew) (opP Tryd.prog (Instr.indexAt 43 t65 (s32.getD 0 undef)) fun t108 =>
 opQ Tryd.prog w34.drew (Instr.loadAt 38 t108) fun t109 =>
 oCall Tryd.prog Tryd.n_cert_Fn #[t0, t109] w34.drew fun t110 w35 =>
 opP Tryd.prog (Instr.extract t110 0) fun t111 =>
 opP Tryd.prog (Instr.extract t110 1) fun t112 =>
 opP Tryd.prog (Instr.extract t110 2) fun t113 =>
 opW Tryd.prog w35 (Instr.alloc 50 true (.tuple #[])) fun t17 w36 =>
 opU Tryd.prog w36 (Instr.storeAt 50 t17 t111) fun w37 =>
 opP Tryd.prog (Instr.indexAt 43 t71 (s32.getD 0 undef)) fun t118 =>
 opQ Tryd.prog w37 (Instr.loadAt 38 t118) fun t119 =>
 oCall Tryd.prog Tryd.n_ref20_Fn #[t0, t119] w37 fun t120 w38 =>
 opP Tryd.prog (Instr.extract t120 0) fun t121 =>
 opP Tryd.prog (Instr.extract t120 1) fun t122 =>
 opP Tryd.prog (Instr.extract t120 2) fun t123 =>
 opW Tryd.prog w38 (Instr.alloc 50 true (.tuple #[])) fun t20 w39 =>
 opU Tryd.prog w39 (Instr.storeAt 50 t20 t121) fun w40 =>
 opP Tryd.prog (bsem .neq 3 false t112 t122) fun t126 =>
 sJoin (fun K41 => gIf t126 false (opP Tryd.prog (bsem .neq 3 false t113 t123) fun t130 =>
 K41 [t130] w40) (K41 [undef] w40)) (fun s42 _d43 w44 =>
 oPick t126 (Value.bool true) (s42.getD 0 undef) fun t131 =>
 sJoin (fun K45 => gIf t131 false (opQ Tryd.prog w44 (Instr.loadAt 50 t17) fun t133 =>
 opQ Tryd.prog w44 (Instr.loadAt 50 t20) fun t134 =>
 oCall Tryd.prog Tryd.n_ref20_EqualFn #[t133, t134] w44 fun t135 w49 =>
 opP Tryd.prog (Op.unary .not t135) fun t136 =>
 K45 [t136] w49) (K45 [undef] w44)) (fun s46 _d47 w48 =>
 oPick t131 (Value.bool true) (s46.getD 0 undef) fun t137 =>
 oCond t137 (K (Value.bool false) w48) (opP Tryd.prog (bsem .add 3 true (s32.getD 0 undef) (Value.int .i64 1)) fun t94 =>
 K31 [t94] w48))))) (opQ Tryd.prog w34 (Instr.loadAt 38 t3) fun t140 =>
 oCall Tryd.prog Tryd.n_cert_Fn #[t0, t140] w34 fun t141 w50 =>
 opP Tryd.prog (Instr.extract t141 0) fun t142 =>
 opP Tryd.prog (Instr.extract t141 1) fun t143 =>
 opP Tryd.prog (Instr.extract t141 2) fun t144 =>
 opW Tryd.prog w50 (Instr.alloc 50 true (.tuple #[])) fun t23 w51 =>
 opU Tryd.prog w51 (Instr.storeAt 50 t23 t142) fun w52 =>
 opQ Tryd.prog w52 (Instr.loadAt 38 t3) fun t147 =>
 oCall Tryd.prog Tryd.n_ref20_Fn #[t0, t147] w52 fun t148 w53 =>
 opP Tryd.prog (Instr.extract t148 0) fun t149 =>
 opP Tryd.prog (Instr.extract t148 1) fun t150 =>
 opP Tryd.prog (Instr.extract t148 2) fun t151 =>
 opW Tryd.prog w53 (Instr.alloc 50 true (.tuple #[])) fun t24 w54 =>
 opU Tryd.prog w54 (Instr.storeAt 50 t24 t149) fun w55 =>
 opP Tryd.prog (bsem .eql 3 false t143 t150) fun t154 =>
 sJoin (fun K56 => gIf t154 true (opP Tryd.prog (bsem .eql 3 false t144 t151) fun t158 =>
 K56 [t158] w55) (K56 [undef] w55)) (fun s57 _d58 w59 =>
 oPick t154 (s57.getD 0 undef) (Value.bool false) fun t159 =>
 sJoin (fun K60 => gIf t159 true (opQ Tryd.prog w59 (Instr.loadAt 50 t23) fun t161 =>
 opQ Tryd.prog w59 (Instr.loadAt 50 t24) fun t162 =>
 oCall Tryd.prog Tryd.n_ref20_EqualFn #[t161, t162] w59 fun t163 w64 =>
 K60 [t163] w64) (K60 [undef] w59)) (fun s61 _d62 w63 =>
 oPick t159 (s61.getD 0 undef) (Value.bool false) fun t164 =>
 sJoin (fun K65 => gIf t164 true (oCall Tryd.prog Tryd.n_law20_awake #[] w63 fun t166 w69 =>
 K65 [t166] w69) (K65 [undef] w63)) (fun s66 _d67 w68 =>
 oPick t164 (s66.getD 0 undef) (Value.bool false) fun t167 =>
 K t167 w68))))))))))))
theorem Tryd.E_law20_CertReads (t0 t1 : Value) (w : World) (K : Value → World → Prop) : sw ⟨false, false⟩ Tryd.prog (fun _ _ => False) Tryd.A_law20_CertReads (bodyOf Tryd.f4) [t0, t1, undef, undef, undef, undef, undef, undef, undef, undef, undef, undef, undef, undef, undef, undef, undef, undef, undef, undef, undef, undef, undef, undef, undef, undef, undef, undef, undef, undef, undef, undef, undef, undef, undef, undef, undef, undef, undef, undef, undef, undef, undef, undef, undef, undef, undef, undef, undef, undef, undef, undef, undef, undef, undef, undef, undef, undef, undef, undef, undef, undef, undef, undef, undef, undef, undef, undef, undef, undef, undef, undef, undef, undef, undef, undef, undef, undef, undef, undef, undef, undef, undef, undef, undef, undef, undef, undef, undef, undef, undef, undef, undef, undef, undef, undef, undef, undef, undef, undef, undef, undef, undef, undef, undef, undef, undef, undef, undef, undef, undef, undef, undef, undef, undef, undef, undef, undef, undef, undef, undef, undef, undef, undef, undef, undef, undef, undef, undef, undef, undef, undef, undef, undef, undef, undef, undef, undef, undef, undef, undef, undef, undef, undef, undef, undef, undef, undef, undef, undef, undef, undef, undef, undef, undef, undef, undef, undef, undef, undef, undef, undef, undef, undef, undef, undef, undef, undef] w (topQ false Tryd.prog Tryd.f4 w K) = Tryd.F_law20_CertReads t0 t1 w K := by kernel_rfl
theorem Tryd.C_law20_CertReads : chk ⟨false, false⟩ Tryd.prog false Tryd.A_law20_CertReads (bodyOf Tryd.f4) = true := by kernel_rfl
theorem Tryd.ok_law20_CertReads {t0 t1 : Value} {w : World} {K : Value → World → Prop} (h : Tryd.F_law20_CertReads t0 t1 w K) : oCall Tryd.prog Tryd.n_law20_CertReads #[t0, t1] w K :=
  calls_of_sw (cf := ⟨false, false⟩) Tryd.mixed Tryd.func4 rfl Tryd.C_law20_CertReads ((Tryd.E_law20_CertReads t0 t1 w K).mpr h)

/- 5: loanword/loanwordlaw20.CertLong -/
def Tryd.A_law20_CertLong : Ann := .s (.r (.op 0 .p (.nil))) (.s (.r (.op 0 .p (.op 1 .p (.op 2 .p (.op 3 .p (.nil)))))) (.s (.r (.op 0 .p (.op 1 .p (.op 2 .l (.op 3 .q (.op 4 .p (.nil))))))) (.s (.r (.op 0 .p (.op 1 .l (.op 2 .p (.op 3 .p (.op 4 .p (.op 5 .p (.op 6 .l (.op 7 .l (.op 8 .p (.op 9 .p (.nil)))))))))))) (.s (.r (.op 0 .p (.op 1 .l (.op 2 .p (.op 3 .p (.op 4 .p (.op 5 .p (.op 6 .p (.op 7 .p (.op 8 .p (.nil))))))))))) (.s (.r (.op 0 .p (.op 1 .p (.op 2 .l (.op 3 .p (.op 4 .p (.op 5 .p (.op 6 .p (.op 7 .l (.op 8 .l (.op 9 .p (.op 10 .p (.nil))))))))))))) (.s (.s (.r (.op 0 .p (.op 1 .q (.op 2 .p (.op 3 .p (.op 4 .p (.grp 43 false [(5, .p), (6, .p), (7, .p)] [46] (.op 8 .p (.op 9 .p (.grp 48 false [(10, .p), (11, .p)] [50] (.op 12 .p (.op 13 .p (.grp 52 false [(14, .p), (15, .p)] [54] (.op 16 .p (.op 17 .p (.grp 56 false [(18, .p), (19, .q), (20, .p), (21, .p)] [60] (.op 22 .p (.op 23 .p (.grp 62 false [(24, .p), (25, .p)] [64] (.op 26 .p (.nil))))))))))))))))))))) (.c (.s (.r (.op 0 .p (.nil))) (.n)) (.n))) (.s (.s (.r (.op 0 .p (.op 1 .p (.nil)))) (.c (.s (.r (.op 0 .p (.op 1 .p (.op 2 .p (.grp 70 true [(3, .p), (4, .p)] [72] (.op 5 .p (.op 6 .p (.grp 74 true [(7, .p), (8, .p)] [76] (.op 9 .p (.op 10 .p (.grp 78 true [(11, .l)] [79] (.op 12 .p (.op 13 .p (.nil)))))))))))))) (.n)) (.n))) (.s (.r (.op 0 .p (.op 1 .p (.op 2 .p (.grp 83 true [(3, .p), (4, .p)] [85] (.op 5 .p (.op 6 .p (.grp 87 true [(7, .p), (8, .p)] [89] (.op 9 .p (.op 10 .p (.grp 91 true [(11, .l)] [92] (.op 12 .p (.op 13 .p (.nil)))))))))))))) (.n)))))))))
def Tryd.F_law20_CertLong (t0 : Value) (w : World) (K : Value → World → Prop) : Prop :=
 opP Tryd.prog (Builtin.min_ #[3, 3] 3 #[t0, (Value.int .i64 3)]) fun t14 =>
 opP Tryd.prog (Builtin.max_ #[3, 3] 3 #[(Value.int .i64 0), t14]) fun t15 =>
 opP Tryd.prog (bsem .add 3 true (Value.int .i64 8388607) t15) fun t17 =>
 opW Tryd.prog w (Instr.makeSlice 57 t17 t17) fun t18 w1 =>
 opQ Tryd.prog w1 (convert 57 9 t18) fun t19 =>
 oCall Tryd.prog Tryd.n_cert_Read #[t19] w1 fun t22 w2 =>
 opP Tryd.prog (Instr.extract t22 0) fun t23 =>
 opP Tryd.prog (Instr.extract t22 1) fun t24 =>
 opP Tryd.prog (Instr.extract t22 2) fun t25 =>
 opW Tryd.prog w2 (Instr.alloc 24 true (.tuple #[])) fun t4 w3 =>
 opU Tryd.prog w3 (Instr.storeAt 24 t4 t23) fun w4 =>
 oCall Tryd.prog Tryd.n_cert_Heads #[t19] w4 fun t28 w5 =>
 opP Tryd.prog (Instr.extract t28 0) fun t29 =>
 opP Tryd.prog (Instr.extract t28 1) fun t30 =>
 opP Tryd.prog (Instr.extract t28 2) fun t31 =>
 opP Tryd.prog (Instr.build 38 #[]) fun t34 =>
 oCall Tryd.prog Tryd.n_cert_Fn #[t19, t34] w5 fun t35 w6 =>
 opP Tryd.prog (Instr.extract t35 0) fun t36 =>
 opP Tryd.prog (Instr.extract t35 1) fun t37 =>
 opP Tryd.prog (Instr.extract t35 2) fun t38 =>
 opW Tryd.prog w6 (Instr.alloc 50 true (.tuple #[])) fun t10 w7 =>
 opU Tryd.prog w7 (Instr.storeAt 50 t10 t36) fun w8 =>
 opP Tryd.prog (Instr.fieldAt 24 t4 0) fun t39 =>
 opQ Tryd.prog w8 (Instr.loadAt 22 t39) fun t40 =>
 opP Tryd.prog (Builtin.len_ #[22] 3 #[t40]) fun t41 =>
 opP Tryd.prog (bsem .neq 3 true t41 (Value.int .i64 0)) fun t42 =>
 sJoin (fun K9 => gIf t42 false (opP Tryd.prog (Builtin.len_ #[43] 3 #[t29]) fun t45 =>
 opP Tryd.prog (bsem .neq 3 true t45 (Value.int .i64 0)) fun t46 =>
 K9 [t46] w8) (K9 [undef] w8)) (fun s10 _d11 w12 =>
 oPick t42 (Value.bool true) (s10.getD 0 undef) fun t47 =>
 sJoin (fun K13 => gIf t47 false (opP Tryd.prog (bsem .neq 3 true t24 (Value.int .i64 0)) fun t50 =>
 K13 [t50] w12) (K13 [undef] w12)) (fun s14 _d15 w16 =>
 oPick t47 (Value.bool true) (s14.getD 0 undef) fun t51 =>
 sJoin (fun K17 => gIf t51 false (opP Tryd.prog (bsem .neq 3 true t30 (Value.int .i64 0)) fun t54 =>
 K17 [t54] w16) (K17 [undef] w16)) (fun s18 _d19 w20 =>
 oPick t51 (Value.bool true) (s18.getD 0 undef) fun t55 =>
 sJoin (fun K21 => gIf t55 false (opP Tryd.prog (Instr.fieldAt 50 t10 0) fun t57 =>
 opQ Tryd.prog w20 (Instr.loadAt 48 t57) fun t58 =>
 opP Tryd.prog (Builtin.len_ #[48] 3 #[t58]) fun t59 =>
 opP Tryd.prog (bsem .neq 3 true t59 (Value.int .i64 0)) fun t60 =>
 K21 [t60] w20) (K21 [undef] w20)) (fun s22 _d23 w24 =>
 oPick t55 (Value.bool true) (s22.getD 0 undef) fun t61 =>
 sJoin (fun K25 => gIf t61 false (opP Tryd.prog (bsem .neq 3 true t37 (Value.int .i64 0)) fun t64 =>
 K25 [t64] w24) (K25 [undef] w24)) (fun s26 _d27 w28 =>
 oPick t61 (Value.bool true) (s26.getD 0 undef) fun t65 =>
 oCond t65 (K (Value.bool false) w28) (opP Tryd.prog (bsem .geq 3 true t15 (Value.int .i64 2)) fun t67 =>
 oCond t67 (opP Tryd.prog (bsem .eql 28 true t25 (Value.int .i64 3)) fun t69 =>
 sJoin (fun K29 => gIf t69 true (opP Tryd.prog (bsem .eql 28 true t31 (Value.int .i64 3)) fun t72 =>
 K29 [t72] w28) (K29 [undef] w28)) (fun s30 _d31 w32 =>
 oPick t69 (s30.getD 0 undef) (Value.bool false) fun t73 =>
 sJoin (fun K33 => gIf t73 true (opP Tryd.prog (bsem .eql 28 true t38 (Value.int .i64 3)) fun t76 =>
 K33 [t76] w32) (K33 [undef] w32)) (fun s34 _d35 w36 =>
 oPick t73 (s34.getD 0 undef) (Value.bool false) fun t77 =>
 sJoin (fun K37 => gIf t77 true (oCall Tryd.prog Tryd.n_law20_awake #[] w36 fun t79 w41 =>
 K37 [t79] w41) (K37 [undef] w36)) (fun s38 _d39 w40 =>
 oPick t77 (s38.getD 0 undef) (Value.bool false) fun t80 =>
 K t80 w40)))) (opP Tryd.prog (bsem .eql 28 true t25 (Value.int .i64 200)) fun t82 =>
 sJoin (fun K42 => gIf t82 true (opP Tryd.prog (bsem .eql 28 true t31 (Value.int .i64 200)) fun t85 =>
 K42 [t85] w28) (K42 [undef] w28)) (fun s43 _d44 w45 =>
 oPick t82 (s43.getD 0 undef) (Value.bool false) fun t86 =>
 sJoin (fun K46 => gIf t86 true (opP Tryd.prog (bsem .eql 28 true t38 (Value.int .i64 2)) fun t89 =>
 K46 [t89] w45) (K46 [undef] w45)) (fun s47 _d48 w49 =>
 oPick t86 (s47.getD 0 undef) (Value.bool false) fun t90 =>
 sJoin (fun K50 => gIf t90 true (oCall Tryd.prog Tryd.n_law20_awake #[] w49 fun t92 w54 =>
 K50 [t92] w54) (K50 [undef] w49)) (fun s51 _d52 w53 =>
 oPick t90 (s51.getD 0 undef) (Value.bool false) fun t93 =>
 K t93 w53))))))))))
theorem Tryd.E_law20_CertLong (t0 : Value) (w : World) (K : Value → World → Prop) : sw ⟨false, false⟩ Tryd.prog (fun _ _ => False) Tryd.A_law20_CertLong (bodyOf Tryd.f5) [t0, undef, undef, undef, undef, undef, undef, undef, undef, undef, undef, undef, undef, undef, undef, undef, undef, undef, undef, undef, undef, undef, undef, undef, undef, undef, undef, undef, undef, undef, undef, undef, undef, undef, undef, undef, undef, undef, undef, undef, undef, undef, undef, undef, undef, undef, undef, undef, undef, undef, undef, undef, undef, undef, undef, undef, undef, undef, undef, undef, undef, undef, undef, undef, undef, undef, undef, undef, undef, undef, undef, undef, undef, undef, undef, undef, undef, undef, undef, undef, undef, undef, undef, undef, undef, undef, undef, undef, undef, undef, undef, undef, undef, undef] w (topQ false Tryd.prog Tryd.f5 w K) = Tryd.F_law20_CertLong t0 w K := by kernel_rfl
theorem Tryd.C_law20_CertLong : chk ⟨false, false⟩ Tryd.prog false Tryd.A_law20_CertLong (bodyOf Tryd.f5) = true := by kernel_rfl
theorem Tryd.ok_law20_CertLong {t0 : Value} {w : World} {K : Value → World → Prop} (h : Tryd.F_law20_CertLong t0 w K) : oCall Tryd.prog Tryd.n_law20_CertLong #[t0] w K :=
  calls_of_sw (cf := ⟨false, false⟩) Tryd.mixed Tryd.func5 rfl Tryd.C_law20_CertLong ((Tryd.E_law20_CertLong t0 w K).mpr h)

/- 6: loanword/loanwordlaw20.CertBack -/
def Tryd.A_law20_CertBack : Ann := .s (.r (.op 0 .l (.op 1 .l (.op 2 .p (.nil))))) (.s (.s (.r (.op 0 .q (.op 1 .l (.op 2 .p (.op 3 .p (.grp 21 false [(4, .q), (5, .l), (6, .p)] [24] (.op 7 .p (.op 8 .p (.grp 26 false [(9, .p), (10, .p), (11, .p)] [29] (.op 12 .p (.nil))))))))))) (.c (.s (.r (.op 0 .l (.op 1 .p (.nil)))) (.n)) (.n))) (.s (.r (.op 0 .q (.op 1 .l (.op 2 .p (.op 3 .p (.op 4 .p (.op 5 .p (.op 6 .p (.nil))))))))) (.s (.r (.op 0 .q (.op 1 .l (.op 2 .p (.op 3 .p (.op 4 .p (.op 5 .p (.op 6 .p (.nil))))))))) (.j [] (.s (.r (.op 0 .p (.op 1 .p (.nil)))) (.c (.s (.r (.op 0 .p (.op 1 .l (.op 2 .p (.op 3 .p (.op 4 .p (.op 5 .p (.op 6 .l (.op 7 .l (.op 8 .p (.op 9 .p (.nil)))))))))))) (.s (.r (.op 0 .p (.op 1 .p (.op 2 .p (.grp 52 false [(3, .p), (4, .p)] [54] (.op 5 .p (.op 6 .p (.grp 56 false [(7, .q), (8, .q), (9, .l), (10, .p)] [60] (.op 11 .p (.op 12 .p (.grp 62 false [(13, .p), (14, .p), (15, .q), (16, .l), (17, .p)] [67] (.op 18 .p (.op 19 .p (.grp 69 false [(20, .p), (21, .p), (22, .p)] [72] (.op 23 .p (.nil)))))))))))))))) (.c (.s (.r (.op 0 .p (.nil))) (.n)) (.n)))) (.n))) (.j [] (.s (.r (.op 0 .p (.op 1 .p (.op 2 .p (.grp 76 true [(3, .p), (4, .p)] [78] (.op 5 .p (.nil))))))) (.c (.s (.r (.op 0 .p (.op 1 .p (.op 2 .p (.op 3 .q (.op 4 .q (.op 5 .l (.op 6 .p (.op 7 .p (.grp 87 false [(8, .p), (9, .p), (10, .p), (11, .p), (12, .p), (13, .p)] [93] (.grp 93 true [(14, .p), (15, .p), (16, .p), (17, .p), (18, .p), (19, .p)] [99] (.grp 87 false [(20, .p)] [100] (.op 21 .p (.op 22 .p (.grp 102 false [(23, .p), (24, .p), (25, .p), (26, .p), (27, .p), (28, .p)] [108] (.grp 108 true [(29, .p), (30, .p), (31, .p), (32, .p), (33, .p), (34, .p)] [114] (.grp 102 false [(35, .p)] [115] (.op 36 .p (.nil))))))))))))))))))) (.c (.s (.r (.op 0 .p (.nil))) (.n)) (.n))) (.n))) (.s (.r (.op 0 .p (.op 1 .l (.op 2 .p (.op 3 .p (.op 4 .p (.op 5 .p (.op 6 .l (.op 7 .l (.op 8 .p (.op 9 .p (.nil)))))))))))) (.s (.s (.r (.op 0 .p (.op 1 .p (.nil)))) (.c (.s (.r (.op 0 .p (.op 1 .q (.op 2 .p (.op 3 .p (.op 4 .p (.grp 129 true [(5, .p), (6, .p)] [131] (.op 7 .p (.op 8 .p (.grp 133 true [(9, .p), (10, .p), (11, .p), (12, .p)] [137] (.op 13 .p (.op 14 .p (.grp 139 true [(15, .l)] [140] (.op 16 .p (.op 17 .p (.nil)))))))))))))))) (.n)) (.n))) (.s (.r (.op 0 .q (.op 1 .l (.op 2 .p (.op 3 .p (.op 4 .p (.op 5 .p (.op 6 .p (.nil))))))))) (.s (.r (.op 0 .p (.op 1 .p (.op 2 .p (.grp 149 true [(3, .p), (4, .p), (5, .p)] [152] (.op 6 .p (.op 7 .p (.grp 154 true [(8, .l)] [155] (.op 9 .p (.op 10 .p (.nil))))))))))) (.n))))))))))
def Tryd.F_law20_CertBack (t0 : Value) (t1 : Value) (t2 : Value) (w : World) (K : Value → World → Prop) : Prop :=
 opW Tryd.prog w (Instr.box 24 t0) fun t3 w1 =>
 opW Tryd.prog w1 (Instr.box 24 t1) fun t4 w2 =>
 opQ Tryd.prog w2 (Instr.loadAt 24 t3) fun t18 =>
 oCall Tryd.prog Tryd.n_law20_fits #[t18] w2 fun t19 w3 =>
 opP Tryd.prog (Op.unary .not t19) fun t20 =>
 sJoin (fun K4 => gIf t20 false (opQ Tryd.prog w3 (Instr.loadAt 24 t4) fun t22 =>
 oCall Tryd.prog Tryd.n_law20_fits #[t22] w3 fun t23 w8 =>
 opP Tryd.prog (Op.unary .not t23) fun t24 =>
 K4 [t24] w8) (K4 [undef] w3)) (fun s5 _d6 w7 =>
 oPick t20 (Value.bool true) (s5.getD 0 undef) fun t25 =>
 sJoin (fun K9 => gIf t25 false (opP Tryd.prog (Builtin.len_ #[9] 3 #[t2]) fun t28 =>
 opP Tryd.prog (bsem .gtr 3 true t28 (Value.int .i64 65536)) fun t29 =>
 K9 [t29] w7) (K9 [undef] w7)) (fun s10 _d11 w12 =>
 oPick t25 (Value.bool true) (s10.getD 0 undef) fun t30 =>
 oCond t30 (oCall Tryd.prog Tryd.n_law20_awake #[] w12 fun t31 w13 =>
 K t31 w13) (opQ Tryd.prog w12 (Instr.loadAt 24 t3) fun t33 =>
 oCall Tryd.prog Tryd.n_cert_Bytes #[t33] w12 fun t34 w14 =>
 opP Tryd.prog (Instr.extract t34 0) fun t35 =>
 opP Tryd.prog (Instr.extract t34 1) fun t36 =>
 opQ Tryd.prog w14 (Instr.loadAt 24 t4) fun t38 =>
 oCall Tryd.prog Tryd.n_cert_Bytes #[t38] w14 fun t39 w15 =>
 opP Tryd.prog (Instr.extract t39 0) fun t40 =>
 opP Tryd.prog (Instr.extract t39 1) fun t41 =>
 sJoin (fun K16 =>
 opP Tryd.prog (bsem .eql 28 true t36 (Value.int .i64 0)) fun t43 =>
 oCond t43 (oCall Tryd.prog Tryd.n_cert_Read #[t35] w15 fun t46 w20 =>
 opP Tryd.prog (Instr.extract t46 0) fun t47 =>
 opP Tryd.prog (Instr.extract t46 1) fun t48 =>
 opP Tryd.prog (Instr.extract t46 2) fun t49 =>
 opW Tryd.prog w20 (Instr.alloc 24 true (.tuple #[])) fun t11 w21 =>
 opU Tryd.prog w21 (Instr.storeAt 24 t11 t47) fun w22 =>
 opP Tryd.prog (bsem .neq 28 true t49 (Value.int .i64 0)) fun t51 =>
 sJoin (fun K23 => gIf t51 false (opP Tryd.prog (bsem .neq 3 true t48 (Value.int .i64 0)) fun t54 =>
 K23 [t54] w22) (K23 [undef] w22)) (fun s24 _d25 w26 =>
 oPick t51 (Value.bool true) (s24.getD 0 undef) fun t55 =>
 sJoin (fun K27 => gIf t55 false (opQ Tryd.prog w26 (Instr.loadAt 24 t11) fun t57 =>
 opQ Tryd.prog w26 (Instr.loadAt 24 t3) fun t58 =>
 oCall Tryd.prog Tryd.n_cert_Same #[t57, t58] w26 fun t59 w31 =>
 opP Tryd.prog (Op.unary .not t59) fun t60 =>
 K27 [t60] w31) (K27 [undef] w26)) (fun s28 _d29 w30 =>
 oPick t55 (Value.bool true) (s28.getD 0 undef) fun t61 =>
 sJoin (fun K32 => gIf t61 false (opP Tryd.prog (Builtin.len_ #[9] 3 #[t35]) fun t64 =>
 opQ Tryd.prog w30 (Instr.loadAt 24 t3) fun t65 =>
 oCall Tryd.prog Tryd.n_cert_Size #[t65] w30 fun t66 w36 =>
 opP Tryd.prog (bsem .neq 3 false t64 t66) fun t67 =>
 K32 [t67] w36) (K32 [undef] w30)) (fun s33 _d34 w35 =>
 oPick t61 (Value.bool true) (s33.getD 0 undef) fun t68 =>
 sJoin (fun K37 => gIf t68 false (opP Tryd.prog (Builtin.len_ #[9] 3 #[t35]) fun t71 =>
 opP Tryd.prog (bsem .gtr 3 true t71 (Value.int .i64 8388608)) fun t72 =>
 K37 [t72] w35) (K37 [undef] w35)) (fun s38 _d39 w40 =>
 oPick t68 (Value.bool true) (s38.getD 0 undef) fun t73 =>
 oCond t73 (K (Value.bool false) w40) (K16 [] w40)))))) (K16 [] w15)) (fun _s17 _d18 w19 =>
 sJoin (fun K41 =>
 opP Tryd.prog (bsem .eql 28 true t36 (Value.int .i64 0)) fun t75 =>
 sJoin (fun K45 => gIf t75 true (opP Tryd.prog (bsem .eql 28 true t41 (Value.int .i64 0)) fun t78 =>
 K45 [t78] w19) (K45 [undef] w19)) (fun s46 _d47 w48 =>
 oPick t75 (s46.getD 0 undef) (Value.bool false) fun t79 =>
 oCond t79 (opP Tryd.prog (bsem .eql 9 false t35 t40) fun t82 =>
 opQ Tryd.prog w48 (Instr.loadAt 24 t3) fun t83 =>
 opQ Tryd.prog w48 (Instr.loadAt 24 t4) fun t84 =>
 oCall Tryd.prog Tryd.n_cert_Same #[t83, t84] w48 fun t85 w49 =>
 opP Tryd.prog (bsem .neq 4 false t82 t85) fun t86 =>
 sJoin (fun K50 => gIf t86 false (opP Tryd.prog (Builtin.len_ #[9] 3 #[t35]) fun t89 =>
 opP Tryd.prog (Builtin.len_ #[9] 3 #[t40]) fun t91 =>
 opP Tryd.prog (bsem .lss 3 false t89 t91) fun t92 =>
 K50 [t92] w49) (K50 [undef] w49)) (fun s51 _d52 w53 =>
 sJoin (fun K54 => gIf (s51.getD 0 undef) true (opP Tryd.prog (Builtin.len_ #[9] 3 #[t35]) fun t96 =>
 opP Tryd.prog (Instr.sliceAt 9 t40 none (some t96) none) fun t97 =>
 opP Tryd.prog (bsem .eql 9 false t97 t35) fun t99 =>
 K54 [t99] w53) (K54 [undef] w53)) (fun s55 _d56 w57 =>
 sJoin (fun K58 => gIf t86 false (oPick (s51.getD 0 undef) (s55.getD 0 undef) (Value.bool false) fun t100 =>
 K58 [t100] w57) (K58 [undef] w57)) (fun s59 _d60 w61 =>
 oPick t86 (Value.bool true) (s59.getD 0 undef) fun t101 =>
 sJoin (fun K62 => gIf t101 false (opP Tryd.prog (Builtin.len_ #[9] 3 #[t40]) fun t104 =>
 opP Tryd.prog (Builtin.len_ #[9] 3 #[t35]) fun t106 =>
 opP Tryd.prog (bsem .lss 3 false t104 t106) fun t107 =>
 K62 [t107] w61) (K62 [undef] w61)) (fun s63 _d64 w65 =>
 sJoin (fun K66 => gIf (s63.getD 0 undef) true (opP Tryd.prog (Builtin.len_ #[9] 3 #[t40]) fun t111 =>
 opP Tryd.prog (Instr.sliceAt 9 t35 none (some t111) none) fun t112 =>
 opP Tryd.prog (bsem .eql 9 false t112 t40) fun t114 =>
 K66 [t114] w65) (K66 [undef] w65)) (fun s67 _d68 w69 =>
 sJoin (fun K70 => gIf t101 false (oPick (s63.getD 0 undef) (s67.getD 0 undef) (Value.bool false) fun t115 =>
 K70 [t115] w69) (K70 [undef] w69)) (fun s71 _d72 w73 =>
 oPick t101 (Value.bool true) (s71.getD 0 undef) fun t116 =>
 oCond t116 (K (Value.bool false) w73) (K41 [] w73)))))))) (K41 [] w48))) (fun _s42 _d43 w44 =>
 oCall Tryd.prog Tryd.n_cert_Read #[t2] w44 fun t119 w74 =>
 opP Tryd.prog (Instr.extract t119 0) fun t120 =>
 opP Tryd.prog (Instr.extract t119 1) fun t121 =>
 opP Tryd.prog (Instr.extract t119 2) fun t122 =>
 opW Tryd.prog w74 (Instr.alloc 24 true (.tuple #[])) fun t14 w75 =>
 opU Tryd.prog w75 (Instr.storeAt 24 t14 t120) fun w76 =>
 opP Tryd.prog (bsem .neq 28 true t122 (Value.int .i64 0)) fun t124 =>
 oCond t124 (opP Tryd.prog (Instr.fieldAt 24 t14 0) fun t125 =>
 opQ Tryd.prog w76 (Instr.loadAt 22 t125) fun t126 =>
 opP Tryd.prog (Builtin.len_ #[22] 3 #[t126]) fun t127 =>
 opP Tryd.prog (bsem .eql 3 true t127 (Value.int .i64 0)) fun t128 =>
 sJoin (fun K77 => gIf t128 true (opP Tryd.prog (bsem .geq 3 true t121 (Value.int .i64 0)) fun t131 =>
 K77 [t131] w76) (K77 [undef] w76)) (fun s78 _d79 w80 =>
 oPick t128 (s78.getD 0 undef) (Value.bool false) fun t132 =>
 sJoin (fun K81 => gIf t132 true (opP Tryd.prog (Builtin.len_ #[9] 3 #[t2]) fun t136 =>
 opP Tryd.prog (bsem .leq 3 false t121 t136) fun t137 =>
 K81 [t137] w80) (K81 [undef] w80)) (fun s82 _d83 w84 =>
 oPick t132 (s82.getD 0 undef) (Value.bool false) fun t138 =>
 sJoin (fun K85 => gIf t138 true (oCall Tryd.prog Tryd.n_law20_awake #[] w84 fun t140 w89 =>
 K85 [t140] w89) (K85 [undef] w84)) (fun s86 _d87 w88 =>
 oPick t138 (s86.getD 0 undef) (Value.bool false) fun t141 =>
 K t141 w88)))) (opQ Tryd.prog w76 (Instr.loadAt 24 t14) fun t143 =>
 oCall Tryd.prog Tryd.n_cert_Bytes #[t143] w76 fun t144 w90 =>
 opP Tryd.prog (Instr.extract t144 0) fun t145 =>
 opP Tryd.prog (Instr.extract t144 1) fun t146 =>
 opP Tryd.prog (bsem .eql 28 true t146 (Value.int .i64 0)) fun t148 =>
 sJoin (fun K91 => gIf t148 true (opP Tryd.prog (bsem .eql 9 false t145 t2) fun t152 =>
 K91 [t152] w90) (K91 [undef] w90)) (fun s92 _d93 w94 =>
 oPick t148 (s92.getD 0 undef) (Value.bool false) fun t153 =>
 sJoin (fun K95 => gIf t153 true (oCall Tryd.prog Tryd.n_law20_awake #[] w94 fun t155 w99 =>
 K95 [t155] w99) (K95 [undef] w94)) (fun s96 _d97 w98 =>
 oPick t153 (s96.getD 0 undef) (Value.bool false) fun t156 =>
 K t156 w98))))))))
theorem Tryd.E_law20_CertBack (t0 t1 t2 : Value) (w : World) (K : Value → World → Prop) : sw ⟨false, false⟩ Tryd.prog (fun _ _ => False) Tryd.A_law20_CertBack (bodyOf Tryd.f6) [t0, t1, t2, undef, undef, undef, undef, undef, undef, undef, undef, undef, undef, undef, undef, undef, undef, undef, undef, undef, undef, undef, undef, undef, undef, undef, undef, undef, undef, undef, undef, undef, undef, undef, undef, undef, undef, undef, undef, undef, undef, undef, undef, undef, undef, undef, undef, undef, undef, undef, undef, undef, undef, undef, undef, undef, undef, undef, undef, undef, undef, undef, undef, undef, undef, undef, undef, undef, undef, undef, undef, undef, undef, undef, undef, undef, undef, undef, undef, undef, undef, undef, undef, undef, undef, undef, undef, undef, undef, undef, undef, undef, undef, undef, undef, undef, undef, undef, undef, undef, undef, undef, undef, undef, undef, undef, undef, undef, undef, undef, undef, undef, undef, undef, undef, undef, undef, undef, undef, undef, undef, undef, undef, undef, undef, undef, undef, undef, undef, undef, undef, undef, undef, undef, undef, undef, undef, undef, undef, undef, undef, undef, undef, undef, undef, undef, undef, undef, undef, undef, undef, undef, undef, undef, undef, undef, undef] w (topQ false Tryd.prog Tryd.f6 w K) = Tryd.F_law20_CertBack t0 t1 t2 w K := by kernel_rfl
theorem Tryd.C_law20_CertBack : chk ⟨false, false⟩ Tryd.prog false Tryd.A_law20_CertBack (bodyOf Tryd.f6) = true := by kernel_rfl
theorem Tryd.ok_law20_CertBack {t0 t1 t2 : Value} {w : World} {K : Value → World → Prop} (h : Tryd.F_law20_CertBack t0 t1 t2 w K) : oCall Tryd.prog Tryd.n_law20_CertBack #[t0, t1, t2] w K :=
  calls_of_sw (cf := ⟨false, false⟩) Tryd.mixed Tryd.func6 rfl Tryd.C_law20_CertBack ((Tryd.E_law20_CertBack t0 t1 t2 w K).mpr h)

/- 7: loanword/loanwordlaw20.CertGoes -/
def Tryd.A_law20_CertGoes : Ann := .s (.r (.op 0 .p (.nil))) (.s (.s (.r (.op 0 .p (.op 1 .p (.op 2 .p (.op 3 .p (.op 4 .p (.op 5 .p (.nil)))))))) (.c (.s (.r (.op 0 .l (.op 1 .p (.nil)))) (.n)) (.n))) (.s (.r (.op 0 .p (.op 1 .l (.op 2 .p (.op 3 .p (.op 4 .p (.op 5 .p (.op 6 .l (.op 7 .l (.op 8 .p (.op 9 .p (.nil)))))))))))) (.s (.s (.r (.op 0 .p (.op 1 .p (.nil)))) (.c (.s (.r (.op 0 .l (.op 1 .p (.nil)))) (.n)) (.n))) (.s (.s (.r (.op 0 .p (.op 1 .p (.op 2 .p (.grp 33 false [(3, .p), (4, .p)] [35] (.op 5 .p (.op 6 .p (.grp 37 false [(7, .p), (8, .p), (9, .p), (10, .p)] [41] (.op 11 .p (.nil)))))))))) (.c (.s (.r (.op 0 .p (.nil))) (.n)) (.n))) (.s (.s (.r (.op 0 .p (.op 1 .p (.op 2 .p (.op 3 .p (.nil)))))) (.c (.s (.r (.op 0 .p (.op 1 .p (.op 2 .p (.op 3 .p (.op 4 .p (.op 5 .p (.op 6 .l (.op 7 .p (.op 8 .p (.op 9 .p (.op 10 .p (.op 11 .l (.op 12 .l (.op 13 .p (.op 14 .p (.nil))))))))))))))))) (.s (.r (.op 0 .p (.op 1 .p (.op 2 .p (.grp 60 true [(3, .p), (4, .p), (5, .p)] [63] (.op 6 .p (.op 7 .p (.grp 65 true [(8, .l)] [66] (.op 9 .p (.op 10 .p (.nil))))))))))) (.n))) (.n))) (.s (.s (.r (.op 0 .p (.nil))) (.b (.lp [11] (.s (.s (.r (.op 0 .p (.op 1 .p (.op 2 .p (.op 3 .p (.nil)))))) (.c (.n) (.n))) (.s (.b (.s (.r (.op 0 .p (.op 1 .p (.op 2 .p (.op 3 .l (.op 4 .p (.op 5 .p (.op 6 .p (.op 7 .p (.op 8 .l (.op 9 .l (.op 10 .p (.op 11 .p (.nil)))))))))))))) (.s (.r (.op 0 .p (.op 1 .p (.op 2 .p (.grp 88 false [(3, .p), (4, .p), (5, .p)] [91] (.op 6 .p (.nil))))))) (.c (.s (.r (.op 0 .p (.nil))) (.n)) (.n))))) (.r (.op 0 .p (.op 1 .p (.op 2 .p (.op 3 .p (.op 4 .p (.op 5 .p (.op 6 .p (.nil)))))))))))))) (.s (.r (.op 0 .l (.op 1 .p (.nil)))) (.n))))))))
def Tryd.F_law20_CertGoes (t0 : Value) (t1 : Value) (w : World) (K : Value → World → Prop) : Prop :=
 opP Tryd.prog (Builtin.len_ #[9] 3 #[t0]) fun t16 =>
 opP Tryd.prog (Builtin.len_ #[9] 3 #[t1]) fun t18 =>
 opP Tryd.prog (bsem .add 3 false t16 t18) fun t19 =>
 opP Tryd.prog (bsem .gtr 3 true t19 (Value.int .i64 65536)) fun t20 =>
 oCond t20 (oCall Tryd.prog Tryd.n_law20_awake #[] w fun t21 w1 =>
 K t21 w1) (oCall Tryd.prog Tryd.n_cert_Read #[t0] w fun t24 w2 =>
 opP Tryd.prog (Instr.extract t24 0) fun t25 =>
 opP Tryd.prog (Instr.extract t24 1) fun t26 =>
 opP Tryd.prog (Instr.extract t24 2) fun t27 =>
 opW Tryd.prog w2 (Instr.alloc 24 true (.tuple #[])) fun t5 w3 =>
 opU Tryd.prog w3 (Instr.storeAt 24 t5 t25) fun w4 =>
 opP Tryd.prog (bsem .eql 28 true t27 (Value.int .i64 0)) fun t29 =>
 oCond t29 (oCall Tryd.prog Tryd.n_law20_awake #[] w4 fun t30 w5 =>
 K t30 w5) (opP Tryd.prog (bsem .neq 28 true t27 (Value.int .i64 200)) fun t32 =>
 sJoin (fun K6 => gIf t32 false (opP Tryd.prog (bsem .lss 3 true t26 (Value.int .i64 0)) fun t35 =>
 K6 [t35] w4) (K6 [undef] w4)) (fun s7 _d8 w9 =>
 oPick t32 (Value.bool true) (s7.getD 0 undef) fun t36 =>
 sJoin (fun K10 => gIf t36 false (opP Tryd.prog (Builtin.len_ #[9] 3 #[t0]) fun t40 =>
 opP Tryd.prog (bsem .gtr 3 false t26 t40) fun t41 =>
 K10 [t41] w9) (K10 [undef] w9)) (fun s11 _d12 w13 =>
 oPick t36 (Value.bool true) (s11.getD 0 undef) fun t42 =>
 oCond t42 (K (Value.bool false) w13) (opP Tryd.prog (Builtin.len_ #[9] 3 #[t0]) fun t45 =>
 opP Tryd.prog (bsem .lss 3 false t26 t45) fun t46 =>
 oCond t46 (opP Tryd.prog (bsem .add 3 true t26 (Value.int .i64 1)) fun t50 =>
 opP Tryd.prog (Instr.sliceAt 9 t0 none (some t50) none) fun t51 =>
 opP Tryd.prog (bsem .add 9 false t51 t1) fun t53 =>
 oCall Tryd.prog Tryd.n_cert_Read #[t53] w13 fun t54 w14 =>
 opP Tryd.prog (Instr.extract t54 0) fun t55 =>
 opP Tryd.prog (Instr.extract t54 1) fun t56 =>
 opP Tryd.prog (Instr.extract t54 2) fun t57 =>
 opW Tryd.prog w14 (Instr.alloc 24 true (.tuple #[])) fun t8 w15 =>
 opU Tryd.prog w15 (Instr.storeAt 24 t8 t55) fun w16 =>
 opP Tryd.prog (bsem .eql 28 true t57 (Value.int .i64 200)) fun t59 =>
 sJoin (fun K17 => gIf t59 true (opP Tryd.prog (bsem .eql 3 false t56 t26) fun t63 =>
 K17 [t63] w16) (K17 [undef] w16)) (fun s18 _d19 w20 =>
 oPick t59 (s18.getD 0 undef) (Value.bool false) fun t64 =>
 sJoin (fun K21 => gIf t64 true (oCall Tryd.prog Tryd.n_law20_awake #[] w20 fun t66 w25 =>
 K21 [t66] w25) (K21 [undef] w20)) (fun s22 _d23 w24 =>
 oPick t64 (s22.getD 0 undef) (Value.bool false) fun t67 =>
 K t67 w24))) (sLoop [(Value.int .i64 0)] w13 (fun s27 _d28 w29 K26 =>
 opP Tryd.prog (Builtin.len_ #[9] 3 #[t0]) fun t70 =>
 opP Tryd.prog (bsem .lss 3 false (s27.getD 0 undef) t70) fun t71 =>
 oCond t71 (opP Tryd.prog (Instr.sliceAt 9 t0 none (some (s27.getD 0 undef)) none) fun t81 =>
 oCall Tryd.prog Tryd.n_cert_Read #[t81] w29 fun t82 w30 =>
 opP Tryd.prog (Instr.extract t82 0) fun t83 =>
 opP Tryd.prog (Instr.extract t82 1) fun t84 =>
 opP Tryd.prog (Instr.extract t82 2) fun t85 =>
 opW Tryd.prog w30 (Instr.alloc 24 true (.tuple #[])) fun t12 w31 =>
 opU Tryd.prog w31 (Instr.storeAt 24 t12 t83) fun w32 =>
 opP Tryd.prog (bsem .neq 28 true t85 (Value.int .i64 200)) fun t87 =>
 sJoin (fun K33 => gIf t87 false (opP Tryd.prog (bsem .neq 3 false t84 (s27.getD 0 undef)) fun t91 =>
 K33 [t91] w32) (K33 [undef] w32)) (fun s34 _d35 w36 =>
 oPick t87 (Value.bool true) (s34.getD 0 undef) fun t92 =>
 oCond t92 (K (Value.bool false) w36) (opP Tryd.prog (Builtin.len_ #[9] 3 #[t0]) fun t74 =>
 opP Tryd.prog (bsem .quo 3 true t74 (Value.int .i64 20)) fun t75 =>
 opP Tryd.prog (bsem .add 3 true (Value.int .i64 1) t75) fun t76 =>
 opP Tryd.prog (bsem .add 3 false (s27.getD 0 undef) t76) fun t77 =>
 K26 [t77] w36))) (oCall Tryd.prog Tryd.n_law20_awake #[] w29 fun t93 w37 =>
 K t93 w37))))))))
theorem Tryd.E_law20_CertGoes (t0 t1 : Value) (w : World) (K : Value → World → Prop) : sw ⟨false, false⟩ Tryd.prog (fun _ _ => False) Tryd.A_law20_CertGoes (bodyOf Tryd.f7) [t0, t1, undef, undef, undef, undef, undef, undef, undef, undef, undef, undef, undef, undef, undef, undef, undef, undef, undef, undef, undef, undef, undef, undef, undef, undef, undef, undef, undef, undef, undef, undef, undef, undef, undef, undef, undef, undef, undef, undef, undef, undef, undef, undef, undef, undef, undef, undef, undef, undef, undef, undef, undef, undef, undef, undef, undef, undef, undef, undef, undef, undef, undef, undef, undef, undef, undef, undef, undef, undef, undef, undef, undef, undef, undef, undef, undef, undef, undef, undef, undef, undef, undef, undef, undef, undef, undef, undef, undef, undef, undef, undef, undef, undef] w (topQ false Tryd.prog Tryd.f7 w K) = Tryd.F_law20_CertGoes t0 t1 w K := by kernel_rfl
theorem Tryd.C_law20_CertGoes : chk ⟨false, false⟩ Tryd.prog false Tryd.A_law20_CertGoes (bodyOf Tryd.f7) = true := by kernel_rfl
theorem Tryd.ok_law20_CertGoes {t0 t1 : Value} {w : World} {K : Value → World → Prop} (h : Tryd.F_law20_CertGoes t0 t1 w K) : oCall Tryd.prog Tryd.n_law20_CertGoes #[t0, t1] w K :=
  calls_of_sw (cf := ⟨false, false⟩) Tryd.mixed Tryd.func7 rfl Tryd.C_law20_CertGoes ((Tryd.E_law20_CertGoes t0 t1 w K).mpr h)

/- 8: loanword/loanwordlaw20.CertParts -/
def Tryd.A_law20_CertParts : Ann := .s (.r (.op 0 .p (.nil))) (.s (.s (.r (.op 0 .p (.op 1 .p (.op 2 .p (.nil))))) (.c (.s (.r (.op 0 .l (.op 1 .p (.nil)))) (.n)) (.n))) (.s (.r (.op 0 .p (.op 1 .l (.op 2 .p (.op 3 .p (.op 4 .p (.op 5 .p (.op 6 .l (.op 7 .l (.op 8 .p (.op 9 .p (.nil)))))))))))) (.s (.r (.op 0 .p (.op 1 .l (.op 2 .p (.op 3 .p (.op 4 .p (.op 5 .p (.op 6 .p (.op 7 .p (.op 8 .p (.nil))))))))))) (.s (.s (.r (.op 0 .p (.op 1 .p (.nil)))) (.c (.s (.r (.op 0 .p (.op 1 .p (.op 2 .p (.op 3 .p (.grp 36 true [(4, .p), (5, .p), (6, .p)] [39] (.op 7 .p (.op 8 .p (.grp 41 true [(9, .l)] [42] (.op 10 .p (.op 11 .p (.nil)))))))))))) (.n)) (.n))) (.s (.r (.op 0 .l (.nil))) (.s (.r (.op 0 .p (.nil))) (.s (.s (.r (.op 0 .p (.nil))) (.b (.lp [10, 11] (.s (.s (.r (.op 0 .p (.op 1 .p (.op 2 .p (.op 3 .p (.nil)))))) (.c (.n) (.n))) (.s (.b (.s (.r (.op 0 .p (.op 1 .p (.op 2 .p (.op 3 .p (.op 4 .q (.op 5 .l (.op 6 .p (.op 7 .p (.op 8 .p (.op 9 .p (.op 10 .l (.op 11 .l (.op 12 .p (.op 13 .p (.nil)))))))))))))))) (.j [10] (.s (.r (.op 0 .p (.op 1 .p (.nil)))) (.c (.s (.s (.r (.op 0 .p (.op 1 .p (.op 2 .p (.grp 64 false [(3, .p), (4, .p), (5, .p), (6, .p), (7, .p), (8, .q), (9, .p)] [71] (.op 10 .p (.nil))))))) (.c (.s (.r (.op 0 .p (.nil))) (.n)) (.n))) (.s (.r (.op 0 .p (.op 1 .p (.nil)))) (.c (.r (.op 0 .p (.op 1 .p (.nil)))) (.n)))) (.n))) (.r (.op 0 .p (.op 1 .q (.op 2 .q (.op 3 .l (.op 4 .l (.op 5 .p (.op 6 .l (.nil)))))))))))) (.r (.op 0 .p (.op 1 .p (.op 2 .p (.nil)))))))))) (.s (.s (.r (.op 0 .p (.op 1 .p (.nil)))) (.c (.s (.r (.op 0 .p (.op 1 .p (.op 2 .p (.grp 86 true [(3, .p), (4, .p), (5, .p)] [89] (.op 6 .p (.op 7 .p (.grp 91 true [(8, .l)] [92] (.op 9 .p (.op 10 .p (.nil))))))))))) (.n)) (.n))) (.s (.r (.op 0 .p (.op 1 .p (.op 2 .p (.grp 96 true [(3, .p), (4, .p)] [98] (.op 5 .p (.op 6 .p (.grp 100 true [(7, .q), (8, .q), (9, .l)] [103] (.op 10 .p (.op 11 .p (.grp 105 true [(12, .l)] [106] (.op 13 .p (.op 14 .p (.nil)))))))))))))) (.n))))))))))
def Tryd.F_law20_CertParts (t0 : Value) (w : World) (K : Value → World → Prop) : Prop :=
 opP Tryd.prog (Builtin.len_ #[9] 3 #[t0]) fun t16 =>
 opP Tryd.prog (bsem .gtr 3 true t16 (Value.int .i64 65536)) fun t17 =>
 oCond t17 (oCall Tryd.prog Tryd.n_law20_awake #[] w fun t18 w1 =>
 K t18 w1) (oCall Tryd.prog Tryd.n_cert_Read #[t0] w fun t21 w2 =>
 opP Tryd.prog (Instr.extract t21 0) fun t22 =>
 opP Tryd.prog (Instr.extract t21 1) fun t23 =>
 opP Tryd.prog (Instr.extract t21 2) fun t24 =>
 opW Tryd.prog w2 (Instr.alloc 24 true (.tuple #[])) fun t3 w3 =>
 opU Tryd.prog w3 (Instr.storeAt 24 t3 t22) fun w4 =>
 oCall Tryd.prog Tryd.n_cert_Heads #[t0] w4 fun t27 w5 =>
 opP Tryd.prog (Instr.extract t27 0) fun t28 =>
 opP Tryd.prog (Instr.extract t27 1) fun t29 =>
 opP Tryd.prog (Instr.extract t27 2) fun t30 =>
 opP Tryd.prog (bsem .neq 28 true t30 (Value.int .i64 0)) fun t32 =>
 oCond t32 (opP Tryd.prog (bsem .eql 28 false t24 t30) fun t35 =>
 sJoin (fun K6 => gIf t35 true (opP Tryd.prog (bsem .leq 3 false t23 t29) fun t39 =>
 K6 [t39] w5) (K6 [undef] w5)) (fun s7 _d8 w9 =>
 oPick t35 (s7.getD 0 undef) (Value.bool false) fun t40 =>
 sJoin (fun K10 => gIf t40 true (oCall Tryd.prog Tryd.n_law20_awake #[] w9 fun t42 w14 =>
 K10 [t42] w14) (K10 [undef] w9)) (fun s11 _d12 w13 =>
 oPick t40 (s11.getD 0 undef) (Value.bool false) fun t43 =>
 K t43 w13))) (opW Tryd.prog w5 (Instr.alloc 24 true (.tuple #[])) fun t9 w15 =>
 sLoop [(Value.int .i64 (-1)), (Value.int .i64 0)] w15 (fun s17 _d18 w19 K16 =>
 opP Tryd.prog (Builtin.len_ #[43] 3 #[t28]) fun t46 =>
 opP Tryd.prog (bsem .lss 3 false (s17.getD 1 undef) t46) fun t47 =>
 oCond t47 (opP Tryd.prog (Instr.indexAt 43 t28 (s17.getD 1 undef)) fun t54 =>
 opQ Tryd.prog w19 (Instr.loadAt 38 t54) fun t55 =>
 oCall Tryd.prog Tryd.n_cert_Fn #[t0, t55] w19 fun t56 w20 =>
 opP Tryd.prog (Instr.extract t56 0) fun t57 =>
 opP Tryd.prog (Instr.extract t56 1) fun t58 =>
 opP Tryd.prog (Instr.extract t56 2) fun t59 =>
 opW Tryd.prog w20 (Instr.alloc 50 true (.tuple #[])) fun t12 w21 =>
 opU Tryd.prog w21 (Instr.storeAt 50 t12 t57) fun w22 =>
 sJoin (fun K23 =>
 opP Tryd.prog (bsem .neq 28 true t59 (Value.int .i64 0)) fun t61 =>
 oCond t61 (opP Tryd.prog (bsem .neq 28 true t59 (Value.int .i64 200)) fun t63 =>
 sJoin (fun K27 => gIf t63 false (opP Tryd.prog (Instr.indexAt 43 t28 (s17.getD 1 undef)) fun t68 =>
 opP Tryd.prog (Instr.fieldAt 38 t68 6) fun t69 =>
 opQ Tryd.prog w22 (Instr.loadAt 3 t69) fun t70 =>
 opP Tryd.prog (bsem .lss 3 false t58 t70) fun t71 =>
 K27 [t71] w22) (K27 [undef] w22)) (fun s28 _d29 w30 =>
 oPick t63 (Value.bool true) (s28.getD 0 undef) fun t72 =>
 oCond t72 (K (Value.bool false) w30) (opP Tryd.prog (bsem .lss 3 true (s17.getD 0 undef) (Value.int .i64 0)) fun t74 =>
 oCond t74 (K23 [t58] w30) (K23 [(s17.getD 0 undef)] w30)))) (K23 [(s17.getD 0 undef)] w22)) (fun s24 _d25 w26 =>
 opP Tryd.prog (Instr.fieldAt 24 t9 0) fun t76 =>
 opQ Tryd.prog w26 (Instr.loadAt 22 t76) fun t77 =>
 opQ Tryd.prog w26 (Instr.loadAt 50 t12) fun t78 =>
 opW Tryd.prog w26 (Instr.buildSlice 22 1 #[(0, t78)]) fun t79 w31 =>
 opW Tryd.prog w31 (Builtin.append_ #[22, 22] 22 #[t77, t79]) fun t80 w32 =>
 opP Tryd.prog (Instr.fieldAt 24 t9 0) fun t81 =>
 opU Tryd.prog w32 (Instr.storeAt 22 t81 t80) fun w33 =>
 opP Tryd.prog (bsem .add 3 true (s17.getD 1 undef) (Value.int .i64 1)) fun t49 =>
 K16 [(s24.getD 0 undef), t49] w33)) (opP Tryd.prog (bsem .geq 3 true (s17.getD 0 undef) (Value.int .i64 0)) fun t83 =>
 oCond t83 (opP Tryd.prog (bsem .eql 28 true t24 (Value.int .i64 200)) fun t85 =>
 sJoin (fun K34 => gIf t85 true (opP Tryd.prog (bsem .eql 3 false t23 (s17.getD 0 undef)) fun t89 =>
 K34 [t89] w19) (K34 [undef] w19)) (fun s35 _d36 w37 =>
 oPick t85 (s35.getD 0 undef) (Value.bool false) fun t90 =>
 sJoin (fun K38 => gIf t90 true (oCall Tryd.prog Tryd.n_law20_awake #[] w37 fun t92 w42 =>
 K38 [t92] w42) (K38 [undef] w37)) (fun s39 _d40 w41 =>
 oPick t90 (s39.getD 0 undef) (Value.bool false) fun t93 =>
 K t93 w41))) (opP Tryd.prog (bsem .eql 28 true t24 (Value.int .i64 0)) fun t95 =>
 sJoin (fun K43 => gIf t95 true (opP Tryd.prog (bsem .eql 3 true t23 (Value.int .i64 0)) fun t98 =>
 K43 [t98] w19) (K43 [undef] w19)) (fun s44 _d45 w46 =>
 oPick t95 (s44.getD 0 undef) (Value.bool false) fun t99 =>
 sJoin (fun K47 => gIf t99 true (opQ Tryd.prog w46 (Instr.loadAt 24 t3) fun t101 =>
 opQ Tryd.prog w46 (Instr.loadAt 24 t9) fun t102 =>
 oCall Tryd.prog Tryd.n_cert_Same #[t101, t102] w46 fun t103 w51 =>
 K47 [t103] w51) (K47 [undef] w46)) (fun s48 _d49 w50 =>
 oPick t99 (s48.getD 0 undef) (Value.bool false) fun t104 =>
 sJoin (fun K52 => gIf t104 true (oCall Tryd.prog Tryd.n_law20_awake #[] w50 fun t106 w56 =>
 K52 [t106] w56) (K52 [undef] w50)) (fun s53 _d54 w55 =>
 oPick t104 (s53.getD 0 undef) (Value.bool false) fun t107 =>
 K t107 w55))))))))
theorem Tryd.E_law20_CertParts (t0 : Value) (w : World) (K : Value → World → Prop) : sw ⟨false, false⟩ Tryd.prog (fun _ _ => False) Tryd.A_law20_CertParts (bodyOf Tryd.f8) [t0, undef, undef, undef, undef, undef, undef, undef, undef, undef, undef, undef, undef, undef, undef, undef, undef, undef, undef, undef, undef, undef, undef, undef, undef, undef, undef, undef, undef, undef, undef, undef, undef, undef, undef, undef, undef, undef, undef, undef, undef, undef, undef, undef, undef, undef, undef, undef, undef, undef, undef, undef, undef, undef, undef, undef, undef, undef, undef, undef, undef, undef, undef, undef, undef, undef, undef, undef, undef, undef, undef, undef, undef, undef, undef, undef, undef, undef, undef, undef, undef, undef, undef, undef, undef, undef, undef, undef, undef, undef, undef, undef, undef, undef, undef, undef, undef, undef, undef, undef, undef, undef, undef, undef, undef, undef, undef, undef] w (topQ false Tryd.prog Tryd.f8 w K) = Tryd.F_law20_CertParts t0 w K := by kernel_rfl
theorem Tryd.C_law20_CertParts : chk ⟨false, false⟩ Tryd.prog false Tryd.A_law20_CertParts (bodyOf Tryd.f8) = true := by kernel_rfl
theorem Tryd.ok_law20_CertParts {t0 : Value} {w : World} {K : Value → World → Prop} (h : Tryd.F_law20_CertParts t0 w K) : oCall Tryd.prog Tryd.n_law20_CertParts #[t0] w K :=
  calls_of_sw (cf := ⟨false, false⟩) Tryd.mixed Tryd.func8 rfl Tryd.C_law20_CertParts ((Tryd.E_law20_CertParts t0 w K).mpr h)

/- 9: loanword/loanwordlaw20.fits -/
def Tryd.A_law20_fits : Ann := .s (.r (.op 0 .l (.op 1 .p (.nil)))) (.s (.r (.op 0 .p (.nil))) (.s (.s (.r (.op 0 .p (.nil))) (.b (.lp [3, 4] (.s (.s (.r (.op 0 .p (.op 1 .p (.op 2 .q (.op 3 .p (.op 4 .p (.op 5 .p (.grp 11 true [(6, .p), (7, .q), (8, .p), (9, .p)] [15] (.op 10 .p (.nil)))))))))) (.c (.n) (.n))) (.s (.b (.s (.r (.op 0 .p (.op 1 .q (.op 2 .p (.op 3 .p (.op 4 .q (.op 5 .l (.op 6 .l (.nil))))))))) (.s (.s (.r (.op 0 .p (.op 1 .q (.op 2 .l (.op 3 .p (.op 4 .p (.grp 28 false [(5, .p), (6, .q), (7, .l), (8, .p)] [32] (.op 9 .p (.op 10 .p (.grp 34 false [(11, .p), (12, .q), (13, .l), (14, .p)] [38] (.op 15 .p (.nil)))))))))))) (.c (.s (.r (.op 0 .p (.nil))) (.n)) (.n))) (.r (.op 0 .p (.op 1 .p (.op 2 .q (.op 3 .p (.op 4 .p (.op 5 .q (.op 6 .p (.op 7 .p (.op 8 .p (.op 9 .q (.op 10 .p (.op 11 .p (.op 12 .p (.op 13 .p (.nil))))))))))))))))))) (.r (.op 0 .p (.op 1 .p (.op 2 .p (.nil)))))))))) (.s (.r (.op 0 .p (.op 1 .q (.op 2 .p (.op 3 .p (.op 4 .p (.grp 57 true [(5, .p), (6, .p)] [59] (.op 7 .p (.op 8 .p (.nil)))))))))) (.n))))
def Tryd.F_law20_fits (t0 : Value) (w : World) (K : Value → World → Prop) : Prop :=
 opW Tryd.prog w (Instr.box 24 t0) fun t1 w1 =>
 sLoop [(Value.int .i64 0), (Value.int .i64 0)] w1 (fun s3 _d4 w5 K2 =>
 opP Tryd.prog (Instr.fieldAt 24 t1 0) fun t7 =>
 opQ Tryd.prog w5 (Instr.loadAt 22 t7) fun t8 =>
 opP Tryd.prog (Builtin.len_ #[22] 3 #[t8]) fun t9 =>
 opP Tryd.prog (bsem .lss 3 false (s3.getD 1 undef) t9) fun t10 =>
 sJoin (fun K6 => gIf t10 true (opP Tryd.prog (Instr.fieldAt 24 t1 0) fun t12 =>
 opQ Tryd.prog w5 (Instr.loadAt 22 t12) fun t13 =>
 opP Tryd.prog (Builtin.len_ #[22] 3 #[t13]) fun t14 =>
 opP Tryd.prog (bsem .leq 3 true t14 (Value.int .i64 60)) fun t15 =>
 K6 [t15] w5) (K6 [undef] w5)) (fun s7 _d8 w9 =>
 oPick t10 (s7.getD 0 undef) (Value.bool false) fun t16 =>
 oCond t16 (opP Tryd.prog (Instr.fieldAt 24 t1 0) fun t19 =>
 opQ Tryd.prog w9 (Instr.loadAt 22 t19) fun t20 =>
 opP Tryd.prog (Instr.indexAt 22 t20 (s3.getD 1 undef)) fun t22 =>
 opQ Tryd.prog w9 (Instr.loadAt 50 t22) fun t23 =>
 opW Tryd.prog w9 (Instr.alloc 50 true (.tuple #[])) fun t5 w10 =>
 opU Tryd.prog w10 (Instr.storeAt 50 t5 t23) fun w11 =>
 opP Tryd.prog (Instr.fieldAt 50 t5 0) fun t24 =>
 opQ Tryd.prog w11 (Instr.loadAt 48 t24) fun t25 =>
 oCall Tryd.prog Tryd.n_law20_listFits #[t25] w11 fun t26 w12 =>
 opP Tryd.prog (Op.unary .not t26) fun t27 =>
 sJoin (fun K13 => gIf t27 false (opP Tryd.prog (Instr.fieldAt 50 t5 1) fun t29 =>
 opQ Tryd.prog w12 (Instr.loadAt 48 t29) fun t30 =>
 oCall Tryd.prog Tryd.n_law20_listFits #[t30] w12 fun t31 w17 =>
 opP Tryd.prog (Op.unary .not t31) fun t32 =>
 K13 [t32] w17) (K13 [undef] w12)) (fun s14 _d15 w16 =>
 oPick t27 (Value.bool true) (s14.getD 0 undef) fun t33 =>
 sJoin (fun K18 => gIf t33 false (opP Tryd.prog (Instr.fieldAt 50 t5 2) fun t35 =>
 opQ Tryd.prog w16 (Instr.loadAt 48 t35) fun t36 =>
 oCall Tryd.prog Tryd.n_law20_listFits #[t36] w16 fun t37 w22 =>
 opP Tryd.prog (Op.unary .not t37) fun t38 =>
 K18 [t38] w22) (K18 [undef] w16)) (fun s19 _d20 w21 =>
 oPick t33 (Value.bool true) (s19.getD 0 undef) fun t39 =>
 oCond t39 (K (Value.bool false) w21) (opP Tryd.prog (Instr.fieldAt 50 t5 0) fun t41 =>
 opQ Tryd.prog w21 (Instr.loadAt 48 t41) fun t42 =>
 opP Tryd.prog (Builtin.len_ #[48] 3 #[t42]) fun t43 =>
 opP Tryd.prog (Instr.fieldAt 50 t5 1) fun t44 =>
 opQ Tryd.prog w21 (Instr.loadAt 48 t44) fun t45 =>
 opP Tryd.prog (Builtin.len_ #[48] 3 #[t45]) fun t46 =>
 opP Tryd.prog (bsem .add 3 false t43 t46) fun t47 =>
 opP Tryd.prog (Instr.fieldAt 50 t5 2) fun t48 =>
 opQ Tryd.prog w21 (Instr.loadAt 48 t48) fun t49 =>
 opP Tryd.prog (Builtin.len_ #[48] 3 #[t49]) fun t50 =>
 opP Tryd.prog (bsem .add 3 false t47 t50) fun t51 =>
 opP Tryd.prog (bsem .add 3 false (s3.getD 0 undef) t51) fun t52 =>
 opP Tryd.prog (bsem .add 3 true (s3.getD 1 undef) (Value.int .i64 1)) fun t18 =>
 K2 [t52, t18] w21)))) (opP Tryd.prog (Instr.fieldAt 24 t1 0) fun t53 =>
 opQ Tryd.prog w9 (Instr.loadAt 22 t53) fun t54 =>
 opP Tryd.prog (Builtin.len_ #[22] 3 #[t54]) fun t55 =>
 opP Tryd.prog (bsem .leq 3 true t55 (Value.int .i64 60)) fun t56 =>
 sJoin (fun K23 => gIf t56 true (opP Tryd.prog (bsem .leq 3 true (s3.getD 0 undef) (Value.int .i64 3000)) fun t59 =>
 K23 [t59] w9) (K23 [undef] w9)) (fun s24 _d25 w26 =>
 oPick t56 (s24.getD 0 undef) (Value.bool false) fun t60 =>
 K t60 w26))))
theorem Tryd.E_law20_fits (t0 : Value) (w : World) (K : Value → World → Prop) : sw ⟨false, false⟩ Tryd.prog (fun _ _ => False) Tryd.A_law20_fits (bodyOf Tryd.f9) [t0, undef, undef, undef, undef, undef, undef, undef, undef, undef, undef, undef, undef, undef, undef, undef, undef, undef, undef, undef, undef, undef, undef, undef, undef, undef, undef, undef, undef, undef, undef, undef, undef, undef, undef, undef, undef, undef, undef, undef, undef, undef, undef, undef, undef, undef, undef, undef, undef, undef, undef, undef, undef, undef, undef, undef, undef, undef, undef, undef, undef] w (topQ false Tryd.prog Tryd.f9 w K) = Tryd.F_law20_fits t0 w K := by kernel_rfl
theorem Tryd.C_law20_fits : chk ⟨false, false⟩ Tryd.prog false Tryd.A_law20_fits (bodyOf Tryd.f9) = true := by kernel_rfl
theorem Tryd.ok_law20_fits {t0 : Value} {w : World} {K : Value → World → Prop} (h : Tryd.F_law20_fits t0 w K) : oCall Tryd.prog Tryd.n_law20_fits #[t0] w K :=
  calls_of_sw (cf := ⟨false, false⟩) Tryd.mixed Tryd.func9 rfl Tryd.C_law20_fits ((Tryd.E_law20_fits t0 w K).mpr h)

/- 10: loanword/loanwordlaw20.awake -/
def Tryd.A_law20_awake : Ann := .s (.r (.op 0 .p (.nil))) (.s (.r (.op 0 .l (.op 1 .l (.op 2 .l (.op 3 .p (.op 4 .l (.op 5 .p (.op 6 .l (.op 7 .l (.nil)))))))))) (.s (.r (.op 0 .q (.op 1 .l (.op 2 .p (.op 3 .p (.op 4 .p (.op 5 .p (.op 6 .p (.nil))))))))) (.s (.s (.r (.op 0 .p (.op 1 .p (.op 2 .p (.nil))))) (.c (.s (.r (.op 0 .p (.nil))) (.n)) (.n))) (.s (.r (.op 0 .p (.op 1 .l (.op 2 .p (.op 3 .p (.op 4 .p (.op 5 .p (.op 6 .l (.op 7 .l (.op 8 .p (.op 9 .p (.nil)))))))))))) (.j [8, 9] (.r (.op 0 .p (.op 1 .p (.op 2 .p (.op 3 .p (.op 4 .p (.op 5 .p (.alt 6 .l (.op 7 .p (.op 8 .p (.op 9 .p (.op 10 .p (.op 11 .l (.op 12 .l (.op 13 .p (.op 14 .p (.nil))))))))) (.op 11 .l (.op 6 .l (.op 7 .p (.op 8 .p (.op 9 .p (.op 10 .p (.op 12 .l (.op 13 .p (.op 14 .p (.nil)))))))))))))))))) (.s (.r (.op 0 .p (.op 1 .l (.op 2 .p (.op 3 .p (.op 4 .p (.op 5 .p (.op 6 .p (.op 7 .p (.op 8 .p (.nil))))))))))) (.s (.s (.r (.op 0 .p (.op 1 .p (.op 2 .p (.grp 57 false [(3, .p), (4, .p)] [59] (.op 5 .p (.op 6 .p (.grp 61 false [(7, .p), (8, .p)] [63] (.op 9 .p (.op 10 .p (.grp 65 false [(11, .q), (12, .q), (13, .l), (14, .p)] [69] (.op 15 .p (.op 16 .p (.grp 71 false [(17, .p), (18, .p)] [73] (.op 19 .p (.op 20 .p (.grp 75 false [(21, .p), (22, .p)] [77] (.op 23 .p (.op 24 .p (.grp 79 false [(25, .p), (26, .p)] [81] (.op 27 .p (.op 28 .p (.grp 83 false [(29, .p), (30, .p), (31, .p)] [86] (.op 32 .p (.op 33 .p (.grp 88 false [(34, .p), (35, .p), (36, .p), (37, .q), (38, .p)] [93] (.op 39 .p (.nil)))))))))))))))))))))))))))) (.c (.s (.r (.op 0 .p (.nil))) (.n)) (.n))) (.s (.r (.op 0 .p (.op 1 .p (.op 2 .p (.op 3 .q (.op 4 .l (.op 5 .p (.op 6 .p (.op 7 .p (.op 8 .p (.op 9 .l (.op 10 .l (.op 11 .p (.op 12 .p (.nil))))))))))))))) (.s (.r (.op 0 .q (.op 1 .l (.op 2 .p (.op 3 .p (.op 4 .p (.op 5 .l (.op 6 .l (.op 7 .p (.nil)))))))))) (.s (.r (.op 0 .p (.op 1 .p (.op 2 .p (.grp 111 true [(3, .p), (4, .q), (5, .p), (6, .p)] [115] (.op 7 .p (.op 8 .p (.grp 117 true [(9, .p), (10, .p)] [119] (.op 11 .p (.op 12 .p (.grp 121 true [(13, .q), (14, .q), (15, .l)] [124] (.op 16 .p (.op 17 .p (.grp 126 true [(18, .q), (19, .l)] [128] (.op 20 .p (.op 21 .p (.grp 130 true [(22, .q), (23, .l), (24, .p)] [133] (.op 25 .p (.op 26 .p (.nil)))))))))))))))))))) (.n)))))))))))
def Tryd.F_law20_awake (w : World) (K : Value → World → Prop) : Prop :=
 opW Tryd.prog w (Instr.buildSlice 67 1 #[(0, (Value.int .i64 1))]) fun t18 w1 =>
 oCall Tryd.prog Tryd.n_ref01_Of #[(Value.int .i64 2), t18] w1 fun t19 w2 =>
 opW Tryd.prog w2 (Instr.buildSlice 48 1 #[(0, t19)]) fun t20 w3 =>
 opP Tryd.prog (Instr.build 50 #[(0, t20)]) fun t21 =>
 opW Tryd.prog w3 (Instr.buildSlice 22 1 #[(0, t21)]) fun t22 w4 =>
 opP Tryd.prog (Instr.build 24 #[(0, t22)]) fun t23 =>
 opW Tryd.prog w4 (Instr.alloc 24 true (.tuple #[])) fun t1 w5 =>
 opU Tryd.prog w5 (Instr.storeAt 24 t1 t23) fun w6 =>
 opQ Tryd.prog w6 (Instr.loadAt 24 t1) fun t25 =>
 oCall Tryd.prog Tryd.n_cert_Bytes #[t25] w6 fun t26 w7 =>
 opP Tryd.prog (Instr.extract t26 0) fun t27 =>
 opP Tryd.prog (Instr.extract t26 1) fun t28 =>
 opP Tryd.prog (Builtin.len_ #[9] 3 #[t27]) fun t30 =>
 opP Tryd.prog (bsem .neq 3 true t30 (Value.int .i64 18)) fun t31 =>
 oCond t31 (K (Value.bool false) w7) (oCall Tryd.prog Tryd.n_cert_Read #[t27] w7 fun t34 w8 =>
 opP Tryd.prog (Instr.extract t34 0) fun t35 =>
 opP Tryd.prog (Instr.extract t34 1) fun _t36 =>
 opP Tryd.prog (Instr.extract t34 2) fun t37 =>
 opW Tryd.prog w8 (Instr.alloc 24 true (.tuple #[])) fun t4 w9 =>
 opU Tryd.prog w9 (Instr.storeAt 24 t4 t35) fun w10 =>
 sJoin (fun K11 =>
 opP Tryd.prog (Instr.sliceAt 9 t27 none (some (Value.int .i64 9)) none) fun t40 =>
 opP Tryd.prog (bsem .add 9 true t40 (Value.string { data := #[96] })) fun t41 =>
 opP Tryd.prog (Instr.sliceAt 9 t27 (some (Value.int .i64 10)) none none) fun t43 =>
 opP Tryd.prog (bsem .add 9 false t41 t43) fun t44 =>
 ((oCall Tryd.prog Tryd.n_cert_Read #[t44] w10.drew fun t45 w15 =>
 opP Tryd.prog (Instr.extract t45 0) fun t46 =>
 opP Tryd.prog (Instr.extract t45 1) fun t47 =>
 opP Tryd.prog (Instr.extract t45 2) fun t48 =>
 opW Tryd.prog w15 (Instr.alloc 24 true (.tuple #[])) fun t7 w16 =>
 opU Tryd.prog w16 (Instr.storeAt 24 t7 t46) fun w17 =>
 K11 [t47, t48] w17) ∧
 (opW Tryd.prog w10.drew (Instr.alloc 24 true (.tuple #[])) fun t7_19 w18 =>
 oCall Tryd.prog Tryd.n_cert_Read #[t44] w18 fun t45_21 w20 =>
 opP Tryd.prog (Instr.extract t45_21 0) fun t46_22 =>
 opP Tryd.prog (Instr.extract t45_21 1) fun t47_23 =>
 opP Tryd.prog (Instr.extract t45_21 2) fun t48_24 =>
 opU Tryd.prog w20 (Instr.storeAt 24 t7_19 t46_22) fun w25 =>
 K11 [t47_23, t48_24] w25))) (fun s12 _d13 w14 =>
 oCall Tryd.prog Tryd.n_cert_Heads #[t27] w14 fun t51 w26 =>
 opP Tryd.prog (Instr.extract t51 0) fun t52 =>
 opP Tryd.prog (Instr.extract t51 1) fun _t53 =>
 opP Tryd.prog (Instr.extract t51 2) fun t54 =>
 opP Tryd.prog (bsem .neq 28 true t28 (Value.int .i64 0)) fun t56 =>
 sJoin (fun K27 => gIf t56 false (opP Tryd.prog (bsem .neq 9 true t27 (Value.string { data := #[76, 87, 67, 1, 1, 0, 1, 0, 2, 64, 0, 0, 0, 0, 0, 0, 0, 0] })) fun t59 =>
 K27 [t59] w26) (K27 [undef] w26)) (fun s28 _d29 w30 =>
 oPick t56 (Value.bool true) (s28.getD 0 undef) fun t60 =>
 sJoin (fun K31 => gIf t60 false (opP Tryd.prog (bsem .neq 28 true t37 (Value.int .i64 0)) fun t63 =>
 K31 [t63] w30) (K31 [undef] w30)) (fun s32 _d33 w34 =>
 oPick t60 (Value.bool true) (s32.getD 0 undef) fun t64 =>
 sJoin (fun K35 => gIf t64 false (opQ Tryd.prog w34 (Instr.loadAt 24 t1) fun t66 =>
 opQ Tryd.prog w34 (Instr.loadAt 24 t4) fun t67 =>
 oCall Tryd.prog Tryd.n_cert_Same #[t66, t67] w34 fun t68 w39 =>
 opP Tryd.prog (Op.unary .not t68) fun t69 =>
 K35 [t69] w39) (K35 [undef] w34)) (fun s36 _d37 w38 =>
 oPick t64 (Value.bool true) (s36.getD 0 undef) fun t70 =>
 sJoin (fun K40 => gIf t70 false (opP Tryd.prog (bsem .neq 3 true (s12.getD 0 undef) (Value.int .i64 9)) fun t73 =>
 K40 [t73] w38) (K40 [undef] w38)) (fun s41 _d42 w43 =>
 oPick t70 (Value.bool true) (s41.getD 0 undef) fun t74 =>
 sJoin (fun K44 => gIf t74 false (opP Tryd.prog (bsem .neq 28 true (s12.getD 1 undef) (Value.int .i64 200)) fun t77 =>
 K44 [t77] w43) (K44 [undef] w43)) (fun s45 _d46 w47 =>
 oPick t74 (Value.bool true) (s45.getD 0 undef) fun t78 =>
 sJoin (fun K48 => gIf t78 false (opP Tryd.prog (bsem .neq 28 true t54 (Value.int .i64 0)) fun t81 =>
 K48 [t81] w47) (K48 [undef] w47)) (fun s49 _d50 w51 =>
 oPick t78 (Value.bool true) (s49.getD 0 undef) fun t82 =>
 sJoin (fun K52 => gIf t82 false (opP Tryd.prog (Builtin.len_ #[43] 3 #[t52]) fun t85 =>
 opP Tryd.prog (bsem .neq 3 true t85 (Value.int .i64 1)) fun t86 =>
 K52 [t86] w51) (K52 [undef] w51)) (fun s53 _d54 w55 =>
 oPick t82 (Value.bool true) (s53.getD 0 undef) fun t87 =>
 sJoin (fun K56 => gIf t87 false (opP Tryd.prog (Instr.indexAt 43 t52 (Value.int .i64 0)) fun t90 =>
 opP Tryd.prog (Instr.fieldAt 38 t90 6) fun t91 =>
 opQ Tryd.prog w55 (Instr.loadAt 3 t91) fun t92 =>
 opP Tryd.prog (bsem .neq 3 true t92 (Value.int .i64 9)) fun t93 =>
 K56 [t93] w55) (K56 [undef] w55)) (fun s57 _d58 w59 =>
 oPick t87 (Value.bool true) (s57.getD 0 undef) fun t94 =>
 oCond t94 (K (Value.bool false) w59) (opP Tryd.prog (Instr.indexAt 43 t52 (Value.int .i64 0)) fun t98 =>
 opQ Tryd.prog w59 (Instr.loadAt 38 t98) fun t99 =>
 oCall Tryd.prog Tryd.n_cert_Fn #[t27, t99] w59 fun t100 w60 =>
 opP Tryd.prog (Instr.extract t100 0) fun t101 =>
 opP Tryd.prog (Instr.extract t100 1) fun _t102 =>
 opP Tryd.prog (Instr.extract t100 2) fun t103 =>
 opW Tryd.prog w60 (Instr.alloc 50 true (.tuple #[])) fun t13 w61 =>
 opU Tryd.prog w61 (Instr.storeAt 50 t13 t101) fun w62 =>
 opQ Tryd.prog w62 (Instr.loadAt 24 t1) fun t105 =>
 oCall Tryd.prog Tryd.n_cert_Own #[t105] w62 fun t106 w63 =>
 opP Tryd.prog (Instr.extract t106 0) fun t107 =>
 opP Tryd.prog (Instr.extract t106 1) fun t108 =>
 opW Tryd.prog w63 (Instr.alloc 24 true (.tuple #[])) fun t16 w64 =>
 opU Tryd.prog w64 (Instr.storeAt 24 t16 t107) fun w65 =>
 opP Tryd.prog (bsem .eql 28 true t103 (Value.int .i64 0)) fun t110 =>
 sJoin (fun K66 => gIf t110 true (opP Tryd.prog (Instr.fieldAt 50 t13 0) fun t112 =>
 opQ Tryd.prog w65 (Instr.loadAt 48 t112) fun t113 =>
 opP Tryd.prog (Builtin.len_ #[48] 3 #[t113]) fun t114 =>
 opP Tryd.prog (bsem .eql 3 true t114 (Value.int .i64 1)) fun t115 =>
 K66 [t115] w65) (K66 [undef] w65)) (fun s67 _d68 w69 =>
 oPick t110 (s67.getD 0 undef) (Value.bool false) fun t116 =>
 sJoin (fun K70 => gIf t116 true (opP Tryd.prog (bsem .eql 28 true t108 (Value.int .i64 0)) fun t119 =>
 K70 [t119] w69) (K70 [undef] w69)) (fun s71 _d72 w73 =>
 oPick t116 (s71.getD 0 undef) (Value.bool false) fun t120 =>
 sJoin (fun K74 => gIf t120 true (opQ Tryd.prog w73 (Instr.loadAt 24 t16) fun t122 =>
 opQ Tryd.prog w73 (Instr.loadAt 24 t1) fun t123 =>
 oCall Tryd.prog Tryd.n_cert_Same #[t122, t123] w73 fun t124 w78 =>
 K74 [t124] w78) (K74 [undef] w73)) (fun s75 _d76 w77 =>
 oPick t120 (s75.getD 0 undef) (Value.bool false) fun t125 =>
 sJoin (fun K79 => gIf t125 true (opQ Tryd.prog w77 (Instr.loadAt 24 t1) fun t127 =>
 oCall Tryd.prog Tryd.n_cert_May #[t127] w77 fun t128 w83 =>
 K79 [t128] w83) (K79 [undef] w77)) (fun s80 _d81 w82 =>
 oPick t125 (s80.getD 0 undef) (Value.bool false) fun t129 =>
 sJoin (fun K84 => gIf t129 true (opQ Tryd.prog w82 (Instr.loadAt 24 t1) fun t131 =>
 oCall Tryd.prog Tryd.n_cert_Size #[t131] w82 fun t132 w88 =>
 opP Tryd.prog (bsem .eql 3 true t132 (Value.int .i64 18)) fun t133 =>
 K84 [t133] w88) (K84 [undef] w82)) (fun s85 _d86 w87 =>
 oPick t129 (s85.getD 0 undef) (Value.bool false) fun t134 =>
 K t134 w87))))))))))))))))
theorem Tryd.E_law20_awake (w : World) (K : Value → World → Prop) : sw ⟨false, false⟩ Tryd.prog (fun _ _ => False) Tryd.A_law20_awake (bodyOf Tryd.f10) [undef, undef, undef, undef, undef, undef, undef, undef, undef, undef, undef, undef, undef, undef, undef, undef, undef, undef, undef, undef, undef, undef, undef, undef, undef, undef, undef, undef, undef, undef, undef, undef, undef, undef, undef, undef, undef, undef, undef, undef, undef, undef, undef, undef, undef, undef, undef, undef, undef, undef, undef, undef, undef, undef, undef, undef, undef, undef, undef, undef, undef, undef, undef, undef, undef, undef, undef, undef, undef, undef, undef, undef, undef, undef, undef, undef, undef, undef, undef, undef, undef, undef, undef, undef, undef, undef, undef, undef, undef, undef, undef, undef, undef, undef, undef, undef, undef, undef, undef, undef, undef, undef, undef, undef, undef, undef, undef, undef, undef, undef, undef, undef, undef, undef, undef, undef, undef, undef, undef, undef, undef, undef, undef, undef, undef, undef, undef, undef, undef, undef, undef, undef, undef, undef, undef] w (topQ false Tryd.prog Tryd.f10 w K) = Tryd.F_law20_awake  w K := by kernel_rfl
theorem Tryd.C_law20_awake : chk ⟨false, false⟩ Tryd.prog false Tryd.A_law20_awake (bodyOf Tryd.f10) = true := by kernel_rfl
theorem Tryd.ok_law20_awake {w : World} {K : Value → World → Prop} (h : Tryd.F_law20_awake  w K) : oCall Tryd.prog Tryd.n_law20_awake #[] w K :=
  calls_of_sw (cf := ⟨false, false⟩) Tryd.mixed Tryd.func10 rfl Tryd.C_law20_awake ((Tryd.E_law20_awake  w K).mpr h)

/- 20: loanword/loanwordlaw20.held -/
def Tryd.A_law20_held : Ann := .s (.r (.op 0 .l (.op 1 .l (.op 2 .l (.op 3 .p (.nil)))))) (.s (.s (.r (.op 0 .q (.op 1 .q (.op 2 .l (.op 3 .p (.nil)))))) (.c (.s (.r (.op 0 .p (.nil))) (.n)) (.n))) (.s (.s (.r (.op 0 .p (.nil))) (.b (.lp [7] (.s (.s (.r (.op 0 .p (.op 1 .p (.op 2 .q (.op 3 .p (.op 4 .p (.nil))))))) (.c (.n) (.n))) (.s (.b (.s (.r (.op 0 .p (.op 1 .q (.op 2 .p (.op 3 .p (.op 4 .p (.op 5 .q (.op 6 .l (.nil))))))))) (.s (.r (.op 0 .p (.op 1 .q (.op 2 .p (.op 3 .p (.op 4 .p (.op 5 .q (.op 6 .l (.nil))))))))) (.r (.op 0 .p (.op 1 .q (.op 2 .p (.op 3 .p (.op 4 .p (.op 5 .q (.op 6 .l (.nil)))))))))))) (.r (.op 0 .p (.op 1 .p (.op 2 .p (.nil)))))))))) (.s (.r (.op 0 .q (.op 1 .q (.op 2 .l (.op 3 .p (.nil)))))) (.n))))
def Tryd.F_law20_held (t0 : Value) (t1 : Value) (t2 : Value) (w : World) (K : Value → World → Prop) : Prop :=
 opW Tryd.prog w (Instr.box 24 t0) fun t3 w1 =>
 opW Tryd.prog w1 (Instr.box 24 t1) fun t4 w2 =>
 opW Tryd.prog w2 (Instr.box 24 t2) fun t5 w3 =>
 opQ Tryd.prog w3 (Instr.loadAt 24 t3) fun t8 =>
 opQ Tryd.prog w3 (Instr.loadAt 24 t5) fun t9 =>
 oCall Tryd.prog Tryd.n_ref20_Equal #[t8, t9] w3 fun t10 w4 =>
 opP Tryd.prog (Op.unary .not t10) fun t11 =>
 oCond t11 (K (Value.bool false) w4) (sLoop [(Value.int .i64 0)] w4 (fun s6 _d7 w8 K5 =>
 opP Tryd.prog (Instr.fieldAt 24 t3 0) fun t13 =>
 opQ Tryd.prog w8 (Instr.loadAt 22 t13) fun t14 =>
 opP Tryd.prog (Builtin.len_ #[22] 3 #[t14]) fun t15 =>
 opP Tryd.prog (bsem .lss 3 false (s6.getD 0 undef) t15) fun t16 =>
 oCond t16 (opP Tryd.prog (Instr.fieldAt 24 t3 0) fun t19 =>
 opQ Tryd.prog w8 (Instr.loadAt 22 t19) fun t20 =>
 opP Tryd.prog (Instr.indexAt 22 t20 (s6.getD 0 undef)) fun t22 =>
 opP Tryd.prog (Instr.fieldAt 50 t22 0) fun t23 =>
 opQ Tryd.prog w8 (Instr.loadAt 48 t23) fun t24 =>
 oCall Tryd.prog Tryd.n_law20_over #[t24] w8 fun _t25 w9 =>
 opP Tryd.prog (Instr.fieldAt 24 t3 0) fun t26 =>
 opQ Tryd.prog w9 (Instr.loadAt 22 t26) fun t27 =>
 opP Tryd.prog (Instr.indexAt 22 t27 (s6.getD 0 undef)) fun t29 =>
 opP Tryd.prog (Instr.fieldAt 50 t29 1) fun t30 =>
 opQ Tryd.prog w9 (Instr.loadAt 48 t30) fun t31 =>
 oCall Tryd.prog Tryd.n_law20_over #[t31] w9 fun _t32 w10 =>
 opP Tryd.prog (Instr.fieldAt 24 t3 0) fun t33 =>
 opQ Tryd.prog w10 (Instr.loadAt 22 t33) fun t34 =>
 opP Tryd.prog (Instr.indexAt 22 t34 (s6.getD 0 undef)) fun t36 =>
 opP Tryd.prog (Instr.fieldAt 50 t36 2) fun t37 =>
 opQ Tryd.prog w10 (Instr.loadAt 48 t37) fun t38 =>
 oCall Tryd.prog Tryd.n_law20_over #[t38] w10 fun _t39 w11 =>
 opP Tryd.prog (bsem .add 3 true (s6.getD 0 undef) (Value.int .i64 1)) fun t18 =>
 K5 [t18] w11) (opQ Tryd.prog w8 (Instr.loadAt 24 t4) fun t40 =>
 opQ Tryd.prog w8 (Instr.loadAt 24 t5) fun t41 =>
 oCall Tryd.prog Tryd.n_ref20_Equal #[t40, t41] w8 fun t42 w12 =>
 K t42 w12)))
theorem Tryd.E_law20_held (t0 t1 t2 : Value) (w : World) (K : Value → World → Prop) : sw ⟨false, false⟩ Tryd.prog (fun _ _ => False) Tryd.A_law20_held (bodyOf Tryd.f20) [t0, t1, t2, undef, undef, undef, undef, undef, undef, undef, undef, undef, undef, undef, undef, undef, undef, undef, undef, undef, undef, undef, undef, undef, undef, undef, undef, undef, undef, undef, undef, undef, undef, undef, undef, undef, undef, undef, undef, undef, undef, undef, undef] w (topQ false Tryd.prog Tryd.f20 w K) = Tryd.F_law20_held t0 t1 t2 w K := by kernel_rfl
theorem Tryd.C_law20_held : chk ⟨false, false⟩ Tryd.prog false Tryd.A_law20_held (bodyOf Tryd.f20) = true := by kernel_rfl
theorem Tryd.ok_law20_held {t0 t1 t2 : Value} {w : World} {K : Value → World → Prop} (h : Tryd.F_law20_held t0 t1 t2 w K) : oCall Tryd.prog Tryd.n_law20_held #[t0, t1, t2] w K :=
  calls_of_sw (cf := ⟨false, false⟩) Tryd.mixed Tryd.func20 rfl Tryd.C_law20_held ((Tryd.E_law20_held t0 t1 t2 w K).mpr h)

/- 28: loanword/loanwordlaw20.listFits -/
def Tryd.A_law20_listFits : Ann := .s (.r (.op 0 .p (.nil))) (.s (.s (.r (.op 0 .p (.nil))) (.b (.lp [3] (.s (.s (.r (.op 0 .p (.op 1 .p (.op 2 .p (.op 3 .p (.op 4 .p (.grp 8 true [(5, .p), (6, .p), (7, .p)] [11] (.op 8 .p (.nil))))))))) (.c (.n) (.n))) (.s (.b (.s (.r (.op 0 .p (.op 1 .p (.op 2 .p (.op 3 .p (.op 4 .q (.op 5 .p (.op 6 .p (.nil))))))))) (.c (.s (.r (.op 0 .p (.nil))) (.n)) (.n)))) (.r (.op 0 .p (.op 1 .p (.op 2 .p (.nil)))))))))) (.s (.r (.op 0 .p (.op 1 .p (.op 2 .p (.op 3 .p (.nil)))))) (.n)))
def Tryd.F_law20_listFits (t0 : Value) (w : World) (K : Value → World → Prop) : Prop :=
 sLoop [(Value.int .i64 0)] w (fun s2 _d3 w4 K1 =>
 opP Tryd.prog (Builtin.len_ #[48] 3 #[t0]) fun t6 =>
 opP Tryd.prog (bsem .lss 3 false (s2.getD 0 undef) t6) fun t7 =>
 sJoin (fun K5 => gIf t7 true (opP Tryd.prog (Builtin.len_ #[48] 3 #[t0]) fun t10 =>
 opP Tryd.prog (bsem .leq 3 true t10 (Value.int .i64 1500)) fun t11 =>
 K5 [t11] w4) (K5 [undef] w4)) (fun s6 _d7 w8 =>
 oPick t7 (s6.getD 0 undef) (Value.bool false) fun t12 =>
 oCond t12 (opP Tryd.prog (Instr.indexAt 48 t0 (s2.getD 0 undef)) fun t17 =>
 opP Tryd.prog (Instr.fieldAt 65 t17 1) fun t18 =>
 opQ Tryd.prog w8 (Instr.loadAt 63 t18) fun t19 =>
 opP Tryd.prog (Builtin.len_ #[63] 3 #[t19]) fun t20 =>
 opP Tryd.prog (bsem .gtr 3 true t20 (Value.int .i64 100)) fun t21 =>
 oCond t21 (K (Value.bool false) w8) (opP Tryd.prog (bsem .add 3 true (s2.getD 0 undef) (Value.int .i64 1)) fun t14 =>
 K1 [t14] w8)) (opP Tryd.prog (Builtin.len_ #[48] 3 #[t0]) fun t23 =>
 opP Tryd.prog (bsem .leq 3 true t23 (Value.int .i64 1500)) fun t24 =>
 K t24 w8)))
theorem Tryd.E_law20_listFits (t0 : Value) (w : World) (K : Value → World → Prop) : sw ⟨false, false⟩ Tryd.prog (fun _ _ => False) Tryd.A_law20_listFits (bodyOf Tryd.f28) [t0, undef, undef, undef, undef, undef, undef, undef, undef, undef, undef, undef, undef, undef, undef, undef, undef, undef, undef, undef, undef, undef, undef, undef, undef] w (topQ false Tryd.prog Tryd.f28 w K) = Tryd.F_law20_listFits t0 w K := by kernel_rfl
theorem Tryd.C_law20_listFits : chk ⟨false, false⟩ Tryd.prog false Tryd.A_law20_listFits (bodyOf Tryd.f28) = true := by kernel_rfl
theorem Tryd.ok_law20_listFits {t0 : Value} {w : World} {K : Value → World → Prop} (h : Tryd.F_law20_listFits t0 w K) : oCall Tryd.prog Tryd.n_law20_listFits #[t0] w K :=
  calls_of_sw (cf := ⟨false, false⟩) Tryd.mixed Tryd.func28 rfl Tryd.C_law20_listFits ((Tryd.E_law20_listFits t0 w K).mpr h)

/- 42: loanword/loanwordlaw20.over -/
def Tryd.A_law20_over : Ann := .s (.r (.op 0 .p (.nil))) (.b (.lp [2] (.s (.s (.r (.op 0 .p (.op 1 .p (.op 2 .p (.op 3 .p (.nil)))))) (.c (.n) (.n))) (.s (.b (.s (.r (.op 0 .p (.nil))) (.b (.lp [3] (.s (.s (.r (.op 0 .p (.op 1 .p (.op 2 .p (.op 3 .p (.op 4 .p (.op 5 .q (.op 6 .p (.op 7 .p (.nil)))))))))) (.c (.n) (.n))) (.s (.b (.r (.op 0 .p (.op 1 .p (.op 2 .p (.op 3 .p (.op 4 .q (.op 5 .p (.op 6 .p (.op 7 .p (.op 8 .p (.op 9 .p (.op 10 .q (.op 11 .p (.op 12 .p (.op 13 .q (.op 14 .p (.op 15 .p (.op 16 .l (.nil)))))))))))))))))))) (.r (.op 0 .p (.op 1 .p (.op 2 .p (.nil))))))))))) (.r (.op 0 .p (.op 1 .p (.op 2 .p (.nil)))))))))
def Tryd.F_law20_over (t0 : Value) (w : World) (K : Value → World → Prop) : Prop :=
 sLoop [(Value.int .i64 0)] w (fun s2 _d3 w4 K1 =>
 opP Tryd.prog (Builtin.len_ #[48] 3 #[t0]) fun t6 =>
 opP Tryd.prog (bsem .lss 3 false (s2.getD 0 undef) t6) fun t7 =>
 oCond t7 (sLoop [(Value.int .i64 0)] w4 (fun s6 _d7 w8 K5 =>
 opP Tryd.prog (Instr.indexAt 48 t0 (s2.getD 0 undef)) fun t13 =>
 opP Tryd.prog (Instr.fieldAt 65 t13 1) fun t14 =>
 opQ Tryd.prog w8 (Instr.loadAt 63 t14) fun t15 =>
 opP Tryd.prog (Builtin.len_ #[63] 3 #[t15]) fun t16 =>
 opP Tryd.prog (bsem .lss 3 false (s6.getD 0 undef) t16) fun t17 =>
 oCond t17 (opP Tryd.prog (Instr.indexAt 48 t0 (s2.getD 0 undef)) fun t22 =>
 opP Tryd.prog (Instr.fieldAt 65 t22 1) fun t23 =>
 opQ Tryd.prog w8.drew (Instr.loadAt 63 t23) fun t24 =>
 opP Tryd.prog (Instr.indexAt 48 t0 (s2.getD 0 undef)) fun t28 =>
 opP Tryd.prog (Instr.fieldAt 65 t28 1) fun t29 =>
 opQ Tryd.prog w8.drew (Instr.loadAt 63 t29) fun t30 =>
 opP Tryd.prog (Instr.indexAt 63 t30 (s6.getD 0 undef)) fun t32 =>
 opQ Tryd.prog w8.drew (Instr.loadAt 108 t32) fun t33 =>
 opP Tryd.prog (Op.unary .xor t33) fun t34 =>
 opP Tryd.prog (Instr.indexAt 63 t24 (s6.getD 0 undef)) fun t35 =>
 opU Tryd.prog w8.drew (Instr.storeAt 108 t35 t34) fun w9 =>
 opP Tryd.prog (bsem .add 3 true (s6.getD 0 undef) (Value.int .i64 1)) fun t19 =>
 K5 [t19] w9) (opP Tryd.prog (bsem .add 3 true (s2.getD 0 undef) (Value.int .i64 1)) fun t9 =>
 K1 [t9] w8))) (K (.tuple #[]) w4))
theorem Tryd.E_law20_over (t0 : Value) (w : World) (K : Value → World → Prop) : sw ⟨false, false⟩ Tryd.prog (fun _ _ => False) Tryd.A_law20_over (bodyOf Tryd.f42) [t0, undef, undef, undef, undef, undef, undef, undef, undef, undef, undef, undef, undef, undef, undef, undef, undef, undef, undef, undef, undef, undef, undef, undef, undef, undef, undef, undef, undef, undef, undef, undef, undef, undef, undef, undef] w (topQ false Tryd.prog Tryd.f42 w K) = Tryd.F_law20_over t0 w K := by kernel_rfl
theorem Tryd.C_law20_over : chk ⟨false, false⟩ Tryd.prog false Tryd.A_law20_over (bodyOf Tryd.f42) = true := by kernel_rfl
theorem Tryd.ok_law20_over {t0 : Value} {w : World} {K : Value → World → Prop} (h : Tryd.F_law20_over t0 w K) : oCall Tryd.prog Tryd.n_law20_over #[t0] w K :=
  calls_of_sw (cf := ⟨false, false⟩) Tryd.mixed Tryd.func42 rfl Tryd.C_law20_over ((Tryd.E_law20_over t0 w K).mpr h)

end Go.Proofs
end
