/-
  Contracts: Asks, the document's.
-/
import Derived.Test.YtajllnahceaipaaDoorTg
namespace Go.Proofs
open Go.Sh
set_option maxRecDepth 100000

theorem c_ref06_asks : ∀ (n : Nat) {a b : TyD} {g : Bool} {w : World} {r : Gh} {va vb : Value} {K : Value → World → Prop}, n ≤ 48 → Alk n a b → Holds r w → TyG r va a → TyG r vb b →
    (∀ v' w', Ext w w' → w'.ownsRow w.heap.size 35 2 v' (asksD g a b).length (cons2 (asksD g a b)) → K v' w') → oCall Tryd.prog Tryd.n_ref06_asks #[va, vb, .bool g] w K := by
  intro n
  induction n with
  | zero => intro a b g w r va vb K _ hk; obtain ⟨m, hm, _⟩ := alk_cases hk; cases hm
  | succ n ih =>
    intro a b g w r va vb K hn hk hr ha hb h
    refine Tryd.ok_ref06_asks ?_
    unfold Tryd.F_ref06_asks
    obtain ⟨pa, capa, rfl, _, _, hofa⟩ := ha
    obtain ⟨pb, capb, rfl, _, _, hofb⟩ := hb
    obtain ⟨m, hm, hkk, hc⟩ := alk_cases hk
    cases hm
    have hlen := asksD_len (g := g) hk
    have S := St.start hr
    refine S.box fun b3 w1 S => ?_
    refine S.box fun b4 w2 S => ?_
    (repeat (first | refine s_p ?_ | refine s_c (by omega) ?_ | refine S.ld ?_ | refine S.ldB ?_ | refine S.ce ?_ | refine S.ceB ?_ | refine s_q ?_ | refine s_qc (by omega) ?_ | refine n_some ?_ | rw [List.getD_cons_zero] | rw [List.getD_cons_succ]))
    rcases hc with ⟨h4, h3, hof, hnil⟩ | ⟨x, y, hofa1, hofb1, hxy, hk34, hst⟩
    · refine c_if (fun _ => ?_) (fun hn => absurd (by rw [hof]; rfl) hn)
      rw [hnil] at h
      exact h _ _ S.ext (World.ownsRow_nil _ _ _ _)
    have hl1 : 0 < a.of.length := by rw [hofa1]; exact Nat.one_pos
    have hl2 : 0 < b.of.length := by rw [hofb1]; exact Nat.one_pos
    obtain ⟨ba, oa, rfl, ca2, hca2, hcella, hta2⟩ := NdG.of hofa hl1
    obtain ⟨bb, ob, rfl, cb2, hcb2, hcellb, htb2⟩ := NdG.of hofb hl2
    have hax : a.of[0] = x := by simp [hofa1]
    have hby : b.of[0] = y := by simp [hofb1]
    rw [hax] at hta2; rw [hby] at htb2
    rw [hst] at h hlen
    refine c_if (fun hz => by omega) (fun _ => ?_)
    (repeat (first | refine s_p ?_ | refine s_c (by omega) ?_ | refine S.ld ?_ | refine S.ldB ?_ | refine S.ce ?_ | refine S.ceB ?_ | refine s_q ?_ | refine s_qc (by omega) ?_ | refine n_some ?_ | rw [List.getD_cons_zero] | rw [List.getD_cons_succ]))
    refine c_if (fun h3 => ?_) (fun h3 => ?_)
    · have h4 : a.k ≠ 4 := by omega
      rw [stepL, if_neg h4, bothL, if_neg h4, List.nil_append] at h
      have S := S.go (Ext.drew _)
      (repeat (first | refine s_p ?_ | refine s_c (by omega) ?_ | refine S.ld ?_ | refine S.ldB ?_ | refine S.ce ?_ | refine S.ceB ?_ | refine s_q ?_ | refine s_qc (by omega) ?_ | refine n_some ?_ | rw [List.getD_cons_zero] | rw [List.getD_cons_succ]))
      refine s_ldN (n := 5) hca2 (fun j v hj => by simpa using S.at (hcella j v hj)) ?_
      (repeat (first | refine s_p ?_ | refine s_c (by omega) ?_ | refine S.ld ?_ | refine S.ldB ?_ | refine S.ce ?_ | refine S.ceB ?_ | refine s_q ?_ | refine s_qc (by omega) ?_ | refine n_some ?_ | rw [List.getD_cons_zero] | rw [List.getD_cons_succ]))
      refine s_ldN (n := 5) hcb2 (fun j v hj => by simpa using S.at (hcellb j v hj)) ?_
      refine ih (by omega) hxy S.holds hta2 htb2 fun v' w' e' o' => ?_
      have S := S.take e' o'
      exact h _ _ S.ext (S.give v')
    have h4 : a.k = 4 := by omega
    (repeat (first | refine s_p ?_ | refine s_c (by omega) ?_ | refine S.ld ?_ | refine S.ldB ?_ | refine S.ce ?_ | refine S.ceB ?_ | refine s_q ?_ | refine s_qc (by omega) ?_ | refine n_some ?_ | rw [List.getD_cons_zero] | rw [List.getD_cons_succ]))
    refine S.lit (e := 35) (cs := [.int .i64 a.re, .int .i64 b.re]) (by kernel_rfl) fun b5 w5 S => ?_
    have S := S.toRow 1 2 rfl (by decide)
    refine j_intro (fun s w' => ∃ v', s = [v'] ∧ St w r w' [.row v' 35 2 (stepL g a b).length (cons2 (stepL g a b)), .cell b4 [.int .u8 b.k, .bool b.m, .int .i64 b.re, .int .i64 b.st, .slice (some ⟨bb, ob, none⟩) b.of.length capb] 25,
      .cell b3 [.int .u8 a.k, .bool a.m, .int .i64 a.re, .int .i64 a.st, .slice (some ⟨ba, oa, none⟩) a.of.length capa] 25]) (fun K2 hK2 => ?_) ?_
    · refine c_b (fun hg => ?_) (fun hg => hK2 _ _ ⟨_, rfl, by rw [stepL, if_pos h4, hg]; exact S⟩)
      (repeat (first | refine s_p ?_ | refine s_c (by omega) ?_ | refine S.ld ?_ | refine S.ldB ?_ | refine S.ce ?_ | refine S.ceB ?_ | refine s_q ?_ | refine s_qc (by omega) ?_ | refine n_some ?_ | rw [List.getD_cons_zero] | rw [List.getD_cons_succ]))
      refine S.lit (e := 35) (cs := [.int .i64 b.re, .int .i64 a.re]) (by kernel_rfl) fun b6 w6 S => ?_
      refine S.ap (Sl.blk (S.blk b6)) (fun v7 w7 S => ?_) (by omega)
      refine hK2 _ _ ⟨v7, rfl, ?_⟩
      rw [stepL, if_pos h4, hg]
      exact S.tl
    rintro s w7 ⟨v7, rfl, S⟩ d7
    rw [List.getD_cons_zero]
    have S := S.go (Ext.drew _)
    (repeat (first | refine s_p ?_ | refine s_c (by omega) ?_ | refine S.ld ?_ | refine S.ldB ?_ | refine S.ce ?_ | refine S.ceB ?_ | refine s_q ?_ | refine s_qc (by omega) ?_ | refine n_some ?_ | rw [List.getD_cons_zero] | rw [List.getD_cons_succ]))
    refine s_ldN (n := 5) hca2 (fun j v hj => by simpa using S.at (hcella j v hj)) ?_
    (repeat (first | refine s_p ?_ | refine s_c (by omega) ?_ | refine S.ld ?_ | refine S.ldB ?_ | refine S.ce ?_ | refine S.ceB ?_ | refine s_q ?_ | refine s_qc (by omega) ?_ | refine n_some ?_ | rw [List.getD_cons_zero] | rw [List.getD_cons_succ]))
    refine s_ldN (n := 5) hcb2 (fun j v hj => by simpa using S.at (hcellb j v hj)) ?_
    refine j_bor (c := a.m) (fun K4 hK4 => ?_) ?_
    · (repeat (first | refine s_p ?_ | refine s_c (by omega) ?_ | refine S.ld ?_ | refine S.ldB ?_ | refine S.ce ?_ | refine S.ceB ?_ | refine s_q ?_ | refine s_qc (by omega) ?_ | refine n_some ?_ | rw [List.getD_cons_zero] | rw [List.getD_cons_succ]))
      exact hK4
    have hg2 : bothL g a = (g || a.m) := by rw [bothL, if_pos h4]
    rw [← hg2]
    refine ih (by omega) hxy S.holds hta2 htb2 fun v8 w8 e8 o8 => ?_
    have S := S.take e8 o8
    obtain ⟨p8, cap8, rfl, hp8, _, _, hs8⟩ := S.rowS v8
    simp only [List.length_append] at hlen
    refine S.ap hs8 (fun v9 w9 S => ?_) (by omega) (cons2_len _) hp8 (cons2_ones _)
    rw [← cons2_append, ← List.length_append] at S
    exact h v9 w9 S.ext (S.give v9)
theorem c_ref06_Asks {a b : TyD} {w : World} {r : Gh} {va vb : Value} {K : Value → World → Prop} (hr : Holds r w) (ha : TyG r va a) (hb : TyG r vb b)
    (h : ∀ v' w', Ext w w' → w'.ownsRow w.heap.size 35 2 v' (asksT a b).1.length (cons2 (asksT a b).1) → K (.tuple #[v', .int .i64 (asksT a b).2]) w') : oCall Tryd.prog Tryd.n_ref06_Asks #[va, vb] w K := by
  refine Tryd.ok_ref06_Asks ?_
  unfold Tryd.F_ref06_Asks
  obtain ⟨ca, rfl, hca, hra⟩ := ha.rep
  obtain ⟨cb, rfl, hcb, hrb⟩ := hb.rep
  have S := St.start hr
  refine S.box fun b2 w1 S => ?_
  refine S.box fun b3 w2 S => ?_
  rw [show (Value.agg ca.toArray).cells.toList = ca from rfl, show (Value.agg cb.toArray).cells.toList = cb from rfl] at S
  refine S.ldB ?_ hca
  refine S.ldB ?_ hcb
  refine c_ref06_Alike S.holds ha hb fun w3 e3 => ?_
  have S := S.go e3
  (repeat (first | refine s_p ?_ | refine s_c (by omega) ?_ | refine S.ld ?_ | refine S.ldB ?_ | refine S.ce ?_ | refine S.ceB ?_ | refine s_q ?_ | refine s_qc (by omega) ?_ | refine n_some ?_ | rw [List.getD_cons_zero] | rw [List.getD_cons_succ]))
  refine c_b (fun hn => ?_) (fun hal => ?_)
  · have hal : alikeT fAll a b = false := by simpa using hn
    have e : asksT a b = ([], 2) := by rw [asksT, hal]; rfl
    rw [e] at h
    exact h _ _ S.ext (World.ownsRow_nil _ _ _ _)
  have hal : alikeT fAll a b = true := by simpa using hal
  have hk := alk_of hal
  have hisa : isB a = true := hk.1
  have hisb : isB b = true := hk.2.1
  have hra' : regsT a = a.regs := by rw [regsT, hisa]; rfl
  have hrb' : regsT b = b.regs := by rw [regsT, hisb]; rfl
  have hta := look_ht hk.1
  have htb := look_ht hk.2.1
  have hla := regs_len a
  have hlb := regs_len b
  refine S.ldB ?_ hca
  refine c_ref06_Regions S.holds ha fun v4 w4 e4 o4 => ?_
  rw [hra'] at o4
  have S := S.take e4 o4
  refine S.ldB ?_ hcb
  refine c_ref06_Regions S.holds hb fun v5 w5 e5 o5 => ?_
  rw [hrb'] at o5
  have S := S.take e5 o5
  obtain ⟨p5, cap5, rfl, hp5, _, _, hs5⟩ := S.rowS v5
  refine S.ap hs5 (fun v6 w6 S => ?_) (by omega) (by rw [ints_len]; omega) hp5 (ints_ones _)
  rw [← ints_append, ← List.length_append] at S
  obtain ⟨p6, cap6, rfl, hp6, _, _, hs6⟩ := S.rowS v6
  have hll : (a.regs ++ b.regs).length ≤ 96 := by rw [List.length_append]; omega
  generalize hreg : a.regs ++ b.regs = rs at *
  refine l_intro (ι := Nat) (fun i => [.int .i64 i]) (fun i w' => w' = w6 ∧ i ≤ rs.length ∧ (rs.take i).any (fun x => decide (x < 0)) = false) (fun i => rs.length - i) 0 rfl ⟨rfl, Nat.zero_le _, by simp⟩ ?_
  rintro i d w' ⟨rfl, hi, hn⟩ K6 hK6
  simp only [List.getD_cons_zero]
  (first | refine s_p ?_ | refine s_c (by omega) ?_)
  (first | refine s_p ?_ | refine s_c (by omega) ?_)
  refine c_if (fun hlt => ?_) (fun hge => ?_)
  · have hlt : i < rs.length := by omega
    obtain ⟨b9, off, rfl, hc⟩ := hs6.at (i := i) (by rw [ints_len]; exact hlt)
    (first | refine s_p ?_ | refine s_c (by omega) ?_)
    have hv : (ints rs)[i]'(by rw [ints_len]; exact hlt) = .int .i64 rs[i] := by simp [ints]
    rw [hv] at hc
    refine s_ld1 (by simpa using hc) ?_
    (first | refine s_p ?_ | refine s_c (by omega) ?_)
    refine c_if (fun hneg => ?_) (fun hpos => ?_)
    · have hany : rs.any (fun x => decide (x < 0)) = true := List.any_eq_true.2 ⟨rs[i], List.getElem_mem hlt, by simpa using hneg⟩
      have e : asksT a b = ([], 2) := by rw [asksT, hal, hreg, hany]; rfl
      rw [e] at h
      exact h _ _ S.ext (World.ownsRow_nil _ _ _ _)
    · (first | refine s_p ?_ | refine s_c (by omega) ?_)
      refine hK6 (i + 1) _ ⟨rfl, hlt, ?_⟩ (by omega)
      rw [List.take_succ_eq_append_getElem hlt, List.any_append, hn]
      simp only [List.any_cons, List.any_nil, Bool.or_false, Bool.false_or, decide_eq_false_iff_not]
      exact hpos
  · have : i = rs.length := by omega
    subst this
    rw [List.take_length] at hn
    have e : asksT a b = (asksD false a b, 0) := by rw [asksT, hal, hreg, hn]; rfl
    rw [e] at h
    refine S.ldB ?_ hca
    refine S.ldB ?_ hcb
    refine c_ref06_asks 48 (Nat.le_refl _) hk S.holds ha hb fun v8 w8 e8 o8 => ?_
    have S := S.take e8 o8
    exact h v8 w8 S.ext (S.give v8)
end Go.Proofs
