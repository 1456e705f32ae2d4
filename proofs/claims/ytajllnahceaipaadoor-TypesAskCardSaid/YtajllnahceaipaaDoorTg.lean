/-
  Contracts: Asks, of both sides.
-/
import Derived.Test.YtajllnahceaipaaDoorTf
namespace Go.Proofs
open Go.Sh
set_option maxRecDepth 100000

/-- what Asks tells: the pairs, and the error's number -/
def asksT (a b : TyD) : List (Int × Int) × Int :=
  if alikeT fAll a b then (if (a.regs ++ b.regs).any (fun x => decide (x < 0)) then ([], 2) else (asksD false a b, 0)) else ([], 2)
theorem alk_of {a b : TyD} (h : alikeT fAll a b = true) : Alk 48 a b := by
  simp only [alikeT, Bool.and_eq_true] at h
  exact ⟨h.1.1, h.1.2, h.2⟩
theorem asksT_len {a b : TyD} : (asksT a b).1.length ≤ 96 := by
  rw [asksT]
  split
  · rename_i h
    split
    · simp
    · exact asksD_len (alk_of h)
  · simp
theorem hf_neg (x : Int) (w : World) (K : Value → World → Prop) (hk : K (.bool (decide (x < 0))) w) : oCallV Tryd.prog (.func (.func Tryd.n_types_Asks_1) #[] #[]) #[.int .i64 x] w K := by
  refine v_func (by kernel_rfl) ?_
  refine Tryd.ok_types_Asks_1 (t0 := .int .i64 x) ?_
  unfold Tryd.F_types_Asks_1
  (first | refine s_p ?_ | refine s_c (by omega) ?_)
  exact hk
theorem ints_append (a b : List Int) : ints (a ++ b) = ints a ++ ints b := List.map_append ..
structure AskI where
  a : TyD
  b : TyD
  v : Value
  ds : List (Int × Int)
  ca : List Value
  cb : List Value
  g : Bool
  n : Nat
theorem cells_of {r : Gh} {c : List Value} {t : TyD} (h : TyG r (.agg c.toArray) t) : ∃ p cap, c = [.int .u8 t.k, .bool t.m, .int .i64 t.re, .int .i64 t.st, .slice p t.of.length cap] ∧ RepS r 5 p 0 (TyD.dats t.of) := by
  obtain ⟨p, cap, hv, _, _, hof⟩ := h
  exact ⟨p, cap, List.toArray_inj (Value.agg.inj hv), hof⟩
theorem ty_ones {r : Gh} {c : List Value} {t : TyD} (h : TyG r (.agg c.toArray) t) : ∀ y ∈ c.toArray.toList, y.oneCell' = true := by
  obtain ⟨p, cap, rfl, _⟩ := cells_of h
  simp [Value.oneCell']
theorem c_types_Asks {a b : TyD} {w : World} {r : Gh} {va vb : Value} {K : Value → World → Prop} (hr : Holds r w) (ha : TyG r va a) (hb : TyG r vb b)
    (h : ∀ v' w', Ext w w' → w'.ownsRow w.heap.size 35 2 v' (asksT a b).1.length (cons2 (asksT a b).1) → K (.tuple #[v', .int .i64 (asksT a b).2]) w') : oCall Tryd.prog Tryd.n_types_Asks #[va, vb] w K := by
  refine Tryd.ok_types_Asks ?_
  unfold Tryd.F_types_Asks
  obtain ⟨ca, rfl, hca, hra⟩ := ha.rep
  obtain ⟨cb, rfl, hcb, hrb⟩ := hb.rep
  have S := St.start hr
  refine S.box fun b2 w1 S => ?_
  refine S.box fun b3 w2 S => ?_
  rw [show (Value.agg ca.toArray).cells.toList = ca from rfl, show (Value.agg cb.toArray).cells.toList = cb from rfl] at S
  refine S.ldB ?_ hca
  refine S.ldB ?_ hcb
  refine c_types_Alike S.holds ha hb fun w3 e3 => ?_
  have S := S.go e3
  (repeat (first | refine s_p ?_ | refine s_c (by omega) ?_ | refine S.ld ?_ | refine S.ldB ?_ | refine S.ce ?_ | refine S.ceB ?_ | refine s_q ?_ | refine s_qc (by omega) ?_ | refine n_some ?_ | rw [List.getD_cons_zero] | rw [List.getD_cons_succ]))
  refine c_b (fun hn => ?_) (fun hal => ?_)
  · have hal : alikeT fAll a b = false := by simpa using hn
    have e : asksT a b = ([], 2) := by rw [asksT, hal]; rfl
    rw [e] at h
    exact h _ _ S.ext (World.ownsRow_nil _ _ _ _)
  have hal : alikeT fAll a b = true := by simpa using hal
  have hk := alk_of hal
  have hta := look_ht hk.1
  have htb := look_ht hk.2.1
  have hla := regs_len a
  have hlb := regs_len b
  have S := S.go (Ext.drew _)
  refine S.ldB ?_ hca
  refine S.ldB ?_ hcb
  refine c_types_regions S.holds ha (by omega) fun v4 w4 e4 o4 => ⟨e4, ?_⟩
  have S := S.take e4 o4
  refine c_types_regions S.holds hb (by omega) fun v5 w5 e5 o5 => ?_
  have S := S.take e5 o5
  obtain ⟨p5, cap5, rfl, hp5, _, _, hs5⟩ := S.rowS v5
  refine S.ap hs5 (fun v6 w6 S => ?_) (by omega) (by rw [ints_len]; omega) hp5 (ints_ones _)
  rw [← ints_append, ← List.length_append] at S
  obtain ⟨p6, cap6, rfl, hp6, _, _, hs6⟩ := S.rowS v6
  refine c_ContainsFunc_int (f := fun x => decide (x < 0)) hf_neg hs6 (by simp; omega) ?_
  refine c_b (fun hneg => ?_) (fun hneg => ?_)
  · have e : asksT a b = ([], 2) := by rw [asksT, hal, hneg]; rfl
    rw [e] at h
    exact h _ _ S.ext (World.ownsRow_nil _ _ _ _)
  have e : asksT a b = (asksD false a b, 0) := by rw [asksT, hal, hneg]; rfl
  rw [e] at h
  simp only at h
  have hlen := asksD_len (g := false) hk
  refine S.al fun b7 w7 S => ?_
  have S := S.less (fun _ _ h => h) (.cons_cons _ (.cons _ (.cons _ (List.Sublist.refl _))))
  have S := (S.ownNil 35 2).swap
  (repeat (first | refine s_p ?_ | refine s_c (by omega) ?_ | refine S.ld ?_ | refine S.ldB ?_ | refine S.ce ?_ | refine S.ceB ?_ | refine s_q ?_ | refine s_qc (by omega) ?_ | refine n_some ?_ | rw [List.getD_cons_zero] | rw [List.getD_cons_succ]))
  refine l_intro (ι := AskI) (fun i => [.bool i.g])
    (fun i w' => Alk i.n i.a i.b ∧ asksD false a b = i.ds ++ asksD i.g i.a i.b ∧ i.ca.length = 5 ∧ i.cb.length = 5 ∧ TyG r (.agg i.ca.toArray) i.a ∧ TyG r (.agg i.cb.toArray) i.b ∧
      St w r w' [.cell b7 [i.v] 28, .row i.v 35 2 i.ds.length (cons2 i.ds), .cell b3 i.cb 25, .cell b2 i.ca 25])
    (fun i => i.n) ⟨a, b, .slice none 0 0, [], ca, cb, false, 48⟩ rfl ⟨hk, rfl, hca, hcb, ha, hb, S⟩ ?_
  clear S
  rintro ⟨a', b', v, ds, ca', cb', g, n⟩ d w4 ⟨hk', hds, hca', hcb', ha', hb', S⟩ K6 hK6
  simp only at hk' hds hca' hcb' ha' hb' S ⊢
  rw [List.getD_cons_zero]
  obtain ⟨pa, capa, rfl, hofa⟩ := cells_of ha'
  obtain ⟨pb, capb, rfl, hofb⟩ := cells_of hb'
  have hdl : ds.length ≤ 96 := by
    have := congrArg List.length hds
    simp only [List.length_append] at this; omega
  refine j_intro (fun s w' => ∃ v', s = [.bool (bothL g a')] ∧ St w r w' [.cell b7 [v'] 28, .row v' 35 2 (ds ++ stepL g a' b').length (cons2 (ds ++ stepL g a' b')),
      .cell b3 [.int .u8 b'.k, .bool b'.m, .int .i64 b'.re, .int .i64 b'.st, .slice pb b'.of.length capb] 25, .cell b2 [.int .u8 a'.k, .bool a'.m, .int .i64 a'.re, .int .i64 a'.st, .slice pa a'.of.length capa] 25]) (fun K2 hK2 => ?_) ?_
  · (repeat (first | refine s_p ?_ | refine s_c (by omega) ?_ | refine S.ld ?_ | refine S.ldB ?_ | refine S.ce ?_ | refine S.ceB ?_ | refine s_q ?_ | refine s_qc (by omega) ?_ | refine n_some ?_ | rw [List.getD_cons_zero] | rw [List.getD_cons_succ]))
    refine c_if (fun h4 => ?_) (fun h4 => hK2 _ _ ⟨v, by rw [bothL, if_neg h4], by rw [stepL, if_neg h4, List.append_nil]; exact S⟩)
    (repeat (first | refine s_p ?_ | refine s_c (by omega) ?_ | refine S.ld ?_ | refine S.ldB ?_ | refine S.ce ?_ | refine S.ceB ?_ | refine s_q ?_ | refine s_qc (by omega) ?_ | refine n_some ?_ | rw [List.getD_cons_zero] | rw [List.getD_cons_succ]))
    refine v_func (by kernel_rfl) ?_
    show oCall _ _ #[_, _, _] _ _
    refine c_types_Asks_2 S (by omega) fun v8 w8 S => ?_
    refine j_intro (fun _ w' => ∃ v', St w r w' [.cell b7 [v'] 28, .row v' 35 2 (ds ++ stepL g a' b').length (cons2 (ds ++ stepL g a' b')),
      .cell b3 [.int .u8 b'.k, .bool b'.m, .int .i64 b'.re, .int .i64 b'.st, .slice pb b'.of.length capb] 25, .cell b2 [.int .u8 a'.k, .bool a'.m, .int .i64 a'.re, .int .i64 a'.st, .slice pa a'.of.length capa] 25]) (fun K3 hK3 => ?_) ?_
    · refine c_b (fun hg => ?_) (fun hg => hK3 _ _ ⟨v8, by rw [stepL, if_pos h4, hg]; exact S⟩)
      (repeat (first | refine s_p ?_ | refine s_c (by omega) ?_ | refine S.ld ?_ | refine S.ldB ?_ | refine S.ce ?_ | refine S.ceB ?_ | refine s_q ?_ | refine s_qc (by omega) ?_ | refine n_some ?_ | rw [List.getD_cons_zero] | rw [List.getD_cons_succ]))
      refine v_func (by kernel_rfl) ?_
      show oCall _ _ #[_, _, _] _ _
      refine c_types_Asks_2 S (by simp; omega) fun v9 w9 S => hK3 _ _ ⟨v9, ?_⟩
      rw [stepL, if_pos h4, hg]
      simpa using S
    · rintro s9 w9 ⟨v9, S⟩ d9
      refine j_bor (c := a'.m) (fun K4 hK4 => ?_) ?_
      · (repeat (first | refine s_p ?_ | refine s_c (by omega) ?_ | refine S.ld ?_ | refine S.ldB ?_ | refine S.ce ?_ | refine S.ceB ?_ | refine s_q ?_ | refine s_qc (by omega) ?_ | refine n_some ?_ | rw [List.getD_cons_zero] | rw [List.getD_cons_succ]))
        exact hK4
      exact hK2 _ _ ⟨v9, by rw [bothL, if_pos h4], S⟩
  · rintro s w5 ⟨v5, rfl, S⟩ d5
    rw [List.getD_cons_zero]
    obtain ⟨m, rfl, hkk, hc⟩ := alk_cases hk'
    rcases hc with ⟨h4, h3, hof, hnil⟩ | ⟨x, y, hofa1, hofb1, hxy, hk34, hst⟩
    · (repeat (first | refine s_p ?_ | refine s_c (by omega) ?_ | refine S.ld ?_ | refine S.ldB ?_ | refine S.ce ?_ | refine S.ceB ?_ | refine s_q ?_ | refine s_qc (by omega) ?_ | refine n_some ?_ | rw [List.getD_cons_zero] | rw [List.getD_cons_succ]))
      refine c_if (fun _ => ?_) (fun hn => absurd (by rw [hof]; rfl) hn)
      (repeat (first | refine s_p ?_ | refine s_c (by omega) ?_ | refine S.ld ?_ | refine S.ldB ?_ | refine S.ce ?_ | refine S.ceB ?_ | refine s_q ?_ | refine s_qc (by omega) ?_ | refine n_some ?_ | rw [List.getD_cons_zero] | rw [List.getD_cons_succ]))
      rw [hnil, List.append_nil] at hds
      rw [stepL, if_neg h4, List.append_nil] at S
      refine h v5 w5 S.ext ?_
      rw [hds]
      exact S.give v5
    · have hl1 : 0 < a'.of.length := by rw [hofa1]; exact Nat.one_pos
      have hl2 : 0 < b'.of.length := by rw [hofb1]; exact Nat.one_pos
      obtain ⟨ba, oa, rfl, ca2, hca2, hcella, hta2⟩ := NdG.of hofa hl1
      obtain ⟨bb, ob, rfl, cb2, hcb2, hcellb, htb2⟩ := NdG.of hofb hl2
      have hax : a'.of[0] = x := by simp [hofa1]
      have hby : b'.of[0] = y := by simp [hofb1]
      rw [hax] at hta2; rw [hby] at htb2
      (repeat (first | refine s_p ?_ | refine s_c (by omega) ?_ | refine S.ld ?_ | refine S.ldB ?_ | refine S.ce ?_ | refine S.ceB ?_ | refine s_q ?_ | refine s_qc (by omega) ?_ | refine n_some ?_ | rw [List.getD_cons_zero] | rw [List.getD_cons_succ]))
      refine c_if (fun hz => by omega) (fun _ => ?_)
      have S := S.go (Ext.drew _)
      (repeat (first | refine s_p ?_ | refine s_c (by omega) ?_ | refine S.ld ?_ | refine S.ldB ?_ | refine S.ce ?_ | refine S.ceB ?_ | refine s_q ?_ | refine s_qc (by omega) ?_ | refine n_some ?_ | rw [List.getD_cons_zero] | rw [List.getD_cons_succ]))
      refine s_ldN (n := 5) hca2 (fun j v hj => by simpa using S.at (hcella j v hj)) ?_
      (repeat (first | refine s_p ?_ | refine s_c (by omega) ?_ | refine S.ld ?_ | refine S.ldB ?_ | refine S.ce ?_ | refine S.ceB ?_ | refine s_q ?_ | refine s_qc (by omega) ?_ | refine n_some ?_ | rw [List.getD_cons_zero] | rw [List.getD_cons_succ]))
      have hone1 := ty_ones hta2
      have hone2 := ty_ones htb2
      have hq : ∀ w9, St w r w9 [.cell b7 [v5] 28, .row v5 35 2 (ds ++ stepL g a' b').length (cons2 (ds ++ stepL g a' b')), .cell b3 cb2 25, .cell b2 ca2 25] → K6 [.bool (bothL g a')] w9 := fun w9 S => by
        rw [hst, ← List.append_assoc] at hds
        exact hK6 ⟨x, y, v5, ds ++ stepL g a' b', ca2, cb2, bothL g a', m⟩ w9 ⟨hxy, hds, hca2, hcb2, hta2, htb2, S⟩ (Nat.lt_succ_self _)
      refine ⟨w_qE ?_, ?_⟩
      · (repeat (first | refine s_p ?_ | refine s_c (by omega) ?_ | refine S.ld ?_ | refine S.ldB ?_ | refine S.ce ?_ | refine S.ceB ?_ | refine s_q ?_ | refine s_qc (by omega) ?_ | refine n_some ?_ | rw [List.getD_cons_zero] | rw [List.getD_cons_succ]))
        refine ⟨w_qE ?_, ?_⟩
        · refine s_ldN (n := 5) hcb2 (fun j v hj => by simpa using S.at (hcellb j v hj)) ?_
          refine S.stB (hc := by simpa using hca2) (h1 := hone1) fun w6 S => ?_
          refine S.stB (hc := by simpa using hcb2) (h1 := hone2) fun w7 S => ?_
          exact hq _ S
        · refine S.stB (hc := by simpa using hca2) (h1 := hone1) fun w6 S => ?_
          refine w_qE ?_
          refine s_ldN (n := 5) hcb2 (fun j v hj => by simpa using S.at (hcellb j v hj)) ?_
          refine S.stB (hc := by simpa using hcb2) (h1 := hone2) fun w7 S => ?_
          exact hq _ S
      · refine S.stB (hc := by simpa using hca2) (h1 := hone1) fun w6 S => ?_
        refine w_qE ?_
        (repeat (first | refine s_p ?_ | refine s_c (by omega) ?_ | refine S.ld ?_ | refine S.ldB ?_ | refine S.ce ?_ | refine S.ceB ?_ | refine s_q ?_ | refine s_qc (by omega) ?_ | refine n_some ?_ | rw [List.getD_cons_zero] | rw [List.getD_cons_succ]))
        refine w_qE ?_
        refine s_ldN (n := 5) hcb2 (fun j v hj => by simpa using S.at (hcellb j v hj)) ?_
        refine S.stB (hc := by simpa using hcb2) (h1 := hone2) fun w7 S => ?_
        exact hq _ S
end Go.Proofs
