/-
  Contracts: Regions, of both sides; which regions one type asks of another (pure).
-/
import Derived.Test.YtajllnahceaipaaDoorTd
namespace Go.Proofs
open Go.Sh
set_option maxRecDepth 100000

theorem one_node {b : Nat} {v : Value} {t : TyD} {r : Gh} {T : TypeId} (h : TyG r v t) : NdG (r.or (one b v.cells.toList T)) b 0 t := by
  obtain ⟨c, rfl, hc, hr⟩ := h.rep
  refine ⟨c, hc, fun j x hj w hw => ?_, (TyG.of_rep hr).up⟩
  have B := one_blk (b := b) (c := (Value.agg c.toArray).cells.toList) (T := T) w (hw.le (h := inferInstance))
  show w.cell? ⟨b, 0 + j, none⟩ = some x
  rw [Nat.zero_add, B.cell]
  exact hj
theorem chain_len : ∀ (n : Nat) {t : TyD}, t.ht ≤ n → t.chain.length ≤ n := by
  intro n
  induction n with
  | zero => intro t h; cases t with | mk k m re st of => exact absurd h (Nat.not_succ_le_zero _)
  | succ n ih =>
    intro t h
    rw [TyD.chain_eq, List.length_cons]
    cases hof : t.of with
    | nil => exact Nat.succ_le_succ (Nat.zero_le _)
    | cons u l =>
      have : u.ht < t.ht := TyD.ht_of (by rw [hof]; exact List.mem_cons_self ..)
      exact Nat.succ_le_succ (ih (t := u) (by omega))
theorem regs_len (t : TyD) : t.regs.length ≤ t.ht := by
  rw [TyD.regs, TyD.regsL, List.length_map]
  exact Nat.le_trans (List.length_filter_le _ _) (chain_len _ (Nat.le_refl _))
theorem look_plain {s : Int} {n : Nat} {t : TyD} (h : lookB s (n + 1) t = true) (hk : t.k ≠ 4) : t.m = false ∧ t.re = 0 := by
  rw [lookB_succ] at h
  split at h
  · simp only [Bool.and_eq_true, decide_eq_true_eq, Bool.not_eq_true'] at h; exact h.1.1
  split at h
  · simp only [Bool.and_eq_true, decide_eq_true_eq, Bool.not_eq_true'] at h; exact h.1.1.1
  split at h
  · simp only [Bool.and_eq_true, decide_eq_true_eq, Bool.not_eq_true'] at h; exact h.1.1
  cases h
theorem look_ht : ∀ {n : Nat} {s : Int} {t : TyD}, lookB s n t = true → t.ht ≤ n
  | 0, _, _, h => by cases h
  | n + 1, s, t, h => by
    cases t with
    | mk k m re st of =>
      rcases look_cases h with ⟨hof, _⟩ | ⟨u, hof, hu, _⟩
      · cases hof; exact Nat.succ_le_succ (Nat.zero_le _)
      · cases hof
        refine Nat.succ_le_succ ?_
        show max u.ht 0 ≤ n
        rw [Nat.max_zero]; exact look_ht hu
theorem isB_ht {t : TyD} (h : isB t = true) : t.ht ≤ 48 := look_ht h
/-- a type that may be: regions -/
theorem look_regs {s : Int} {n : Nat} {t : TyD} (h : lookB s (n + 1) t = true) : (t.k ≠ 4 ∧ t.k ≠ 3 ∧ t.of = [] ∧ t.regs = []) ∨ ∃ u, t.of = [u] ∧ lookB s n u = true ∧ (t.k = 3 ∨ t.k = 4) ∧ t.regs = (if t.k = 4 then [t.re] else []) ++ u.regs := by
  rcases look_cases h with ⟨hof, hk⟩ | ⟨u, hof, hu, hk⟩
  · have h4 : t.k ≠ 4 := by omega
    refine .inl ⟨h4, by omega, hof, ?_⟩
    rw [TyD.regs_eq, hof, if_neg h4]; rfl
  · refine .inr ⟨u, hof, hu, hk, ?_⟩
    rw [TyD.regs_eq, hof]; rfl

theorem c_types_regions {t : TyD} {w : World} {r : Gh} {v : Value} {K : Value → World → Prop} (hr : Holds r w) (hv : TyG r v t) (ht : t.ht ≤ 1000000)
    (h : ∀ v' w', Ext w w' → w'.ownsRow w.heap.size 3 1 v' t.regs.length (ints t.regs) → K v' w') : oCall Tryd.prog Tryd.n_types_regions #[v] w K := by
  refine Tryd.ok_types_regions ?_
  unfold Tryd.F_types_regions
  have S := St.start hr
  refine S.box fun b1 w1 S => ?_
  have S := S.frz
  refine S.al fun b3 w3 S => ?_
  (repeat (first | refine s_p ?_ | refine s_c (by omega) ?_ | refine S.ld ?_ | refine S.ldB ?_ | refine S.ce ?_ | refine S.ceB ?_ | refine s_q ?_ | refine s_qc (by omega) ?_ | refine n_some ?_ | rw [List.getD_cons_zero] | rw [List.getD_cons_succ]))
  have S := (S.ownNil 3 1).swap
  refine c_types_walk_regs t.ht (Nat.le_refl _) S (one_node (T := 25) hv) (by omega) fun v' w' S => ?_
  refine S.ld ?_
  rw [Nat.zero_add, List.nil_append] at S
  exact h v' w' S.ext (S.give v')
/-- what Regions tells -/
def regsT (t : TyD) : List Int := if isB t then t.regs else []
theorem c_types_Regions {t : TyD} {w : World} {r : Gh} {v : Value} {K : Value → World → Prop} (hr : Holds r w) (hv : TyG r v t)
    (h : ∀ v' w', Ext w w' → w'.ownsRow w.heap.size 3 1 v' (regsT t).length (ints (regsT t)) → K v' w') : oCall Tryd.prog Tryd.n_types_Regions #[v] w K := by
  refine Tryd.ok_types_Regions ?_
  unfold Tryd.F_types_Regions
  have hv0 := hv
  obtain ⟨p, cap, rfl, _⟩ := hv
  have S := St.start hr
  refine S.box fun b1 w1 S => ?_
  (repeat (first | refine s_p ?_ | refine s_c (by omega) ?_ | refine S.ld ?_ | refine S.ldB ?_ | refine S.ce ?_ | refine S.ceB ?_ | refine s_q ?_ | refine s_qc (by omega) ?_ | refine n_some ?_ | rw [List.getD_cons_zero] | rw [List.getD_cons_succ]))
  refine c_types_may S.holds hv0 fun w2 e2 => ?_
  have S := S.go e2
  (repeat (first | refine s_p ?_ | refine s_c (by omega) ?_ | refine S.ld ?_ | refine S.ldB ?_ | refine S.ce ?_ | refine S.ceB ?_ | refine s_q ?_ | refine s_qc (by omega) ?_ | refine n_some ?_ | rw [List.getD_cons_zero] | rw [List.getD_cons_succ]))
  refine c_b (fun hn => ?_) (fun hb => ?_)
  · have hb : isB t = false := by simpa using hn
    refine h _ _ S.ext ?_
    rw [regsT, hb]
    exact World.ownsRow_nil _ _ _ _
  have hb : isB t = true := by simpa using hb
  (repeat (first | refine s_p ?_ | refine s_c (by omega) ?_ | refine S.ld ?_ | refine S.ldB ?_ | refine S.ce ?_ | refine S.ceB ?_ | refine s_q ?_ | refine s_qc (by omega) ?_ | refine n_some ?_ | rw [List.getD_cons_zero] | rw [List.getD_cons_succ]))
  have e02 := S.ext
  refine c_types_regions S.holds hv0 (by have := isB_ht hb; omega) fun v3 w3 e3 ho => ?_
  have S := S.take e3 ho
  refine h _ _ S.ext ?_
  rw [regsT, hb]
  exact S.give v3
theorem c_ref06_Regions {t : TyD} {w : World} {r : Gh} {v : Value} {K : Value → World → Prop} (hr : Holds r w) (hv : TyG r v t)
    (h : ∀ v' w', Ext w w' → w'.ownsRow w.heap.size 3 1 v' (regsT t).length (ints (regsT t)) → K v' w') : oCall Tryd.prog Tryd.n_ref06_Regions #[v] w K := by
  refine Tryd.ok_ref06_Regions ?_
  unfold Tryd.F_ref06_Regions
  have hv0 := hv
  obtain ⟨p, cap, rfl, _⟩ := hv
  have S := St.start hr
  refine S.box fun b1 w1 S => ?_
  (repeat (first | refine s_p ?_ | refine s_c (by omega) ?_ | refine S.ld ?_ | refine S.ldB ?_ | refine S.ce ?_ | refine S.ceB ?_ | refine s_q ?_ | refine s_qc (by omega) ?_ | refine n_some ?_ | rw [List.getD_cons_zero] | rw [List.getD_cons_succ]))
  refine c_ref06_Is S.holds hv0 fun w2 e2 => ?_
  have S := S.go e2
  (repeat (first | refine s_p ?_ | refine s_c (by omega) ?_ | refine S.ld ?_ | refine S.ldB ?_ | refine S.ce ?_ | refine S.ceB ?_ | refine s_q ?_ | refine s_qc (by omega) ?_ | refine n_some ?_ | rw [List.getD_cons_zero] | rw [List.getD_cons_succ]))
  refine c_b (fun hn => ?_) (fun hb => ?_)
  · have hb : isB t = false := by simpa using hn
    refine h _ _ S.ext ?_
    rw [regsT, hb]
    exact World.ownsRow_nil _ _ _ _
  have hb : isB t = true := by simpa using hb
  have hreg : regsT t = t.regs := by rw [regsT, hb]; rfl
  rw [hreg] at h
  have hlen := Nat.le_trans (regs_len t) (isB_ht hb)
  obtain ⟨c1, hc1, hc15, hrep⟩ := hv0.rep
  rw [show (Value.agg #[.int .u8 t.k, .bool t.m, .int .i64 t.re, .int .i64 t.st, .slice p t.of.length cap]).cells.toList = c1 by rw [hc1]; rfl] at S
  refine l_intro (ι := TyD × Value × List Int × List Value × Nat) (fun i => [i.2.1])
    (fun i w' => lookB 32 i.2.2.2.2 i.1 = true ∧ t.regs = i.2.2.1 ++ i.1.regs ∧ i.2.2.2.1.length = 5 ∧ TyG r (.agg i.2.2.2.1.toArray) i.1 ∧ St w r w' [.row i.2.1 3 1 i.2.2.1.length (ints i.2.2.1), .cell b1 i.2.2.2.1 25])
    (fun i => i.2.2.2.2) (t, .slice none 0 0, [], c1, 48) rfl ⟨hb, rfl, hc15, hc1 ▸ hv0, S.ownNil 3 1⟩ ?_
  clear S
  rintro ⟨u, v4, ds, c, n⟩ d w4 ⟨hu, hds, hc, hty, S⟩ K6 hK6
  simp only at hu hds hc hty S ⊢
  obtain ⟨n, rfl⟩ : ∃ m, n = m + 1 := by cases n with | zero => cases hu | succ n => exact ⟨n, rfl⟩
  obtain ⟨p, cap, hcv, _, _, hof⟩ := hty
  have hcv : c = [.int .u8 u.k, .bool u.m, .int .i64 u.re, .int .i64 u.st, .slice p u.of.length cap] := by
    have := Value.agg.inj hcv; exact List.toArray_inj this
  subst hcv
  (repeat (first | refine s_p ?_ | refine s_c (by omega) ?_ | refine S.ld ?_ | refine S.ldB ?_ | refine S.ce ?_ | refine S.ceB ?_ | refine s_q ?_ | refine s_qc (by omega) ?_ | refine n_some ?_ | rw [List.getD_cons_zero] | rw [List.getD_cons_succ]))
  refine j_bor (fun K2 hK2 => by (repeat (first | refine s_p ?_ | refine s_c (by omega) ?_ | refine S.ld ?_ | refine S.ldB ?_ | refine S.ce ?_ | refine S.ceB ?_ | refine s_q ?_ | refine s_qc (by omega) ?_ | refine n_some ?_ | rw [List.getD_cons_zero] | rw [List.getD_cons_succ])); exact hK2) ?_
  refine c_b (fun hk => ?_) (fun hk => ?_)
  · rcases look_regs hu with ⟨h4, h3, _⟩ | ⟨x, hofx, hx, hk34, hrg⟩
    · exfalso; simp [h4, h3] at hk
    rw [hrg, ← List.append_assoc] at hds
    have hl : 0 < u.of.length := by rw [hofx]; exact Nat.one_pos
    have hux : u.of[0] = x := by simp [hofx]
    refine j_intro (fun s w' => ∃ v', s = [v'] ∧ St w r w' [.row v' 3 1 (ds ++ (if u.k = 4 then [u.re] else [])).length (ints (ds ++ (if u.k = 4 then [u.re] else []))), .cell b1 [.int .u8 u.k, .bool u.m, .int .i64 u.re, .int .i64 u.st, .slice p u.of.length cap] 25]) (fun K2 hK2 => ?_) ?_
    · (repeat (first | refine s_p ?_ | refine s_c (by omega) ?_ | refine S.ld ?_ | refine S.ldB ?_ | refine S.ce ?_ | refine S.ceB ?_ | refine s_q ?_ | refine s_qc (by omega) ?_ | refine n_some ?_ | rw [List.getD_cons_zero] | rw [List.getD_cons_succ]))
      refine c_if (fun h4 => ?_) (fun h4 => hK2 _ _ ⟨v4, rfl, by simpa [h4] using S⟩)
      have hlen2 : ds.length ≤ 48 := by
        have := congrArg List.length hds
        simp only [List.length_append] at this
        omega
      (repeat (first | refine s_p ?_ | refine s_c (by omega) ?_ | refine S.ld ?_ | refine S.ldB ?_ | refine S.ce ?_ | refine S.ceB ?_ | refine s_q ?_ | refine s_qc (by omega) ?_ | refine n_some ?_ | rw [List.getD_cons_zero] | rw [List.getD_cons_succ]))
      refine S.lit (e := 3) (cs := [.int .i64 u.re]) (by kernel_rfl) fun b3 w3 S => ?_
      refine S.ap (Sl.blk (S.blk b3)) (fun v5 w5 S => ?_) (by omega)
      refine hK2 _ _ ⟨v5, rfl, ?_⟩
      simpa [h4, ints] using S.tl
    · rintro s w7 ⟨v5, rfl, S⟩ d7
      (repeat (first | refine s_p ?_ | refine s_c (by omega) ?_ | refine S.ld ?_ | refine S.ldB ?_ | refine S.ce ?_ | refine S.ceB ?_ | refine s_q ?_ | refine s_qc (by omega) ?_ | refine n_some ?_ | rw [List.getD_cons_zero] | rw [List.getD_cons_succ]))
      obtain ⟨ba, oa, ca, rfl, hca, hcella, hta⟩ := ty_elem S hof hl
      rw [hux] at hta
      (repeat (first | refine s_p ?_ | refine s_c (by omega) ?_ | refine S.ld ?_ | refine S.ldB ?_ | refine S.ce ?_ | refine S.ceB ?_ | refine s_q ?_ | refine s_qc (by omega) ?_ | refine n_some ?_ | rw [List.getD_cons_zero] | rw [List.getD_cons_succ]))
      refine s_ldN (n := 5) hca (by simpa using hcella) ?_
      have h1 : ∀ y ∈ ca.toArray.toList, y.oneCell' = true := by
        obtain ⟨p9, cap9, hv9, _⟩ := hta
        rw [Value.agg.inj hv9]; simp [Value.oneCell']
      refine S.stB (hc := by simpa using hca) (h1 := h1) fun w8 S => ?_
      exact hK6 (x, v5, ds ++ (if u.k = 4 then [u.re] else []), ca, n) _ ⟨hx, hds, hca, hta, S⟩ (Nat.lt_succ_self _)
  · rcases look_regs hu with ⟨h4, h3, hofx, hrg⟩ | ⟨x, hofx, hx, hk34, hrg⟩
    · rw [hrg, List.append_nil] at hds
      refine h _ _ S.ext ?_
      rw [hds]
      exact S.give v4
    · exfalso; rcases hk34 with h | h <;> simp [h] at hk
end Go.Proofs
