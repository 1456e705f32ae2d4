/-
  Layer 1, law: BitsLattice. Printed by gen/law_lattice.py.
-/
import Derived.Test.YtgbfpnnimnjbdaaDoorGa
namespace Go.Proofs
open Go.Sh Go.BM
set_option maxRecDepth 100000

/-! ### Rows that may be, put together -/
def orL (a b : List (BitVec 64)) : List (BitVec 64) := List.zipWith (gW 0) a b
def andL (a b : List (BitVec 64)) : List (BitVec 64) := List.zipWith (gW 1) a b
def lessL (a b : List (BitVec 64)) : List (BitVec 64) := List.zipWith (gW 2) a b
section
variable {W : Int} {a b c : List (BitVec 64)}
theorem may_g (how : Nat) (ha : May W a) (hb : May W b) : May W (List.zipWith (gW how) a b) := may_zip (gW_bit how) (gW_zero how) (by unfold hB; split; rfl; split <;> rfl) ha hb
theorem may_orL (ha : May W a) (hb : May W b) : May W (orL a b) := may_g 0 ha hb
theorem may_andL (ha : May W a) (hb : May W b) : May W (andL a b) := may_g 1 ha hb
theorem may_lessL (ha : May W a) (hb : May W b) : May W (lessL a b) := may_g 2 ha hb
theorem may_eqlen (ha : May W a) (hb : May W b) : a.length = b.length := by have := ha.2.2.1; have := hb.2.2.1; omega
theorem bit_orL (ha : May W a) (hb : May W b) (k : Nat) : bit (orL a b) k = (bit a k || bit b k) := bit_zip (gW_bit 0) (gW_zero 0) (may_eqlen ha hb) k
theorem bit_andL (ha : May W a) (hb : May W b) (k : Nat) : bit (andL a b) k = (bit a k && bit b k) := bit_zip (gW_bit 1) (gW_zero 1) (may_eqlen ha hb) k
theorem bit_lessL (ha : May W a) (hb : May W b) (k : Nat) : bit (lessL a b) k = (bit a k && !bit b k) := bit_zip (gW_bit 2) (gW_zero 2) (may_eqlen ha hb) k
theorem or_comm (ha : May W a) (hb : May W b) : orL a b = orL b a := may_ext (may_orL ha hb) (may_orL hb ha) fun k _ => by rw [bit_orL ha hb, bit_orL hb ha, Bool.or_comm]
theorem and_comm' (ha : May W a) (hb : May W b) : andL a b = andL b a := may_ext (may_andL ha hb) (may_andL hb ha) fun k _ => by rw [bit_andL ha hb, bit_andL hb ha, Bool.and_comm]
theorem or_assoc' (ha : May W a) (hb : May W b) (hc : May W c) : orL (orL a b) c = orL a (orL b c) := may_ext (may_orL (may_orL ha hb) hc) (may_orL ha (may_orL hb hc)) fun k _ => by
  rw [bit_orL (may_orL ha hb) hc, bit_orL ha hb, bit_orL ha (may_orL hb hc), bit_orL hb hc, Bool.or_assoc]
theorem and_assoc'' (ha : May W a) (hb : May W b) (hc : May W c) : andL (andL a b) c = andL a (andL b c) := may_ext (may_andL (may_andL ha hb) hc) (may_andL ha (may_andL hb hc)) fun k _ => by
  rw [bit_andL (may_andL ha hb) hc, bit_andL ha hb, bit_andL ha (may_andL hb hc), bit_andL hb hc, Bool.and_assoc]
theorem and_or (ha : May W a) (hb : May W b) : andL a (orL a b) = a := may_ext (may_andL ha (may_orL ha hb)) ha fun k _ => by
  rw [bit_andL ha (may_orL ha hb), bit_orL ha hb]; cases bit a k <;> simp
theorem or_and (ha : May W a) (hb : May W b) : orL a (andL a b) = a := may_ext (may_orL ha (may_andL ha hb)) ha fun k _ => by
  rw [bit_orL ha (may_andL ha hb), bit_andL ha hb]; cases bit a k <;> simp
theorem and_dist (ha : May W a) (hb : May W b) (hc : May W c) : andL a (orL b c) = orL (andL a b) (andL a c) := may_ext (may_andL ha (may_orL hb hc)) (may_orL (may_andL ha hb) (may_andL ha hc)) fun k _ => by
  rw [bit_andL ha (may_orL hb hc), bit_orL hb hc, bit_orL (may_andL ha hb) (may_andL ha hc), bit_andL ha hb, bit_andL ha hc, Bool.and_or_distrib_left]
theorem or_self' (ha : May W a) : orL a a = a := may_ext (may_orL ha ha) ha fun k _ => by rw [bit_orL ha ha, Bool.or_self]
theorem and_self' (ha : May W a) : andL a a = a := may_ext (may_andL ha ha) ha fun k _ => by rw [bit_andL ha ha, Bool.and_self]
theorem lack_iff (ha : May W a) (hb : May W b) : (lackL W a b).isEmpty = true ↔ orL a b = a := by
  rw [List.isEmpty_iff, lackL, List.filter_eq_nil_iff]
  constructor
  · intro h
    refine may_ext (may_orL ha hb) ha fun k hk => ?_
    have := h k (List.mem_range.2 (by omega))
    rw [bit_orL ha hb]
    revert this; cases bit a k <;> cases bit b k <;> simp
  · intro h k _ hk
    have h2 := bit_orL ha hb k
    rw [h] at h2
    simp only [Bool.and_eq_true, Bool.not_eq_true'] at hk
    rw [hk.1, hk.2] at h2
    cases h2
theorem count_filter (p q : Nat → Bool) : ∀ l : List Nat, (l.filter fun k => p k || q k).length + (l.filter fun k => p k && q k).length = (l.filter p).length + (l.filter q).length
  | [] => rfl
  | x :: l => by
    have ih := count_filter p q l
    cases hp : p x <;> cases hq : q x <;> simp only [List.filter_cons, hp, hq, Bool.or_true, Bool.or_false, Bool.and_true, Bool.and_false, if_true, List.length_cons, Bool.false_eq_true, if_false] <;> omega
theorem count_lattice (ha : May W a) (hb : May W b) : (eachL W (orL a b)).length + (eachL W (andL a b)).length = (eachL W a).length + (eachL W b).length := by
  rw [eachL_may (may_orL ha hb), eachL_may (may_andL ha hb), eachL_may ha, eachL_may hb, bitsOf_may (may_orL ha hb), bitsOf_may (may_andL ha hb), bitsOf_may ha, bitsOf_may hb]
  rw [← count_filter (bit a) (bit b)]
  congr 2
  · exact List.filter_congr fun k _ => bit_orL ha hb k
  · exact List.filter_congr fun k _ => bit_andL ha hb k
theorem each_bound (ha : May W a) : (eachL W a).length ≤ 1032 := by
  rw [eachL_may ha, bitsOf_may ha]
  have := List.length_filter_le (bit a) (List.range W.toNat)
  rw [List.length_range] at this
  have := ha.2.1; omega
end

/-- a row that may be, in a memory that stays -/
def MayG (r : Gh) (v : Value) (W : Int) (ws : List (BitVec 64)) : Prop := Ob r (fun w => RowV w v W ws) ∧ May W ws
theorem MayG.up {r s : Gh} {v : Value} {W : Int} {ws : List (BitVec 64)} (h : MayG r v W ws) [l : Le r s] : MayG s v W ws := ⟨h.1.up, h.2⟩
section
variable {w0 w : World} {r : Gh} {L : List Asr} {va vb : Value} {W : Int} {a b : List (BitVec 64)} {K : Value → World → Prop}
theorem k_join {f : FuncId} {g : BitVec 64 → BitVec 64 → BitVec 64} (S : St w0 r w L) (hm : May W (List.zipWith g a b)) (ha : May W a) (hb : May W b)
    (HC : (∀ v' w', Ext w w' → FreshRow w' w.heap.size v' (joinO g W a W b).W (joinO g W a W b).ws → K (.tuple #[v', err (joinO g W a W b).e]) w') → oCall Tryd.prog f #[va, vb] w K)
    (k : ∀ p n cap s w', St w0 (r.or s) w' L → MayG s (.agg #[.int .i64 W, .slice p n cap]) W (List.zipWith g a b) → K (.tuple #[.agg #[.int .i64 W, .slice p n cap], err 0]) w') : oCall Tryd.prog f #[va, vb] w K := by
  refine HC fun v' w' e hf => ?_
  have hO : joinO g W a W b = ⟨W, List.zipWith g a b, 0⟩ := RwO.pos ⟨ha, hb, rfl⟩
  rw [hO] at hf ⊢
  obtain ⟨s, n, m⟩ := hf.gh
  obtain ⟨p, cap, rfl⟩ := m.shape
  exact k _ _ _ _ _ (S.new e n) ⟨m.row, hm⟩
theorem k_or (S : St w0 r w L) (ha : MayG r va W a) (hb : MayG r vb W b)
    (k : ∀ p n cap s w', St w0 (r.or s) w' L → MayG s (.agg #[.int .i64 W, .slice p n cap]) W (orL a b) → K (.tuple #[.agg #[.int .i64 W, .slice p n cap], err 0]) w') : oCall Tryd.prog Tryd.n_bits_Or #[va, vb] w K :=
  k_join S (may_orL ha.2 hb.2) ha.2 hb.2 (c_bits_OrO (S.at ha.1) (S.at hb.1)) k
theorem k_and (S : St w0 r w L) (ha : MayG r va W a) (hb : MayG r vb W b)
    (k : ∀ p n cap s w', St w0 (r.or s) w' L → MayG s (.agg #[.int .i64 W, .slice p n cap]) W (andL a b) → K (.tuple #[.agg #[.int .i64 W, .slice p n cap], err 0]) w') : oCall Tryd.prog Tryd.n_bits_And #[va, vb] w K :=
  k_join S (may_andL ha.2 hb.2) ha.2 hb.2 (c_bits_AndO (S.at ha.1) (S.at hb.1)) k
theorem k_less (S : St w0 r w L) (ha : MayG r va W a) (hb : MayG r vb W b)
    (k : ∀ p n cap s w', St w0 (r.or s) w' L → MayG s (.agg #[.int .i64 W, .slice p n cap]) W (lessL a b) → K (.tuple #[.agg #[.int .i64 W, .slice p n cap], err 0]) w') : oCall Tryd.prog Tryd.n_bits_Less #[va, vb] w K :=
  k_join S (may_lessL ha.2 hb.2) ha.2 hb.2 (c_bits_LessO (S.at ha.1) (S.at hb.1)) k
theorem k_same (S : St w0 r w L) (ha : MayG r va W a) (hb : MayG r vb W b) (k : ∀ w', St w0 r w' L → K (.bool (decide (a = b))) w') : oCall Tryd.prog Tryd.n_law01_same #[va, vb, err 0, err 0] w K :=
  c_law01_same (S.at ha.1) (S.at hb.1) (by have := may_length ha.2; omega) fun w' e => by
    have := k w' (S.go e)
    rwa [show decide ((0 : Int) = 0 ∧ (0 : Int) = 0 ∧ W = W ∧ a = b) = decide (a = b) by simp]
theorem k_same_eq (S : St w0 r w L) (ha : MayG r va W a) (hb : MayG r vb W b) (hab : a = b) (k : ∀ w', St w0 r w' L → K (.bool true) w') : oCall Tryd.prog Tryd.n_law01_same #[va, vb, err 0, err 0] w K :=
  k_same S ha hb fun w' S => by rw [decide_eq_true hab]; exact k w' S
end

theorem c_law01_BitsLattice {w : World} {v1 v2 v3 : Value} {W1 W2 W3 : Int} {a b c : List (BitVec 64)} {K : Value → World → Prop} (hT : Tab w) (hr1 : RowV w v1 W1 a) (hr2 : RowV w v2 W2 b) (hr3 : RowV w v3 W3 c)
    (h : ∀ w', Ext w w' → K (.bool true) w') : oCall Tryd.prog Tryd.n_law01_BitsLattice #[v1, v2, v3] w K := by
  refine Tryd.ok_law01_BitsLattice ?_
  unfold Tryd.F_law01_BitsLattice
  have ga := hr1.all; have gb := hr2.all; have gc := hr3.all; have hT := hT.all
  obtain ⟨p, cap, rfl, _⟩ := hr1
  obtain ⟨p', cap', rfl, _⟩ := hr2
  obtain ⟨p'', cap'', rfl, _⟩ := hr3
  have S := St.start (all_holds w)
  refine S.box fun b2 w1 S => ?_
  refine S.box fun b3 w2 S => ?_
  refine S.box fun b4 w3 S => ?_
  have aw : ∀ {w' : World} {L : List Asr}, St w (all w) w' L → oCall Tryd.prog Tryd.n_law01_awake #[] w' K := fun S => c_law01_awake (S.at hT) fun w2 e2 => h _ (S.go e2).ext
  (repeat (first | refine s_p ?_ | refine s_c (by omega) ?_ | refine S.ld ?_ | refine S.ldB ?_ | refine S.ce ?_ | refine S.ceB ?_ | refine s_q ?_ | refine s_qc (by omega) ?_ | rw [List.getD_cons_zero] | rw [List.getD_cons_succ]))
  refine c_bits_May (S.at ga) fun w4 e4 => ?_
  have S := S.go e4
  (repeat (first | refine s_p ?_ | refine s_c (by omega) ?_ | refine S.ld ?_ | refine S.ldB ?_ | refine S.ce ?_ | refine S.ceB ?_ | refine s_q ?_ | refine s_qc (by omega) ?_ | rw [List.getD_cons_zero] | rw [List.getD_cons_succ]))
  refine j_orB (fun _ => ?_) (fun ha => ?_)
  · refine j_orB (fun _ => ?_) (fun hn => by cases hn)
    refine j_orB (fun _ => ?_) (fun hn => by cases hn)
    refine j_orB (fun _ => ?_) (fun hn => by cases hn)
    exact c_T (aw S)
  intro K2 hK2; (repeat (first | refine s_p ?_ | refine s_c (by omega) ?_ | refine S.ld ?_ | refine S.ldB ?_ | refine S.ce ?_ | refine S.ceB ?_ | refine s_q ?_ | refine s_qc (by omega) ?_ | rw [List.getD_cons_zero] | rw [List.getD_cons_succ]))
  refine c_bits_May (S.at gb) fun w4 e4 => ?_
  have S := S.go e4
  (repeat (first | refine s_p ?_ | refine s_c (by omega) ?_ | refine S.ld ?_ | refine S.ldB ?_ | refine S.ce ?_ | refine S.ceB ?_ | refine s_q ?_ | refine s_qc (by omega) ?_ | rw [List.getD_cons_zero] | rw [List.getD_cons_succ]))
  refine hK2 _ _ ?_; clear hK2 K2
  refine j_orB (fun _ => ?_) (fun hb => ?_)
  · refine j_orB (fun _ => ?_) (fun hn => by cases hn)
    refine j_orB (fun _ => ?_) (fun hn => by cases hn)
    exact c_T (aw S)
  intro K2 hK2; (repeat (first | refine s_p ?_ | refine s_c (by omega) ?_ | refine S.ld ?_ | refine S.ldB ?_ | refine S.ce ?_ | refine S.ceB ?_ | refine s_q ?_ | refine s_qc (by omega) ?_ | rw [List.getD_cons_zero] | rw [List.getD_cons_succ]))
  refine c_bits_May (S.at gc) fun w4 e4 => ?_
  have S := S.go e4
  (repeat (first | refine s_p ?_ | refine s_c (by omega) ?_ | refine S.ld ?_ | refine S.ldB ?_ | refine S.ce ?_ | refine S.ceB ?_ | refine s_q ?_ | refine s_qc (by omega) ?_ | rw [List.getD_cons_zero] | rw [List.getD_cons_succ]))
  refine hK2 _ _ ?_; clear hK2 K2
  refine j_orB (fun _ => ?_) (fun hc => ?_)
  · refine j_orB (fun _ => ?_) (fun hn => by cases hn)
    exact c_T (aw S)
  intro K2 hK2; (repeat (first | refine s_p ?_ | refine s_c (by omega) ?_ | refine S.ld ?_ | refine S.ldB ?_ | refine S.ce ?_ | refine S.ceB ?_ | refine s_q ?_ | refine s_qc (by omega) ?_ | rw [List.getD_cons_zero] | rw [List.getD_cons_succ]))
  refine hK2 _ _ ?_; clear hK2 K2
  refine j_or (fun _ => ?_) (fun hab => ?_)
  · exact c_T (aw S)
  intro K2 hK2; (repeat (first | refine s_p ?_ | refine s_c (by omega) ?_ | refine S.ld ?_ | refine S.ldB ?_ | refine S.ce ?_ | refine S.ceB ?_ | refine s_q ?_ | refine s_qc (by omega) ?_ | rw [List.getD_cons_zero] | rw [List.getD_cons_succ]))
  refine hK2 _ _ ?_; clear hK2 K2
  refine c_if (fun _ => ?_) (fun hac => ?_)
  · exact aw S
  have ha : May W1 a := mayB_iff.1 (by simpa using ha)
  have hb : May W2 b := mayB_iff.1 (by simpa using hb)
  have hc : May W3 c := mayB_iff.1 (by simpa using hc)
  obtain rfl : W1 = W2 := by omega
  obtain rfl : W1 = W3 := by omega
  have ga : MayG (all w) _ W1 a := ⟨ga, ha⟩
  have gb : MayG (all w) _ W1 b := ⟨gb, hb⟩
  have gc : MayG (all w) _ W1 c := ⟨gc, hc⟩
  (repeat (first | refine s_p ?_ | refine s_c (by omega) ?_ | refine S.ld ?_ | refine S.ldB ?_ | refine S.ce ?_ | refine S.ceB ?_ | refine s_q ?_ | refine s_qc (by omega) ?_ | rw [List.getD_cons_zero] | rw [List.getD_cons_succ]))
  refine k_or S ga.up gb.up fun pab nab capab sab wab S gab => ?_
  (repeat (first | refine s_p ?_ | refine s_c (by omega) ?_ | refine S.ld ?_ | refine S.ldB ?_ | refine S.ce ?_ | refine S.ceB ?_ | refine s_q ?_ | refine s_qc (by omega) ?_ | rw [List.getD_cons_zero] | rw [List.getD_cons_succ]))
  refine S.al fun bab wab S => ?_
  refine S.stB fun wab S => ?_
  (repeat (first | refine s_p ?_ | refine s_c (by omega) ?_ | refine S.ld ?_ | refine S.ldB ?_ | refine S.ce ?_ | refine S.ceB ?_ | refine s_q ?_ | refine s_qc (by omega) ?_ | rw [List.getD_cons_zero] | rw [List.getD_cons_succ]))
  refine k_or S gb.up ga.up fun pba nba capba sba wba S gba => ?_
  (repeat (first | refine s_p ?_ | refine s_c (by omega) ?_ | refine S.ld ?_ | refine S.ldB ?_ | refine S.ce ?_ | refine S.ceB ?_ | refine s_q ?_ | refine s_qc (by omega) ?_ | rw [List.getD_cons_zero] | rw [List.getD_cons_succ]))
  refine S.al fun bba wba S => ?_
  refine S.stB fun wba S => ?_
  (repeat (first | refine s_p ?_ | refine s_c (by omega) ?_ | refine S.ld ?_ | refine S.ldB ?_ | refine S.ce ?_ | refine S.ceB ?_ | refine s_q ?_ | refine s_qc (by omega) ?_ | rw [List.getD_cons_zero] | rw [List.getD_cons_succ]))
  refine k_same_eq S gab.up gba.up (or_comm ha hb) fun w5 S => ?_
  (repeat (first | refine s_p ?_ | refine s_c (by omega) ?_ | refine S.ld ?_ | refine S.ldB ?_ | refine S.ce ?_ | refine S.ceB ?_ | refine s_q ?_ | refine s_qc (by omega) ?_ | rw [List.getD_cons_zero] | rw [List.getD_cons_succ]))
  (repeat (first | refine s_p ?_ | refine s_c (by omega) ?_ | refine S.ld ?_ | refine S.ldB ?_ | refine S.ce ?_ | refine S.ceB ?_ | refine s_q ?_ | refine s_qc (by omega) ?_ | rw [List.getD_cons_zero] | rw [List.getD_cons_succ]))
  refine k_or S gab.up gc.up fun px1 nx1 capx1 sx1 wx1 S gx1 => ?_
  (repeat (first | refine s_p ?_ | refine s_c (by omega) ?_ | refine S.ld ?_ | refine S.ldB ?_ | refine S.ce ?_ | refine S.ceB ?_ | refine s_q ?_ | refine s_qc (by omega) ?_ | rw [List.getD_cons_zero] | rw [List.getD_cons_succ]))
  refine S.al fun bx1 wx1 S => ?_
  refine S.stB fun wx1 S => ?_
  (repeat (first | refine s_p ?_ | refine s_c (by omega) ?_ | refine S.ld ?_ | refine S.ldB ?_ | refine S.ce ?_ | refine S.ceB ?_ | refine s_q ?_ | refine s_qc (by omega) ?_ | rw [List.getD_cons_zero] | rw [List.getD_cons_succ]))
  refine k_or S gb.up gc.up fun pbc nbc capbc sbc wbc S gbc => ?_
  (repeat (first | refine s_p ?_ | refine s_c (by omega) ?_ | refine S.ld ?_ | refine S.ldB ?_ | refine S.ce ?_ | refine S.ceB ?_ | refine s_q ?_ | refine s_qc (by omega) ?_ | rw [List.getD_cons_zero] | rw [List.getD_cons_succ]))
  refine S.al fun bbc wbc S => ?_
  refine S.stB fun wbc S => ?_
  (repeat (first | refine s_p ?_ | refine s_c (by omega) ?_ | refine S.ld ?_ | refine S.ldB ?_ | refine S.ce ?_ | refine S.ceB ?_ | refine s_q ?_ | refine s_qc (by omega) ?_ | rw [List.getD_cons_zero] | rw [List.getD_cons_succ]))
  refine k_or S ga.up gbc.up fun py1 ny1 capy1 sy1 wy1 S gy1 => ?_
  (repeat (first | refine s_p ?_ | refine s_c (by omega) ?_ | refine S.ld ?_ | refine S.ldB ?_ | refine S.ce ?_ | refine S.ceB ?_ | refine s_q ?_ | refine s_qc (by omega) ?_ | rw [List.getD_cons_zero] | rw [List.getD_cons_succ]))
  refine S.al fun by1 wy1 S => ?_
  refine S.stB fun wy1 S => ?_
  (repeat (first | refine s_p ?_ | refine s_c (by omega) ?_ | refine S.ld ?_ | refine S.ldB ?_ | refine S.ce ?_ | refine S.ceB ?_ | refine s_q ?_ | refine s_qc (by omega) ?_ | rw [List.getD_cons_zero] | rw [List.getD_cons_succ]))
  refine j_or (fun hn => absurd rfl hn) (fun _ => ?_)
  intro K2 hK2
  (repeat (first | refine s_p ?_ | refine s_c (by omega) ?_ | refine S.ld ?_ | refine S.ldB ?_ | refine S.ce ?_ | refine S.ceB ?_ | refine s_q ?_ | refine s_qc (by omega) ?_ | rw [List.getD_cons_zero] | rw [List.getD_cons_succ]))
  refine k_same_eq S gx1.up gy1.up (or_assoc' ha hb hc) fun w5 S => ?_
  (repeat (first | refine s_p ?_ | refine s_c (by omega) ?_ | refine S.ld ?_ | refine S.ldB ?_ | refine S.ce ?_ | refine S.ceB ?_ | refine s_q ?_ | refine s_qc (by omega) ?_ | rw [List.getD_cons_zero] | rw [List.getD_cons_succ]))
  refine hK2 _ _ ?_; clear hK2 K2
  refine c_F ?_
  (repeat (first | refine s_p ?_ | refine s_c (by omega) ?_ | refine S.ld ?_ | refine S.ldB ?_ | refine S.ce ?_ | refine S.ceB ?_ | refine s_q ?_ | refine s_qc (by omega) ?_ | rw [List.getD_cons_zero] | rw [List.getD_cons_succ]))
  refine k_and S ga.up gb.up fun pm nm capm sm wm S gm => ?_
  (repeat (first | refine s_p ?_ | refine s_c (by omega) ?_ | refine S.ld ?_ | refine S.ldB ?_ | refine S.ce ?_ | refine S.ceB ?_ | refine s_q ?_ | refine s_qc (by omega) ?_ | rw [List.getD_cons_zero] | rw [List.getD_cons_succ]))
  refine S.al fun bm wm S => ?_
  refine S.stB fun wm S => ?_
  (repeat (first | refine s_p ?_ | refine s_c (by omega) ?_ | refine S.ld ?_ | refine S.ldB ?_ | refine S.ce ?_ | refine S.ceB ?_ | refine s_q ?_ | refine s_qc (by omega) ?_ | rw [List.getD_cons_zero] | rw [List.getD_cons_succ]))
  refine k_and S gb.up ga.up fun pn nn capn sn wn S gn => ?_
  (repeat (first | refine s_p ?_ | refine s_c (by omega) ?_ | refine S.ld ?_ | refine S.ldB ?_ | refine S.ce ?_ | refine S.ceB ?_ | refine s_q ?_ | refine s_qc (by omega) ?_ | rw [List.getD_cons_zero] | rw [List.getD_cons_succ]))
  refine S.al fun bn wn S => ?_
  refine S.stB fun wn S => ?_
  (repeat (first | refine s_p ?_ | refine s_c (by omega) ?_ | refine S.ld ?_ | refine S.ldB ?_ | refine S.ce ?_ | refine S.ceB ?_ | refine s_q ?_ | refine s_qc (by omega) ?_ | rw [List.getD_cons_zero] | rw [List.getD_cons_succ]))
  refine k_same_eq S gm.up gn.up (and_comm' ha hb) fun w5 S => ?_
  (repeat (first | refine s_p ?_ | refine s_c (by omega) ?_ | refine S.ld ?_ | refine S.ldB ?_ | refine S.ce ?_ | refine S.ceB ?_ | refine s_q ?_ | refine s_qc (by omega) ?_ | rw [List.getD_cons_zero] | rw [List.getD_cons_succ]))
  (repeat (first | refine s_p ?_ | refine s_c (by omega) ?_ | refine S.ld ?_ | refine S.ldB ?_ | refine S.ce ?_ | refine S.ceB ?_ | refine s_q ?_ | refine s_qc (by omega) ?_ | rw [List.getD_cons_zero] | rw [List.getD_cons_succ]))
  refine k_and S gm.up gc.up fun px2 nx2 capx2 sx2 wx2 S gx2 => ?_
  (repeat (first | refine s_p ?_ | refine s_c (by omega) ?_ | refine S.ld ?_ | refine S.ldB ?_ | refine S.ce ?_ | refine S.ceB ?_ | refine s_q ?_ | refine s_qc (by omega) ?_ | rw [List.getD_cons_zero] | rw [List.getD_cons_succ]))
  refine S.stB fun wx2 S => ?_
  (repeat (first | refine s_p ?_ | refine s_c (by omega) ?_ | refine S.ld ?_ | refine S.ldB ?_ | refine S.ce ?_ | refine S.ceB ?_ | refine s_q ?_ | refine s_qc (by omega) ?_ | rw [List.getD_cons_zero] | rw [List.getD_cons_succ]))
  refine k_and S gb.up gc.up fun pn2 nn2 capn2 sn2 wn2 S gn2 => ?_
  (repeat (first | refine s_p ?_ | refine s_c (by omega) ?_ | refine S.ld ?_ | refine S.ldB ?_ | refine S.ce ?_ | refine S.ceB ?_ | refine s_q ?_ | refine s_qc (by omega) ?_ | rw [List.getD_cons_zero] | rw [List.getD_cons_succ]))
  refine S.stB fun wn2 S => ?_
  (repeat (first | refine s_p ?_ | refine s_c (by omega) ?_ | refine S.ld ?_ | refine S.ldB ?_ | refine S.ce ?_ | refine S.ceB ?_ | refine s_q ?_ | refine s_qc (by omega) ?_ | rw [List.getD_cons_zero] | rw [List.getD_cons_succ]))
  refine k_and S ga.up gn2.up fun py2 ny2 capy2 sy2 wy2 S gy2 => ?_
  (repeat (first | refine s_p ?_ | refine s_c (by omega) ?_ | refine S.ld ?_ | refine S.ldB ?_ | refine S.ce ?_ | refine S.ceB ?_ | refine s_q ?_ | refine s_qc (by omega) ?_ | rw [List.getD_cons_zero] | rw [List.getD_cons_succ]))
  refine S.stB fun wy2 S => ?_
  (repeat (first | refine s_p ?_ | refine s_c (by omega) ?_ | refine S.ld ?_ | refine S.ldB ?_ | refine S.ce ?_ | refine S.ceB ?_ | refine s_q ?_ | refine s_qc (by omega) ?_ | rw [List.getD_cons_zero] | rw [List.getD_cons_succ]))
  refine j_or (fun hn => absurd rfl hn) (fun _ => ?_)
  intro K2 hK2
  (repeat (first | refine s_p ?_ | refine s_c (by omega) ?_ | refine S.ld ?_ | refine S.ldB ?_ | refine S.ce ?_ | refine S.ceB ?_ | refine s_q ?_ | refine s_qc (by omega) ?_ | rw [List.getD_cons_zero] | rw [List.getD_cons_succ]))
  refine k_same_eq S gx2.up gy2.up (and_assoc'' ha hb hc) fun w5 S => ?_
  (repeat (first | refine s_p ?_ | refine s_c (by omega) ?_ | refine S.ld ?_ | refine S.ldB ?_ | refine S.ce ?_ | refine S.ceB ?_ | refine s_q ?_ | refine s_qc (by omega) ?_ | rw [List.getD_cons_zero] | rw [List.getD_cons_succ]))
  refine hK2 _ _ ?_; clear hK2 K2
  refine c_F ?_
  (repeat (first | refine s_p ?_ | refine s_c (by omega) ?_ | refine S.ld ?_ | refine S.ldB ?_ | refine S.ce ?_ | refine S.ceB ?_ | refine s_q ?_ | refine s_qc (by omega) ?_ | rw [List.getD_cons_zero] | rw [List.getD_cons_succ]))
  refine k_and S ga.up gab.up fun px3 nx3 capx3 sx3 wx3 S gx3 => ?_
  (repeat (first | refine s_p ?_ | refine s_c (by omega) ?_ | refine S.ld ?_ | refine S.ldB ?_ | refine S.ce ?_ | refine S.ceB ?_ | refine s_q ?_ | refine s_qc (by omega) ?_ | rw [List.getD_cons_zero] | rw [List.getD_cons_succ]))
  refine S.stB fun wx3 S => ?_
  (repeat (first | refine s_p ?_ | refine s_c (by omega) ?_ | refine S.ld ?_ | refine S.ldB ?_ | refine S.ce ?_ | refine S.ceB ?_ | refine s_q ?_ | refine s_qc (by omega) ?_ | rw [List.getD_cons_zero] | rw [List.getD_cons_succ]))
  refine k_or S ga.up gm.up fun py3 ny3 capy3 sy3 wy3 S gy3 => ?_
  (repeat (first | refine s_p ?_ | refine s_c (by omega) ?_ | refine S.ld ?_ | refine S.ldB ?_ | refine S.ce ?_ | refine S.ceB ?_ | refine s_q ?_ | refine s_qc (by omega) ?_ | rw [List.getD_cons_zero] | rw [List.getD_cons_succ]))
  refine S.stB fun wy3 S => ?_
  (repeat (first | refine s_p ?_ | refine s_c (by omega) ?_ | refine S.ld ?_ | refine S.ldB ?_ | refine S.ce ?_ | refine S.ceB ?_ | refine s_q ?_ | refine s_qc (by omega) ?_ | rw [List.getD_cons_zero] | rw [List.getD_cons_succ]))
  refine k_same_eq S gx3.up ga.up (and_or ha hb) fun w5 S => ?_
  (repeat (first | refine s_p ?_ | refine s_c (by omega) ?_ | refine S.ld ?_ | refine S.ldB ?_ | refine S.ce ?_ | refine S.ceB ?_ | refine s_q ?_ | refine s_qc (by omega) ?_ | rw [List.getD_cons_zero] | rw [List.getD_cons_succ]))
  refine j_orB (fun hn => by cases hn) (fun _ => ?_)
  intro K2 hK2
  (repeat (first | refine s_p ?_ | refine s_c (by omega) ?_ | refine S.ld ?_ | refine S.ldB ?_ | refine S.ce ?_ | refine S.ceB ?_ | refine s_q ?_ | refine s_qc (by omega) ?_ | rw [List.getD_cons_zero] | rw [List.getD_cons_succ]))
  refine k_same_eq S gy3.up ga.up (or_and ha hb) fun w5 S => ?_
  (repeat (first | refine s_p ?_ | refine s_c (by omega) ?_ | refine S.ld ?_ | refine S.ldB ?_ | refine S.ce ?_ | refine S.ceB ?_ | refine s_q ?_ | refine s_qc (by omega) ?_ | rw [List.getD_cons_zero] | rw [List.getD_cons_succ]))
  refine hK2 _ _ ?_; clear hK2 K2
  refine c_F ?_
  (repeat (first | refine s_p ?_ | refine s_c (by omega) ?_ | refine S.ld ?_ | refine S.ldB ?_ | refine S.ce ?_ | refine S.ceB ?_ | refine s_q ?_ | refine s_qc (by omega) ?_ | rw [List.getD_cons_zero] | rw [List.getD_cons_succ]))
  refine k_and S ga.up gbc.up fun px4 nx4 capx4 sx4 wx4 S gx4 => ?_
  (repeat (first | refine s_p ?_ | refine s_c (by omega) ?_ | refine S.ld ?_ | refine S.ldB ?_ | refine S.ce ?_ | refine S.ceB ?_ | refine s_q ?_ | refine s_qc (by omega) ?_ | rw [List.getD_cons_zero] | rw [List.getD_cons_succ]))
  refine S.stB fun wx4 S => ?_
  (repeat (first | refine s_p ?_ | refine s_c (by omega) ?_ | refine S.ld ?_ | refine S.ldB ?_ | refine S.ce ?_ | refine S.ceB ?_ | refine s_q ?_ | refine s_qc (by omega) ?_ | rw [List.getD_cons_zero] | rw [List.getD_cons_succ]))
  refine k_and S ga.up gc.up fun pac nac capac sac wac S gac => ?_
  (repeat (first | refine s_p ?_ | refine s_c (by omega) ?_ | refine S.ld ?_ | refine S.ldB ?_ | refine S.ce ?_ | refine S.ceB ?_ | refine s_q ?_ | refine s_qc (by omega) ?_ | rw [List.getD_cons_zero] | rw [List.getD_cons_succ]))
  refine S.al fun bac wac S => ?_
  refine S.stB fun wac S => ?_
  (repeat (first | refine s_p ?_ | refine s_c (by omega) ?_ | refine S.ld ?_ | refine S.ldB ?_ | refine S.ce ?_ | refine S.ceB ?_ | refine s_q ?_ | refine s_qc (by omega) ?_ | rw [List.getD_cons_zero] | rw [List.getD_cons_succ]))
  refine k_or S gm.up gac.up fun py4 ny4 capy4 sy4 wy4 S gy4 => ?_
  (repeat (first | refine s_p ?_ | refine s_c (by omega) ?_ | refine S.ld ?_ | refine S.ldB ?_ | refine S.ce ?_ | refine S.ceB ?_ | refine s_q ?_ | refine s_qc (by omega) ?_ | rw [List.getD_cons_zero] | rw [List.getD_cons_succ]))
  refine S.stB fun wy4 S => ?_
  (repeat (first | refine s_p ?_ | refine s_c (by omega) ?_ | refine S.ld ?_ | refine S.ldB ?_ | refine S.ce ?_ | refine S.ceB ?_ | refine s_q ?_ | refine s_qc (by omega) ?_ | rw [List.getD_cons_zero] | rw [List.getD_cons_succ]))
  refine j_or (fun hn => absurd rfl hn) (fun _ => ?_)
  intro K2 hK2
  (repeat (first | refine s_p ?_ | refine s_c (by omega) ?_ | refine S.ld ?_ | refine S.ldB ?_ | refine S.ce ?_ | refine S.ceB ?_ | refine s_q ?_ | refine s_qc (by omega) ?_ | rw [List.getD_cons_zero] | rw [List.getD_cons_succ]))
  refine k_same_eq S gx4.up gy4.up (and_dist ha hb hc) fun w5 S => ?_
  (repeat (first | refine s_p ?_ | refine s_c (by omega) ?_ | refine S.ld ?_ | refine S.ldB ?_ | refine S.ce ?_ | refine S.ceB ?_ | refine s_q ?_ | refine s_qc (by omega) ?_ | rw [List.getD_cons_zero] | rw [List.getD_cons_succ]))
  refine hK2 _ _ ?_; clear hK2 K2
  refine c_F ?_
  (repeat (first | refine s_p ?_ | refine s_c (by omega) ?_ | refine S.ld ?_ | refine S.ldB ?_ | refine S.ce ?_ | refine S.ceB ?_ | refine s_q ?_ | refine s_qc (by omega) ?_ | rw [List.getD_cons_zero] | rw [List.getD_cons_succ]))
  refine k_or S ga.up ga.up fun px5 nx5 capx5 sx5 wx5 S gx5 => ?_
  (repeat (first | refine s_p ?_ | refine s_c (by omega) ?_ | refine S.ld ?_ | refine S.ldB ?_ | refine S.ce ?_ | refine S.ceB ?_ | refine s_q ?_ | refine s_qc (by omega) ?_ | rw [List.getD_cons_zero] | rw [List.getD_cons_succ]))
  refine S.stB fun wx5 S => ?_
  (repeat (first | refine s_p ?_ | refine s_c (by omega) ?_ | refine S.ld ?_ | refine S.ldB ?_ | refine S.ce ?_ | refine S.ceB ?_ | refine s_q ?_ | refine s_qc (by omega) ?_ | rw [List.getD_cons_zero] | rw [List.getD_cons_succ]))
  refine k_and S ga.up ga.up fun py5 ny5 capy5 sy5 wy5 S gy5 => ?_
  (repeat (first | refine s_p ?_ | refine s_c (by omega) ?_ | refine S.ld ?_ | refine S.ldB ?_ | refine S.ce ?_ | refine S.ceB ?_ | refine s_q ?_ | refine s_qc (by omega) ?_ | rw [List.getD_cons_zero] | rw [List.getD_cons_succ]))
  refine S.stB fun wy5 S => ?_
  (repeat (first | refine s_p ?_ | refine s_c (by omega) ?_ | refine S.ld ?_ | refine S.ldB ?_ | refine S.ce ?_ | refine S.ceB ?_ | refine s_q ?_ | refine s_qc (by omega) ?_ | rw [List.getD_cons_zero] | rw [List.getD_cons_succ]))
  refine k_same_eq S gx5.up ga.up (or_self' ha) fun w5 S => ?_
  (repeat (first | refine s_p ?_ | refine s_c (by omega) ?_ | refine S.ld ?_ | refine S.ldB ?_ | refine S.ce ?_ | refine S.ceB ?_ | refine s_q ?_ | refine s_qc (by omega) ?_ | rw [List.getD_cons_zero] | rw [List.getD_cons_succ]))
  refine j_orB (fun hn => by cases hn) (fun _ => ?_)
  intro K2 hK2
  (repeat (first | refine s_p ?_ | refine s_c (by omega) ?_ | refine S.ld ?_ | refine S.ldB ?_ | refine S.ce ?_ | refine S.ceB ?_ | refine s_q ?_ | refine s_qc (by omega) ?_ | rw [List.getD_cons_zero] | rw [List.getD_cons_succ]))
  refine k_same_eq S gy5.up ga.up (and_self' ha) fun w5 S => ?_
  (repeat (first | refine s_p ?_ | refine s_c (by omega) ?_ | refine S.ld ?_ | refine S.ldB ?_ | refine S.ce ?_ | refine S.ceB ?_ | refine s_q ?_ | refine s_qc (by omega) ?_ | rw [List.getD_cons_zero] | rw [List.getD_cons_succ]))
  refine hK2 _ _ ?_; clear hK2 K2
  refine c_F ?_
  (repeat (first | refine s_p ?_ | refine s_c (by omega) ?_ | refine S.ld ?_ | refine S.ldB ?_ | refine S.ce ?_ | refine S.ceB ?_ | refine s_q ?_ | refine s_qc (by omega) ?_ | rw [List.getD_cons_zero] | rw [List.getD_cons_succ]))
  refine c_bits_Has (S.at hT) (S.at ga.1) (S.at gb.1) (fun hn => absurd ⟨ha, hb, rfl⟩ hn) fun _ _ _ w6 e6 => ?_
  have S := S.go e6
  (repeat (first | refine s_p ?_ | refine s_c (by omega) ?_ | refine S.ld ?_ | refine S.ldB ?_ | refine S.ce ?_ | refine S.ceB ?_ | refine s_q ?_ | refine s_qc (by omega) ?_ | rw [List.getD_cons_zero] | rw [List.getD_cons_succ]))
  refine k_less S gb.up ga.up fun pl nl capl sl wl S gl => ?_
  (repeat (first | refine s_p ?_ | refine s_c (by omega) ?_ | refine S.ld ?_ | refine S.ldB ?_ | refine S.ce ?_ | refine S.ceB ?_ | refine s_q ?_ | refine s_qc (by omega) ?_ | rw [List.getD_cons_zero] | rw [List.getD_cons_succ]))
  refine S.al fun bl wl S => ?_
  refine S.stB fun wl S => ?_
  (repeat (first | refine s_p ?_ | refine s_c (by omega) ?_ | refine S.ld ?_ | refine S.ldB ?_ | refine S.ce ?_ | refine S.ceB ?_ | refine s_q ?_ | refine s_qc (by omega) ?_ | rw [List.getD_cons_zero] | rw [List.getD_cons_succ]))
  refine c_bits_First (S.at hT) (S.at ga.1) (S.at gb.1) (fun hn => absurd ⟨ha, hb, rfl⟩ hn) fun _ _ _ w7 e7 => ?_
  have S := S.go e7
  unfold firstV
  (repeat (first | refine s_p ?_ | refine s_c (by omega) ?_ | refine S.ld ?_ | refine S.ldB ?_ | refine S.ce ?_ | refine S.ceB ?_ | refine s_q ?_ | refine s_qc (by omega) ?_ | rw [List.getD_cons_zero] | rw [List.getD_cons_succ]))
  have S := S.go (Ext.drew _)
  (repeat (first | refine s_p ?_ | refine s_c (by omega) ?_ | refine S.ld ?_ | refine S.ldB ?_ | refine S.ce ?_ | refine S.ceB ?_ | refine s_q ?_ | refine s_qc (by omega) ?_ | rw [List.getD_cons_zero] | rw [List.getD_cons_succ]))
  refine c_bits_Count (S.at ga.1) fun w8 e8 => ⟨e8, ?_⟩
  have S := S.go e8
  refine c_bits_Count (S.at gb.1) fun w9 e9 => ?_
  have S := S.go e9
  have la := each_bound ha; have lb := each_bound hb; have lo := each_bound (may_orL ha hb); have lm := each_bound (may_andL ha hb)
  have hlat := count_lattice ha hb
  have S := S.go (Ext.drew _)
  (repeat (first | refine s_p ?_ | refine s_c (by omega) ?_ | refine S.ld ?_ | refine S.ldB ?_ | refine S.ce ?_ | refine S.ceB ?_ | refine s_q ?_ | refine s_qc (by omega) ?_ | rw [List.getD_cons_zero] | rw [List.getD_cons_succ]))
  refine j_and (fun hn => absurd rfl hn) (fun _ => ?_)
  intro K2 hK2; (repeat (first | refine s_p ?_ | refine s_c (by omega) ?_ | refine S.ld ?_ | refine S.ldB ?_ | refine S.ce ?_ | refine S.ceB ?_ | refine s_q ?_ | refine s_qc (by omega) ?_ | rw [List.getD_cons_zero] | rw [List.getD_cons_succ])); refine hK2 _ _ ?_; clear hK2 K2
  refine j_and (fun hn => absurd rfl hn) (fun _ => ?_)
  intro K2 hK2; (repeat (first | refine s_p ?_ | refine s_c (by omega) ?_ | refine S.ld ?_ | refine S.ldB ?_ | refine S.ce ?_ | refine S.ceB ?_ | refine s_q ?_ | refine s_qc (by omega) ?_ | rw [List.getD_cons_zero] | rw [List.getD_cons_succ])); refine hK2 _ _ ?_; clear hK2 K2
  refine j_and (fun hn => absurd rfl hn) (fun _ => ?_)
  intro K2 hK2; (repeat (first | refine s_p ?_ | refine s_c (by omega) ?_ | refine S.ld ?_ | refine S.ldB ?_ | refine S.ce ?_ | refine S.ceB ?_ | refine s_q ?_ | refine s_qc (by omega) ?_ | rw [List.getD_cons_zero] | rw [List.getD_cons_succ]))
  refine k_same S gab.up ga.up fun w10 S => ?_
  (repeat (first | refine s_p ?_ | refine s_c (by omega) ?_ | refine S.ld ?_ | refine S.ldB ?_ | refine S.ce ?_ | refine S.ceB ?_ | refine s_q ?_ | refine s_qc (by omega) ?_ | rw [List.getD_cons_zero] | rw [List.getD_cons_succ]))
  refine hK2 _ _ ?_; clear hK2 K2
  have hasEq : (lackL W1 a b).isEmpty = decide (orL a b = a) := by
    rw [Bool.eq_iff_iff, decide_eq_true_eq]; exact lack_iff ha hb
  refine j_andB (fun hn => by rw [hasEq] at hn; simp at hn) (fun _ => ?_)
  intro K2 hK2; (repeat (first | refine s_p ?_ | refine s_c (by omega) ?_ | refine S.ld ?_ | refine S.ldB ?_ | refine S.ce ?_ | refine S.ceB ?_ | refine s_q ?_ | refine s_qc (by omega) ?_ | rw [List.getD_cons_zero] | rw [List.getD_cons_succ]))
  refine c_bits_Count (S.at gl.1) fun w11 e11 => ?_
  have S := S.go e11
  have hle : (eachL W1 (lessL b a)) = lackL W1 a b := lack_each ha hb
  (repeat (first | refine s_p ?_ | refine s_c (by omega) ?_ | refine S.ld ?_ | refine S.ldB ?_ | refine S.ce ?_ | refine S.ceB ?_ | refine s_q ?_ | refine s_qc (by omega) ?_ | rw [List.getD_cons_zero] | rw [List.getD_cons_succ]))
  refine hK2 _ _ ?_; clear hK2 K2
  refine j_andB (fun hn => by rw [hle] at hn; revert hn; cases lackL W1 a b <;> simp; omega) (fun _ => ?_)
  intro K2 hK2; (repeat (first | refine s_p ?_ | refine s_c (by omega) ?_ | refine S.ld ?_ | refine S.ldB ?_ | refine S.ce ?_ | refine S.ceB ?_ | refine s_q ?_ | refine s_qc (by omega) ?_ | rw [List.getD_cons_zero] | rw [List.getD_cons_succ]))
  refine hK2 _ _ ?_; clear hK2 K2
  refine j_andB (fun hn => by revert hn; cases lackL W1 a b <;> simp) (fun _ => ?_)
  intro K2 hK2; (repeat (first | refine s_p ?_ | refine s_c (by omega) ?_ | refine S.ld ?_ | refine S.ldB ?_ | refine S.ce ?_ | refine S.ceB ?_ | refine s_q ?_ | refine s_qc (by omega) ?_ | rw [List.getD_cons_zero] | rw [List.getD_cons_succ]))
  refine c_bits_Count (S.at gab.1) fun w12 e12 => ⟨e12, ?_⟩
  have S := S.go e12
  refine c_bits_Count (S.at gm.1) fun w13 e13 => ?_
  have S := S.go e13
  (repeat (first | refine s_p ?_ | refine s_c (by omega) ?_ | refine S.ld ?_ | refine S.ldB ?_ | refine S.ce ?_ | refine S.ceB ?_ | refine s_q ?_ | refine s_qc (by omega) ?_ | rw [List.getD_cons_zero] | rw [List.getD_cons_succ]))
  refine hK2 _ _ ?_; clear hK2 K2
  refine j_and (fun hn => by omega) (fun _ => ?_)
  intro K2 hK2
  refine c_law01_awake (S.at hT) fun w14 e14 => ?_
  refine hK2 _ _ ?_
  exact h _ (S.go e14).ext
end Go.Proofs
