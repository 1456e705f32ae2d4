/-
  Layer 1, law: BitsRow.
-/
import Derived.Test.YtgbfpnnimnjbdaaDoorLe
namespace Go.Proofs
open Go.Sh Go.BM
set_option maxRecDepth 100000

theorem c_law01_BitsRow {w : World} {v : Value} {W width bk few : Int} {ws : List (BitVec 64)} {K : Value → World → Prop} (hT : Tab w) (hr : RowV w v W ws)
    (h : ∀ w', Ext w w' → K (.bool true) w') : oCall Tryd.prog Tryd.n_law01_BitsRow #[v, .int .i64 width, .int .i64 bk, .int .i64 few] w K := by
  refine Tryd.ok_law01_BitsRow ?_
  unfold Tryd.F_law01_BitsRow
  have hr' := hr.all; have hT := hT.all
  have h0 : 0 < w.heap.size := cell_lt (hT w (all_holds w) 0 (by decide))
  obtain ⟨p, cap, rfl, _⟩ := hr
  have S := St.start (all_holds w)
  have low0 : Low w.heap.size (all w) := S.low
  refine S.boxN fun b4 w1 _ S => ?_
  refine S.boxN fun b7 w2 _ S => ?_
  refine S.alN fun b8 w3 _ S => ?_
  (repeat (first | refine s_p ?_ | refine s_c (by omega) ?_ | refine S.ld ?_ | refine S.ldB ?_ | refine S.ce ?_ | refine S.ceB ?_ | refine s_q ?_ | refine s_qc (by omega) ?_ | rw [List.getD_cons_zero] | rw [List.getD_cons_succ]))
  refine c_if (fun hbig => ?_) (fun hsm => ?_)
  · (repeat (first | refine s_p ?_ | refine s_c (by omega) ?_ | refine S.ld ?_ | refine S.ldB ?_ | refine S.ce ?_ | refine S.ceB ?_ | refine s_q ?_ | refine s_qc (by omega) ?_ | rw [List.getD_cons_zero] | rw [List.getD_cons_succ]))
    refine c_bits_May (S.at hr') fun w4 e4 => ⟨NC.of_ext e4, ?_⟩
    have S := S.go e4
    rw [mayB_false (fun hm => by have := may_length hm; omega)]
    (repeat (first | refine s_p ?_ | refine s_c (by omega) ?_ | refine S.ld ?_ | refine S.ldB ?_ | refine S.ce ?_ | refine S.ceB ?_ | refine s_q ?_ | refine s_qc (by omega) ?_ | rw [List.getD_cons_zero] | rw [List.getD_cons_succ]))
    refine j_andB (fun hn => by cases hn) (fun _ => ?_)
    intro K2 hK2
    refine c_law01_awake (S.at hT) fun w5 e5 => ⟨NC.of_ext e5, ?_⟩
    have S := S.go e5
    refine hK2 _ _ ?_; clear hK2 K2
    refine S.stN' fun w10 S w11 sh => ?_
    have S := S.shut sh
    (repeat (first | refine s_p ?_ | refine s_c (by omega) ?_ | refine S.ld ?_ | refine S.ldB ?_ | refine S.ce ?_ | refine S.ceB ?_ | refine s_q ?_ | refine s_qc (by omega) ?_ | rw [List.getD_cons_zero] | rw [List.getD_cons_succ]))
    exact h _ S.ext
  have hlen : ws.length ≤ 4096 := by omega
  (repeat (first | refine s_p ?_ | refine s_c (by omega) ?_ | refine S.ld ?_ | refine S.ldB ?_ | refine S.ce ?_ | refine S.ceB ?_ | refine s_q ?_ | refine s_qc (by omega) ?_ | rw [List.getD_cons_zero] | rw [List.getD_cons_succ]))
  refine c_law01_lent (S.at hr') hlen fun v13 w13 e13 hl13 => ⟨NC.of_ext e13, ?_⟩
  obtain ⟨so, no, go, nbo⟩ := hl13.ghB
  obtain ⟨po, capo, rfl⟩ := hl13.shape
  obtain ⟨S, do', uo⟩ := S.tell e13 no
  refine S.alN fun b9 w14 _ S => ?_
  refine S.stBN fun w15 S => ?_
  -- New
  have hOl := newO_length width
  generalize hO : newO width = O at hOl
  refine c_bits_NewO fun va w16 e16 hfa => ⟨NC.of_ext e16, ?_⟩
  rw [hO] at hfa ⊢
  obtain ⟨sa, na, ma⟩ := hfa.gh
  obtain ⟨pa, capa, rfl⟩ := ma.shape
  obtain ⟨S, da, ua⟩ := S.tell e16 na
  (repeat (first | refine s_p ?_ | refine s_c (by omega) ?_ | refine S.ld ?_ | refine S.ldB ?_ | refine S.ce ?_ | refine S.ceB ?_ | refine s_q ?_ | refine s_qc (by omega) ?_ | rw [List.getD_cons_zero] | rw [List.getD_cons_succ]))
  refine S.alN fun b10 w17 _ S => ?_
  refine S.stBN fun w18 S => ?_
  refine c_bits_NewO fun vb w19 e19 hfb => ⟨NC.of_ext e19, ?_⟩
  rw [hO] at hfb ⊢
  obtain ⟨sb, nb, mb⟩ := hfb.gh
  obtain ⟨pb, capb, rfl⟩ := mb.shape
  obtain ⟨S, db, ub⟩ := S.tell e19 nb
  (repeat (first | refine s_p ?_ | refine s_c (by omega) ?_ | refine S.ld ?_ | refine S.ldB ?_ | refine S.ce ?_ | refine S.ceB ?_ | refine s_q ?_ | refine s_qc (by omega) ?_ | rw [List.getD_cons_zero] | rw [List.getD_cons_succ]))
  refine S.alN fun b12 w20 _ S => ?_
  refine S.stBN fun w21 S => ?_
  refine c_ref01_NewO fun vc w22 e22 hfc => ⟨NC.of_ext e22, ?_⟩
  rw [hO] at hfc ⊢
  obtain ⟨sc, nc, mc⟩ := hfc.gh
  obtain ⟨pc, capc, rfl⟩ := mc.shape
  obtain ⟨S, dc, uc⟩ := S.tell e22 nc
  (repeat (first | refine s_p ?_ | refine s_c (by omega) ?_ | refine S.ld ?_ | refine S.ldB ?_ | refine S.ce ?_ | refine S.ceB ?_ | refine s_q ?_ | refine s_qc (by omega) ?_ | rw [List.getD_cons_zero] | rw [List.getD_cons_succ]))
  refine S.alN fun b14 w23 _ S => ?_
  refine S.stBN fun w24 S => ?_
  (repeat (first | refine s_p ?_ | refine s_c (by omega) ?_ | refine S.ld ?_ | refine S.ldB ?_ | refine S.ce ?_ | refine S.ceB ?_ | refine s_q ?_ | refine s_qc (by omega) ?_ | rw [List.getD_cons_zero] | rw [List.getD_cons_succ]))
  refine j_or (fun hn => absurd rfl hn) (fun _ => ?_)
  intro K2 hK2; (repeat (first | refine s_p ?_ | refine s_c (by omega) ?_ | refine S.ld ?_ | refine S.ldB ?_ | refine S.ce ?_ | refine S.ceB ?_ | refine s_q ?_ | refine s_qc (by omega) ?_ | rw [List.getD_cons_zero] | rw [List.getD_cons_succ])); refine hK2 _ _ ?_; clear hK2 K2
  refine j_or (fun hn => absurd rfl hn) (fun _ => ?_)
  intro K2 hK2
  (repeat (first | refine s_p ?_ | refine s_c (by omega) ?_ | refine S.ld ?_ | refine S.ldB ?_ | refine S.ce ?_ | refine S.ceB ?_ | refine s_q ?_ | refine s_qc (by omega) ?_ | rw [List.getD_cons_zero] | rw [List.getD_cons_succ]))
  refine k_heldG S (q := (((all w).or so).or sb).or sc) ma mb.row.up mc.row.up ((da.or db.of).or dc.of) ua (by omega) fun w33 nc33 S => ⟨nc33, ?_⟩
  (repeat (first | refine s_p ?_ | refine s_c (by omega) ?_ | refine S.ld ?_ | refine S.ldB ?_ | refine S.ce ?_ | refine S.ceB ?_ | refine s_q ?_ | refine s_qc (by omega) ?_ | rw [List.getD_cons_zero] | rw [List.getD_cons_succ]))
  refine hK2 _ _ ?_; clear hK2 K2
  refine c_F ?_
  (repeat (first | refine s_p ?_ | refine s_c (by omega) ?_ | refine S.ld ?_ | refine S.ldB ?_ | refine S.ce ?_ | refine S.ceB ?_ | refine s_q ?_ | refine s_qc (by omega) ?_ | rw [List.getD_cons_zero] | rw [List.getD_cons_succ]))
  refine c_ref01_May (S.at hr') fun w37 e37 => ⟨NC.of_ext e37, ?_⟩
  have S := S.go e37
  (repeat (first | refine s_p ?_ | refine s_c (by omega) ?_ | refine S.ld ?_ | refine S.ldB ?_ | refine S.ce ?_ | refine S.ceB ?_ | refine s_q ?_ | refine s_qc (by omega) ?_ | rw [List.getD_cons_zero] | rw [List.getD_cons_succ]))
  -- Own
  have hO2l := ownO_length W ws
  generalize hO2 : ownO W ws = O2 at hO2l
  refine c_bits_OwnO (S.at go.row) fun va w38 e38 hfa => ⟨NC.of_ext e38, ?_⟩
  rw [hO2] at hfa ⊢
  obtain ⟨sa2, na2, ma2⟩ := hfa.gh
  obtain ⟨pa2, capa2, rfl⟩ := ma2.shape
  obtain ⟨S, da2, ua2⟩ := S.tell e38 na2
  (repeat (first | refine s_p ?_ | refine s_c (by omega) ?_ | refine S.ld ?_ | refine S.ldB ?_ | refine S.ce ?_ | refine S.ceB ?_ | refine s_q ?_ | refine s_qc (by omega) ?_ | rw [List.getD_cons_zero] | rw [List.getD_cons_succ]))
  refine S.stBN fun w39 S => ?_
  (repeat (first | refine s_p ?_ | refine s_c (by omega) ?_ | refine S.ld ?_ | refine S.ldB ?_ | refine S.ce ?_ | refine S.ceB ?_ | refine s_q ?_ | refine s_qc (by omega) ?_ | rw [List.getD_cons_zero] | rw [List.getD_cons_succ]))
  refine c_bits_OwnO (S.at go.row) fun vb w40 e40 hfb => ⟨NC.of_ext e40, ?_⟩
  rw [hO2] at hfb ⊢
  obtain ⟨sb2, nb2, mb2⟩ := hfb.gh
  obtain ⟨pb2, capb2, rfl⟩ := mb2.shape
  obtain ⟨S, db2, ub2⟩ := S.tell e40 nb2
  (repeat (first | refine s_p ?_ | refine s_c (by omega) ?_ | refine S.ld ?_ | refine S.ldB ?_ | refine S.ce ?_ | refine S.ceB ?_ | refine s_q ?_ | refine s_qc (by omega) ?_ | rw [List.getD_cons_zero] | rw [List.getD_cons_succ]))
  refine S.stBN fun w41 S => ?_
  have S := S.go (Ext.drew _)
  (repeat (first | refine s_p ?_ | refine s_c (by omega) ?_ | refine S.ld ?_ | refine S.ldB ?_ | refine S.ce ?_ | refine S.ceB ?_ | refine s_q ?_ | refine s_qc (by omega) ?_ | rw [List.getD_cons_zero] | rw [List.getD_cons_succ]))
  refine c_bits_May (S.at go.row) fun w42 e42 => ⟨NC.of_ext e42, ?_⟩
  have S := S.go e42
  (repeat (first | refine s_p ?_ | refine s_c (by omega) ?_ | refine S.ld ?_ | refine S.ldB ?_ | refine S.ce ?_ | refine S.ceB ?_ | refine s_q ?_ | refine s_qc (by omega) ?_ | rw [List.getD_cons_zero] | rw [List.getD_cons_succ]))
  refine j_orB (fun hn => by simp at hn) (fun _ => ?_)
  intro K2 hK2; (repeat (first | refine s_p ?_ | refine s_c (by omega) ?_ | refine S.ld ?_ | refine S.ldB ?_ | refine S.ce ?_ | refine S.ceB ?_ | refine s_q ?_ | refine s_qc (by omega) ?_ | rw [List.getD_cons_zero] | rw [List.getD_cons_succ]))
  refine c_bits_Get (S.at go.row) fun w47 e47 => ⟨NC.of_ext e47, e47, ?_⟩
  have S := S.go e47
  refine c_ref01_Get (S.at hr') fun w48 e48 => ⟨NC.of_ext e48, ?_⟩
  have S := S.go e48
  (repeat (first | refine s_p ?_ | refine s_c (by omega) ?_ | refine S.ld ?_ | refine S.ldB ?_ | refine S.ce ?_ | refine S.ceB ?_ | refine s_q ?_ | refine s_qc (by omega) ?_ | rw [List.getD_cons_zero] | rw [List.getD_cons_succ]))
  refine hK2 _ _ ?_; clear hK2 K2
  refine j_orB (fun hn => by simp at hn) (fun _ => ?_)
  intro K2 hK2; (repeat (first | refine s_p ?_ | refine s_c (by omega) ?_ | refine S.ld ?_ | refine S.ldB ?_ | refine S.ce ?_ | refine S.ceB ?_ | refine s_q ?_ | refine s_qc (by omega) ?_ | rw [List.getD_cons_zero] | rw [List.getD_cons_succ])); refine hK2 _ _ ?_; clear hK2 K2
  refine c_if (fun hn => absurd rfl hn) (fun _ => ?_)
  refine S.alN fun b17 w56 _ S => ?_
  -- the list, the row
  let L0 : List Asr := [.cell b14 [.int .i64 O.W, .slice pc O.ws.length capc] 24, .cell b12 [.int .i64 O2.W, .slice pb2 O2.ws.length capb2] 24, .cell b10 [.int .i64 O2.W, .slice pa2 O2.ws.length capa2] 24,
    .cell b9 [.int .i64 W, .slice po ws.length capo] 24, .cell b8 [.bool false] 4, .cell b7 [.int .i64 few] 3, .cell b4 [.int .i64 W, .slice p ws.length cap] 24]
  refine j_intro (fun _ w' => ∃ ql pl capl, NoBook ql ∧ St w (((all w).or so).or ql) w' (.cell b17 [.slice pl (eachL W ws).length capl] 45 :: L0) ∧
    Ob ql fun w => Sl w pl ((eachL W ws).map fun k : Nat => Value.int .i64 (k : Int))) ?_ ?_
  · intro K57 hK57
    refine c_b (fun hm => ?_) (fun hm => ?_)
    · have hm := mayB_iff.1 hm
      obtain rfl : O2 = ⟨W, ws, 0⟩ := hO2.symm.trans (RwO.pos hm)
      (repeat (first | refine s_p ?_ | refine s_c (by omega) ?_ | refine S.ld ?_ | refine S.ldB ?_ | refine S.ce ?_ | refine S.ceB ?_ | refine s_q ?_ | refine s_qc (by omega) ?_ | rw [List.getD_cons_zero] | rw [List.getD_cons_succ]))
      refine c_ref01_List (S.at hr') hm fun vl w61 e61 hl => ⟨NC.of_ext e61, ?_⟩
      obtain ⟨ql, pl, capl, nl, nbl, rfl, _, _, hl⟩ := row_gh hl
      obtain ⟨S, dl, ul⟩ := S.tell e61 nl
      refine S.stN' fun w62 S => ?_
      (repeat (first | refine s_p ?_ | refine s_c (by omega) ?_ | refine S.ld ?_ | refine S.ldB ?_ | refine S.ce ?_ | refine S.ceB ?_ | refine s_q ?_ | refine s_qc (by omega) ?_ | rw [List.getD_cons_zero] | rw [List.getD_cons_succ]))
      refine j_or (fun hn => absurd rfl hn) (fun _ => ?_)
      intro K2 hK2; (repeat (first | refine s_p ?_ | refine s_c (by omega) ?_ | refine S.ld ?_ | refine S.ldB ?_ | refine S.ce ?_ | refine S.ceB ?_ | refine s_q ?_ | refine s_qc (by omega) ?_ | rw [List.getD_cons_zero] | rw [List.getD_cons_succ]))
      refine k_heldG S (q := ((((all w).or so).or sb2).or ql)) ma2 mb2.row.up hr'.up ((da2.le.or db2.of).or dl.of) ua2 (by have := may_length hm; show ws.length < 9223372036854775807; omega) fun w67 nc67 S => ⟨nc67, ?_⟩
      (repeat (first | refine s_p ?_ | refine s_c (by omega) ?_ | refine S.ld ?_ | refine S.ldB ?_ | refine S.ce ?_ | refine S.ceB ?_ | refine s_q ?_ | refine s_qc (by omega) ?_ | rw [List.getD_cons_zero] | rw [List.getD_cons_succ]))
      refine hK2 _ _ ?_; clear hK2 K2
      refine c_F ?_
      refine hK57 _ _ ⟨ql, pl, capl, nbl, ?_, by rw [eachL_may hm]; exact hl⟩
      rw [eachL_may hm]
      exact S.to _
    · have hm : ¬ May W ws := fun hn => by rw [mayB_true hn] at hm; cases hm
      obtain rfl : O2 = ⟨0, [], 2⟩ := hO2.symm.trans (RwO.neg hm)
      (repeat (first | refine s_p ?_ | refine s_c (by omega) ?_ | refine S.ld ?_ | refine S.ldB ?_ | refine S.ce ?_ | refine S.ceB ?_ | refine s_q ?_ | refine s_qc (by omega) ?_ | rw [List.getD_cons_zero] | rw [List.getD_cons_succ]))
      refine j_or (fun hn => absurd rfl hn) (fun _ => ?_)
      intro K2 hK2; (repeat (first | refine s_p ?_ | refine s_c (by omega) ?_ | refine S.ld ?_ | refine S.ldB ?_ | refine S.ce ?_ | refine S.ceB ?_ | refine s_q ?_ | refine s_qc (by omega) ?_ | rw [List.getD_cons_zero] | rw [List.getD_cons_succ]))
      refine k_heldG S (q := (((all w).or so).or sb2)) ma2 mb2.row.up (fun w _ => (row0_fresh w 0).row) (da2.le.or db2.of) ua2 (by decide) fun w67 nc67 S => ⟨nc67, ?_⟩
      (repeat (first | refine s_p ?_ | refine s_c (by omega) ?_ | refine S.ld ?_ | refine S.ldB ?_ | refine S.ce ?_ | refine S.ceB ?_ | refine s_q ?_ | refine s_qc (by omega) ?_ | rw [List.getD_cons_zero] | rw [List.getD_cons_succ]))
      refine hK2 _ _ ?_; clear hK2 K2
      refine c_F ?_
      refine hK57 _ _ ⟨nothing, none, 0, inferInstance, ?_, fun w _ => by rw [eachL_not hm]; exact Sl.nil w _⟩
      rw [eachL_not hm]
      exact S.less (q := ((all w).or so).or nothing) (fun b o h => h.elim .inl (fun h => h.elim)) (List.Sublist.refl _)
  clear S
  rintro _ w60 ⟨ql, pl, capl, nbl, S, hl⟩ _
  (repeat (first | refine s_p ?_ | refine s_c (by omega) ?_ | refine S.ld ?_ | refine S.ldB ?_ | refine S.ce ?_ | refine S.ceB ?_ | refine s_q ?_ | refine s_qc (by omega) ?_ | rw [List.getD_cons_zero] | rw [List.getD_cons_succ]))
  refine c_bits_EachG (S.at go.row) fun g qi w79 e79 ni nbi hI => ⟨NC.of_ext e79, ?_⟩
  obtain ⟨S, di, ui⟩ := S.tell e79 ni
  have S := S.go (Ext.drew _)
  obtain ⟨⟨gf, gc, rfl⟩, hI⟩ := hI
  (repeat (first | refine s_p ?_ | refine s_c (by omega) ?_ | refine S.ld ?_ | refine S.ldB ?_ | refine S.ce ?_ | refine S.ceB ?_ | refine s_q ?_ | refine s_qc (by omega) ?_ | rw [List.getD_cons_zero] | rw [List.getD_cons_succ]))
  refine j_orB (fun hn => by cases hn) (fun _ => ?_)
  intro K2 hK2; (repeat (first | refine s_p ?_ | refine s_c (by omega) ?_ | refine S.ld ?_ | refine S.ldB ?_ | refine S.ce ?_ | refine S.ceB ?_ | refine s_q ?_ | refine s_qc (by omega) ?_ | rw [List.getD_cons_zero] | rw [List.getD_cons_succ]))
  refine c_bits_Count (S.at go.row) fun w84 e84 => ⟨NC.of_ext e84, e84, ?_⟩
  have S := S.go e84
  (repeat (first | refine s_p ?_ | refine s_c (by omega) ?_ | refine S.ld ?_ | refine S.ldB ?_ | refine S.ce ?_ | refine S.ceB ?_ | refine s_q ?_ | refine s_qc (by omega) ?_ | rw [List.getD_cons_zero] | rw [List.getD_cons_succ]))
  refine hK2 _ _ ?_; clear hK2 K2
  refine c_if (fun hn => absurd rfl hn) (fun _ => ?_)
  refine S.alN fun b19 w88 _ S => ?_
  refine S.stN' fun w89 S => ?_
  have hn : (eachL W ws).length ≤ 100000 := by
    by_cases hm : May W ws
    · rw [eachL_may hm, bitsOf_may hm]
      have := List.length_filter_le (bit ws) (List.range W.toNat)
      rw [List.length_range] at this
      have := hm.2.1; omega
    · rw [eachL_not hm]; exact Nat.zero_le _
  generalize hxs : eachL W ws = xs at hl hI hn S
  refine l_intro (ι := Nat × Nat) (fun i => [.pointer (some ⟨i.1, 0, none⟩)])
    (fun i w' => i.2 ≤ 2 ∧ St w ((((all w).or so).or ql).or qi) w' (.cell i.1 [.int .i64 (i.2 : Int)] 3 :: .cell b17 [.slice pl xs.length capl] 45 :: L0))
    (fun i => 2 - i.2) (b19, 0) rfl ⟨Nat.zero_le _, S⟩ ?_
  clear S
  rintro ⟨bR, i⟩ d w93 ⟨hi, S⟩ K90 hK90
  simp only at hi S
  (repeat (first | refine s_p ?_ | refine s_c (by omega) ?_ | refine S.ld ?_ | refine S.ldB ?_ | refine S.ce ?_ | refine S.ceB ?_ | refine s_q ?_ | refine s_qc (by omega) ?_ | rw [List.getD_cons_zero] | rw [List.getD_cons_succ]))
  refine c_if (fun hlt => ?_) (fun hge => ?_)
  · have hlt : i < 2 := by omega
    refine S.alN fun b20 w94 _ S => ?_
    refine S.stN' fun w95 S => ?_
    refine j_intro (fun _ w' => ∃ n : Int, (n = xs.length ∨ (i = 0 ∧ n = few)) ∧ St w ((((all w).or so).or ql).or qi) w' (.cell b20 [.int .i64 n] 3 :: .cell bR [.int .i64 (i : Int)] 3 :: .cell b17 [.slice pl xs.length capl] 45 :: L0)) ?_ ?_
    · intro K96 hK96
      have low95 := S.low
      refine r_exit (xs.map one1) (doms _)
        (fun k W' => k ≤ xs.length ∧ St w ((((all w).or so).or ql).or qi) W' (.cell b20 [.int .i64 (k : Int)] 3 :: .cell bR [.int .i64 (i : Int)] 3 :: .cell b17 [.slice pl xs.length capl] 45 :: L0))
        (fun W' => i = 0 ∧ St w ((((all w).or so).or ql).or qi) W' (.cell b20 [.int .i64 few] 3 :: .cell bR [.int .i64 (i : Int)] 3 :: .cell b17 [.slice pl xs.length capl] 45 :: L0))
        (doms_blk S) (hI _ _ (fun b hb => ⟨fun o ho => ?_, by have := S.dge hb; omega⟩) S.holds.le (S.at hT)) ?_ ?_ ?_ ⟨Nat.zero_le _, S⟩ ?_ ?_ ?_
      · obtain ⟨y, hy, hd⟩ := doms_mem.1 hb
        exact (S.mine y hy b hd).2 o (.inr ho)
      · intro x hx
        obtain ⟨k, _, rfl⟩ := List.mem_map.1 hx; rfl
      · rintro k W' W'' ⟨hk, S2⟩ e
        exact ⟨hk, S2.nl e S.x.size⟩
      · rintro W' W'' ⟨hk, S2⟩ e
        exact ⟨hk, S2.nl e S.x.size⟩
      · rintro k x W1 hx ⟨hk, S2⟩ KR hKR hKb
        refine ⟨Ext.refl _, fun w104 nl => ?_⟩
        have S1 := S2.nl nl S.x.size
        have S := S1.part
        rw [List.getElem?_map, Option.map_eq_some_iff] at hx
        obtain ⟨m, hm1, rfl⟩ := hx
        obtain ⟨hkl, hkm⟩ := List.getElem?_eq_some_iff.1 hm1
        (repeat (first | refine s_p ?_ | refine s_c (by omega) ?_ | refine S.ld ?_ | refine S.ldB ?_ | refine S.ce ?_ | refine S.ceB ?_ | refine s_q ?_ | refine s_qc (by omega) ?_ | rw [List.getD_cons_zero] | rw [List.getD_cons_succ]))
        refine j_or (fun hn => by omega) (fun _ => ?_)
        intro K2 hK2
        obtain ⟨bl, ol, rfl, hcl⟩ := (S.at hl).at (i := k) (by simpa using hkl)
        (repeat (first | refine s_p ?_ | refine s_c (by omega) ?_ | refine S.ld ?_ | refine S.ldB ?_ | refine S.ce ?_ | refine S.ceB ?_ | refine s_q ?_ | refine s_qc (by omega) ?_ | rw [List.getD_cons_zero] | rw [List.getD_cons_succ]))
        refine q_load (Ld1.h (P := Tryd.prog) (t := 3)) (v := .int .i64 (xs[k] : Int)) (by simpa using hcl) ?_
        (repeat (first | refine s_p ?_ | refine s_c (by omega) ?_ | refine S.ld ?_ | refine S.ldB ?_ | refine S.ce ?_ | refine S.ceB ?_ | refine s_q ?_ | refine s_qc (by omega) ?_ | rw [List.getD_cons_zero] | rw [List.getD_cons_succ]))
        refine hK2 _ _ ?_; clear hK2 K2
        refine c_if (fun hn => absurd (by rw [hkm]) hn) (fun _ => ?_)
        (repeat (first | refine s_p ?_ | refine s_c (by omega) ?_ | refine S.ld ?_ | refine S.ldB ?_ | refine S.ce ?_ | refine S.ceB ?_ | refine s_q ?_ | refine s_qc (by omega) ?_ | rw [List.getD_cons_zero] | rw [List.getD_cons_succ]))
        refine S.stN' fun w110 S => ?_
        (repeat (first | refine s_p ?_ | refine s_c (by omega) ?_ | refine S.ld ?_ | refine S.ldB ?_ | refine S.ce ?_ | refine S.ceB ?_ | refine s_q ?_ | refine s_qc (by omega) ?_ | rw [List.getD_cons_zero] | rw [List.getD_cons_succ]))
        refine j_and (fun hi0 => ?_) (fun hi0 => ?_)
        · exact c_F ⟨S.x, hKR _ ⟨hkl, S1.whole S fun _ h => h⟩⟩
        · intro K2 hK2
          (repeat (first | refine s_p ?_ | refine s_c (by omega) ?_ | refine S.ld ?_ | refine S.ldB ?_ | refine S.ce ?_ | refine S.ceB ?_ | refine s_q ?_ | refine s_qc (by omega) ?_ | rw [List.getD_cons_zero] | rw [List.getD_cons_succ]))
          refine hK2 _ _ ?_; clear hK2 K2
          refine c_if (fun hf => ?_) (fun hf => ?_)
          · refine ⟨S.x, hKb _ ⟨by omega, ?_⟩⟩
            have := S1.whole S fun _ h => h
            rw [← hf]; exact this
          · exact ⟨S.x, hKR _ ⟨hkl, S1.whole S fun _ h => h⟩⟩
      · rintro W' ⟨_, S⟩
        refine hK96 _ _ ⟨_, .inl rfl, ?_⟩
        rw [List.length_map] at S; exact S
      · rintro W' ⟨h0, S⟩
        exact hK96 _ _ ⟨_, .inr ⟨h0, rfl⟩, S⟩
    clear S
    rintro _ w99 ⟨n, hn2, S⟩ _
    have next : ∀ {w' : World}, St w ((((all w).or so).or ql).or qi) w' (.cell b20 [.int .i64 n] 3 :: .cell bR [.int .i64 (i : Int)] 3 :: .cell b17 [.slice pl xs.length capl] 45 :: L0) →
        opQ Tryd.prog w' (Instr.loadAt 3 (.pointer (some ⟨bR, 0, none⟩))) fun t166 => opW Tryd.prog w' (Instr.alloc 3 true (.tuple #[])) fun t19 w135 => NC w' w135 ∧ opU Tryd.prog w135 (Instr.storeAt 3 t19 t166) fun w137 => NC w135 w137 ∧
          opQ Tryd.prog w137 (Instr.loadAt 3 t19) fun t128 => opP Tryd.prog (bsem .add 3 true t128 (Value.int .i64 1)) fun t129 => opU Tryd.prog w137 (Instr.storeAt 3 t19 t129) fun w138 => NC w137 w138 ∧ K90 [t19] w138 := by
      intro w' S
      (repeat (first | refine s_p ?_ | refine s_c (by omega) ?_ | refine S.ld ?_ | refine S.ldB ?_ | refine S.ce ?_ | refine S.ceB ?_ | refine s_q ?_ | refine s_qc (by omega) ?_ | rw [List.getD_cons_zero] | rw [List.getD_cons_succ]))
      refine S.alN fun bN w135 _ S => ?_
      refine S.stN' fun w137 S => ?_
      (repeat (first | refine s_p ?_ | refine s_c (by omega) ?_ | refine S.ld ?_ | refine S.ldB ?_ | refine S.ce ?_ | refine S.ceB ?_ | refine s_q ?_ | refine s_qc (by omega) ?_ | rw [List.getD_cons_zero] | rw [List.getD_cons_succ]))
      refine S.stN' fun w138 S => ?_
      exact hK90 (bN, i + 1) _ ⟨by show i + 1 ≤ 2; omega, S.swap.tl.swap.tl⟩ (by show 2 - (i + 1) < 2 - i; omega)
    (repeat (first | refine s_p ?_ | refine s_c (by omega) ?_ | refine S.ld ?_ | refine S.ldB ?_ | refine S.ce ?_ | refine S.ceB ?_ | refine s_q ?_ | refine s_qc (by omega) ?_ | rw [List.getD_cons_zero] | rw [List.getD_cons_succ]))
    by_cases hne : n = xs.length
    · have hd : decide (n ≠ (xs.length : Int)) = false := by simp [hne]
      rw [hd]
      intro K2 hK2
      refine g_b (fun h => by cases h) (fun _ => ?_)
      refine hK2 _ _ (fun _ => ?_); clear hK2 K2
      intro K2 hK2
      simp only [List.getD_cons_zero]
      refine hK2 _ _ (fun _ => ?_); clear hK2 K2
      intro K2 hK2
      refine g_b (fun h => by cases h) (fun _ => ?_)
      refine hK2 _ _ (fun _ => ?_); clear hK2 K2
      refine k_pickF ?_
      refine c_F ?_
      exact next S
    · have hd : decide (n ≠ (xs.length : Int)) = true := by simp [hne]
      rw [hd]
      obtain ⟨rfl, rfl⟩ := hn2.resolve_left hne
      intro K2 hK2
      refine g_b (fun _ => ?_) (fun h => absurd rfl h)
      (repeat (first | refine s_p ?_ | refine s_c (by omega) ?_ | refine S.ld ?_ | refine S.ldB ?_ | refine S.ce ?_ | refine S.ceB ?_ | refine s_q ?_ | refine s_qc (by omega) ?_ | rw [List.getD_cons_zero] | rw [List.getD_cons_succ]))
      refine hK2 _ _ (fun _ => ?_); clear hK2 K2
      intro K2 hK2
      simp only [List.getD_cons_zero]
      refine g_b (fun _ => ?_) (fun h => absurd (by simp) h)
      (repeat (first | refine s_p ?_ | refine s_c (by omega) ?_ | refine S.ld ?_ | refine S.ldB ?_ | refine S.ce ?_ | refine S.ceB ?_ | refine s_q ?_ | refine s_qc (by omega) ?_ | rw [List.getD_cons_zero] | rw [List.getD_cons_succ]))
      refine hK2 _ _ (fun _ => ?_); clear hK2 K2
      intro K2 hK2
      refine g_b (fun _ => ?_) (fun h => absurd rfl h)
      simp only [List.getD_cons_zero]
      refine k_pick ?_
      refine hK2 _ _ (fun _ => ?_); clear hK2 K2
      refine k_pickT ?_
      simp only [List.getD_cons_zero]
      refine c_f (by simp) ?_
      exact next S
  · (repeat (first | refine s_p ?_ | refine s_c (by omega) ?_ | refine S.ld ?_ | refine S.ldB ?_ | refine S.ce ?_ | refine S.ceB ?_ | refine s_q ?_ | refine s_qc (by omega) ?_ | rw [List.getD_cons_zero] | rw [List.getD_cons_succ]))
    obtain ⟨_, lo⟩ := S.at go
    refine c_law01_kept lo (S.at hr') hlen fun w139 e139 => ⟨NC.of_ext e139, ?_⟩
    have S := S.go e139
    refine j_andB (fun hn => by cases hn) (fun _ => ?_)
    intro K2 hK2
    refine c_law01_awake (S.at hT) fun w144 e144 => ⟨NC.of_ext e144, ?_⟩
    have S := S.go e144
    refine hK2 _ _ ?_; clear hK2 K2
    refine S.stN' fun w145 S w146 sh => ?_
    have S := S.shut sh
    (repeat (first | refine s_p ?_ | refine s_c (by omega) ?_ | refine S.ld ?_ | refine S.ldB ?_ | refine S.ce ?_ | refine S.ceB ?_ | refine s_q ?_ | refine s_qc (by omega) ?_ | rw [List.getD_cons_zero] | rw [List.getD_cons_succ]))
    exact h _ S.ext
end Go.Proofs
