/-
  Layer 1, law: BitsTurn.
-/
import Derived.Test.YtgbfpnnimnjbdaaDoorGa
namespace Go.Proofs
open Go.Sh Go.BM
set_option maxRecDepth 100000

theorem ints_one (ls : List Int) : ∀ u ∈ ls.map (Value.int .i64), u.oneCell' = true := by
  intro u hu; obtain ⟨n, _, rfl⟩ := List.mem_map.1 hu; rfl

theorem c_law01_BitsTurn {w : World} {v : Value} {W : Int} {ws : List (BitVec 64)} {p1 : Option Addr} {cap1 : Nat} {ls : List Int} {K : Value → World → Prop} (hT : Tab w) (hr : RowV w v W ws)
    (hl : Sl w p1 (ls.map (Value.int .i64))) (hp1 : p1 = none → cap1 = 0)
    (h : ∀ w', Ext w w' → K (.bool true) w') : oCall Tryd.prog Tryd.n_law01_BitsTurn #[v, .slice p1 ls.length cap1] w K := by
  refine Tryd.ok_law01_BitsTurn ?_
  unfold Tryd.F_law01_BitsTurn
  have hr' := hr.all; have hT := hT.all; have hl := hl.all
  obtain ⟨p, cap, rfl, _⟩ := hr
  have S := St.start (all_holds w)
  refine S.box fun b2 w1 S => ?_
  (repeat (first | refine s_p ?_ | refine s_c (by omega) ?_ | refine S.ld ?_ | refine S.ldB ?_ | refine S.ce ?_ | refine S.ceB ?_ | refine s_q ?_ | refine s_qc (by omega) ?_ | rw [List.getD_cons_zero] | rw [List.getD_cons_succ]))
  refine j_or (fun hbig => ?_) (fun hsm => ?_)
  · refine c_T ?_
    exact c_law01_awake (S.at hT) fun w2 e2 => h _ (S.go e2).ext
  intro K2 hK2
  (repeat (first | refine s_p ?_ | refine s_c (by omega) ?_ | refine S.ld ?_ | refine S.ldB ?_ | refine S.ce ?_ | refine S.ceB ?_ | refine s_q ?_ | refine s_qc (by omega) ?_ | rw [List.getD_cons_zero] | rw [List.getD_cons_succ]))
  refine hK2 _ _ ?_; clear hK2 K2
  refine c_if (fun hbig => ?_) (fun hsm2 => ?_)
  · exact c_law01_awake (S.at hT) fun w2 e2 => h _ (S.go e2).ext
  have hlen : ws.length ≤ 4096 := by omega
  have hlen2 : ls.length ≤ 4096 := by omega
  (repeat (first | refine s_p ?_ | refine s_c (by omega) ?_ | refine S.ld ?_ | refine S.ldB ?_ | refine S.ce ?_ | refine S.ceB ?_ | refine s_q ?_ | refine s_qc (by omega) ?_ | rw [List.getD_cons_zero] | rw [List.getD_cons_succ]))
  refine c_law01_lent (S.at hr') hlen fun v7 w7 e7 hl7 => ?_
  obtain ⟨s7, n7, g7⟩ := hl7.gh
  obtain ⟨p7, cap7, hv7⟩ := hl7.shape
  subst hv7
  obtain ⟨S, d7, u7⟩ := S.tell e7 n7
  refine S.al fun b5 w8 S => ?_
  refine S.stB fun w9 S => ?_
  have S := S.ownNil 3 1
  refine S.ap (S.at hl) (fun v10 w10 S => ?_) (by omega) (hp := hp1) (h1 := ints_one ls)
  refine S.lit (e := 3) (cs := [.int .i64 77]) (by kernel_rfl) fun b11 w11 S => ?_
  refine S.ap (Sl.blk (S.blk b11)) (fun v12 w12 S => ?_) (by omega)
  obtain ⟨g, cap12, c12, rfl, hcap12, _, ht12, S⟩ := S.rowCell v12 (by omega)
  have hsl : ∀ {w'}, Blk w' g c12 3 → Sl w' (some ⟨g, 0, none⟩) (ls.map (Value.int .i64)) := fun B => by
    have := (Sl.blk B).take (ls.length)
    have h2 : c12.take ls.length = ls.map (Value.int .i64) := by
      have h3 : (c12.take ((0 + ls.length + 1) * 1)).take ls.length = (([] ++ ls.map (Value.int .i64)) ++ [Value.int .i64 77]).take ls.length := by rw [ht12]
      rw [List.take_take, Nat.min_eq_left (by omega)] at h3
      rw [h3]; simp
    rwa [h2] at this
  -- set
  intro K13 hK13
  have S := S.go (Ext.drew _)
  (repeat (first | refine s_p ?_ | refine s_c (by omega) ?_ | refine S.ld ?_ | refine S.ldB ?_ | refine S.ce ?_ | refine S.ceB ?_ | refine s_q ?_ | refine s_qc (by omega) ?_ | rw [List.getD_cons_zero] | rw [List.getD_cons_succ]))
  have hOl : (turnO (turnG true) W ws ls).ws.length ≤ 17 := turnO_length _ _ _ _
  generalize hO : turnO (turnG true) W ws ls = O at hOl
  refine k_tell (O := O) S (fun w' e K hK => c_bits_SetO ((S.go e).at g7.row) (hsl ((S.go e).blk g)) (by omega) (hO ▸ hK)) fun ba pa capa sa w16 S ma da ua => ?_
  refine hK13 _ _ fun _ => ?_
  clear hK13 K13
  intro K13 hK13
  have S := S.go (Ext.drew _)
  (repeat (first | refine s_p ?_ | refine s_c (by omega) ?_ | refine S.ld ?_ | refine S.ldB ?_ | refine S.ce ?_ | refine S.ceB ?_ | refine s_q ?_ | refine s_qc (by omega) ?_ | rw [List.getD_cons_zero] | rw [List.getD_cons_succ]))
  refine k_tell (O := O) S (fun w' e K hK => c_bits_SetO ((S.go e).at g7.row) (hsl ((S.go e).blk g)) (by omega) (hO ▸ hK)) fun bb pb capb sb w17 S mb db ub => ?_
  refine hK13 _ _ fun _ => ?_
  clear hK13 K13
  (repeat (first | refine s_p ?_ | refine s_c (by omega) ?_ | refine S.ld ?_ | refine S.ldB ?_ | refine S.ce ?_ | refine S.ceB ?_ | refine s_q ?_ | refine s_qc (by omega) ?_ | rw [List.getD_cons_zero] | rw [List.getD_cons_succ]))
  refine c_ref01_TurnO (S.at hr') (S.at hl) (by omega) fun vc w18 e18 hfc => ?_
  rw [hO] at hfc ⊢
  obtain ⟨sc, nc, mc⟩ := hfc.gh
  obtain ⟨pc, capc, rfl⟩ := mc.shape
  obtain ⟨S, dc, uc⟩ := S.tell e18 nc
  (repeat (first | refine s_p ?_ | refine s_c (by omega) ?_ | refine S.ld ?_ | refine S.ldB ?_ | refine S.ce ?_ | refine S.ceB ?_ | refine s_q ?_ | refine s_qc (by omega) ?_ | rw [List.getD_cons_zero] | rw [List.getD_cons_succ]))
  refine S.al fun bc w19 S => ?_
  refine S.stB fun w20 S => ?_
  (repeat (first | refine s_p ?_ | refine s_c (by omega) ?_ | refine S.ld ?_ | refine S.ldB ?_ | refine S.ce ?_ | refine S.ceB ?_ | refine s_q ?_ | refine s_qc (by omega) ?_ | rw [List.getD_cons_zero] | rw [List.getD_cons_succ]))
  refine j_or (fun hn => absurd rfl hn) (fun _ => ?_)
  intro K2 hK2; (repeat (first | refine s_p ?_ | refine s_c (by omega) ?_ | refine S.ld ?_ | refine S.ldB ?_ | refine S.ce ?_ | refine S.ceB ?_ | refine s_q ?_ | refine s_qc (by omega) ?_ | rw [List.getD_cons_zero] | rw [List.getD_cons_succ])); refine hK2 _ _ ?_; clear hK2 K2
  refine j_or (fun hn => absurd rfl hn) (fun _ => ?_)
  intro K2 hK2
  (repeat (first | refine s_p ?_ | refine s_c (by omega) ?_ | refine S.ld ?_ | refine S.ldB ?_ | refine S.ce ?_ | refine S.ceB ?_ | refine s_q ?_ | refine s_qc (by omega) ?_ | rw [List.getD_cons_zero] | rw [List.getD_cons_succ]))
  refine k_heldG S (q := (((all w).or s7).or sb).or sc) ma mb.row.up mc.row.up ((da.or db.of).or dc.of) ua (by omega) fun w21 S => ?_
  (repeat (first | refine s_p ?_ | refine s_c (by omega) ?_ | refine S.ld ?_ | refine S.ldB ?_ | refine S.ce ?_ | refine S.ceB ?_ | refine s_q ?_ | refine s_qc (by omega) ?_ | rw [List.getD_cons_zero] | rw [List.getD_cons_succ]))
  refine hK2 _ _ ?_; clear hK2 K2
  refine c_F ?_
  -- clear
  have S := S.go (Ext.drew _)
  (repeat (first | refine s_p ?_ | refine s_c (by omega) ?_ | refine S.ld ?_ | refine S.ldB ?_ | refine S.ce ?_ | refine S.ceB ?_ | refine s_q ?_ | refine s_qc (by omega) ?_ | rw [List.getD_cons_zero] | rw [List.getD_cons_succ]))
  have hOl2 : (turnO (turnG false) W ws ls).ws.length ≤ 17 := turnO_length _ _ _ _
  generalize hO2 : turnO (turnG false) W ws ls = O2 at hOl2
  refine c_bits_ClearO (S.at g7.row) (hsl (S.blk g)) (by omega) fun va w22 e22 hfa => ?_
  rw [hO2] at hfa ⊢
  obtain ⟨sa2, na2, ma2⟩ := hfa.gh
  obtain ⟨pa2, capa2, rfl⟩ := ma2.shape
  obtain ⟨S, da2, ua2⟩ := S.tell e22 na2
  (repeat (first | refine s_p ?_ | refine s_c (by omega) ?_ | refine S.ld ?_ | refine S.ldB ?_ | refine S.ce ?_ | refine S.ceB ?_ | refine s_q ?_ | refine s_qc (by omega) ?_ | rw [List.getD_cons_zero] | rw [List.getD_cons_succ]))
  refine S.stB fun w23 S => ?_
  have S := S.go (Ext.drew _)
  (repeat (first | refine s_p ?_ | refine s_c (by omega) ?_ | refine S.ld ?_ | refine S.ldB ?_ | refine S.ce ?_ | refine S.ceB ?_ | refine s_q ?_ | refine s_qc (by omega) ?_ | rw [List.getD_cons_zero] | rw [List.getD_cons_succ]))
  refine c_bits_ClearO (S.at g7.row) (hsl (S.blk g)) (by omega) fun vb w24 e24 hfb => ?_
  rw [hO2] at hfb ⊢
  obtain ⟨sb2, nb2, mb2⟩ := hfb.gh
  obtain ⟨pb2, capb2, rfl⟩ := mb2.shape
  obtain ⟨S, db2, ub2⟩ := S.tell e24 nb2
  (repeat (first | refine s_p ?_ | refine s_c (by omega) ?_ | refine S.ld ?_ | refine S.ldB ?_ | refine S.ce ?_ | refine S.ceB ?_ | refine s_q ?_ | refine s_qc (by omega) ?_ | rw [List.getD_cons_zero] | rw [List.getD_cons_succ]))
  refine S.stB fun w25 S => ?_
  (repeat (first | refine s_p ?_ | refine s_c (by omega) ?_ | refine S.ld ?_ | refine S.ldB ?_ | refine S.ce ?_ | refine S.ceB ?_ | refine s_q ?_ | refine s_qc (by omega) ?_ | rw [List.getD_cons_zero] | rw [List.getD_cons_succ]))
  refine c_ref01_TurnO (S.at hr') (S.at hl) (by omega) fun vc w26 e26 hfc => ?_
  rw [hO2] at hfc ⊢
  obtain ⟨sc2, nc2, mc2⟩ := hfc.gh
  obtain ⟨pc2, capc2, rfl⟩ := mc2.shape
  obtain ⟨S, dc2, uc2⟩ := S.tell e26 nc2
  (repeat (first | refine s_p ?_ | refine s_c (by omega) ?_ | refine S.ld ?_ | refine S.ldB ?_ | refine S.ce ?_ | refine S.ceB ?_ | refine s_q ?_ | refine s_qc (by omega) ?_ | rw [List.getD_cons_zero] | rw [List.getD_cons_succ]))
  refine S.stB fun w27 S => ?_
  (repeat (first | refine s_p ?_ | refine s_c (by omega) ?_ | refine S.ld ?_ | refine S.ldB ?_ | refine S.ce ?_ | refine S.ceB ?_ | refine s_q ?_ | refine s_qc (by omega) ?_ | rw [List.getD_cons_zero] | rw [List.getD_cons_succ]))
  refine j_or (fun hn => absurd rfl hn) (fun _ => ?_)
  intro K2 hK2; (repeat (first | refine s_p ?_ | refine s_c (by omega) ?_ | refine S.ld ?_ | refine S.ldB ?_ | refine S.ce ?_ | refine S.ceB ?_ | refine s_q ?_ | refine s_qc (by omega) ?_ | rw [List.getD_cons_zero] | rw [List.getD_cons_succ])); refine hK2 _ _ ?_; clear hK2 K2
  refine j_or (fun hn => absurd rfl hn) (fun _ => ?_)
  intro K2 hK2
  (repeat (first | refine s_p ?_ | refine s_c (by omega) ?_ | refine S.ld ?_ | refine S.ldB ?_ | refine S.ce ?_ | refine S.ceB ?_ | refine s_q ?_ | refine s_qc (by omega) ?_ | rw [List.getD_cons_zero] | rw [List.getD_cons_succ]))
  refine k_heldG S (q := (((((all w).or s7).or sb).or sc).or sb2).or sc2) ma2 mb2.row.up mc2.row.up ((da2.or db2.of).or dc2.of) ua2 (by omega) fun w28 S => ?_
  (repeat (first | refine s_p ?_ | refine s_c (by omega) ?_ | refine S.ld ?_ | refine S.ldB ?_ | refine S.ce ?_ | refine S.ceB ?_ | refine s_q ?_ | refine s_qc (by omega) ?_ | rw [List.getD_cons_zero] | rw [List.getD_cons_succ]))
  refine hK2 _ _ ?_; clear hK2 K2
  refine c_F ?_
  -- the list as it was
  have hcell : ∀ i (hi : i < ls.length), c12[i]? = some (.int .i64 ls[i]) := fun i hi => by
    have h3 : (c12.take ((0 + ls.length + 1) * 1))[i]? = ([] ++ ls.map (Value.int .i64) ++ [Value.int .i64 77])[i]? := by rw [ht12]
    rw [List.getElem?_take, if_pos (by omega)] at h3
    rw [h3, List.nil_append, List.getElem?_append_left (by simpa using hi)]; simp [hi]
  have hlast : c12[ls.length]? = some (.int .i64 77) := by
    have h3 : (c12.take ((0 + ls.length + 1) * 1))[ls.length]? = ([] ++ ls.map (Value.int .i64) ++ [Value.int .i64 77])[ls.length]? := by rw [ht12]
    rw [List.getElem?_take, if_pos (by omega)] at h3
    rw [h3, List.nil_append, List.getElem?_append_right (by simp)]; simp
  refine l_intro (ι := Nat) (fun i => [.int .i64 i])
    (fun i w' => i ≤ ls.length ∧ St w ((((((all w).or s7).or sb).or sc).or sb2).or sc2) w' _) (fun i => ls.length - i) 0 rfl ⟨Nat.zero_le _, S⟩ ?_
  rintro i d w30 ⟨hi, S⟩ K3 hK3
  simp only [List.getD_cons_zero]
  (repeat (first | refine s_p ?_ | refine s_c (by omega) ?_ | refine S.ld ?_ | refine S.ldB ?_ | refine S.ce ?_ | refine S.ceB ?_ | refine s_q ?_ | refine s_qc (by omega) ?_ | rw [List.getD_cons_zero] | rw [List.getD_cons_succ]))
  refine c_if (fun hlt => ?_) (fun hge => ?_)
  · have hlt : i < ls.length := by omega
    have S := S.go (Ext.drew _)
    (repeat (first | refine s_p ?_ | refine s_c (by omega) ?_ | refine S.ld ?_ | refine S.ldB ?_ | refine S.ce ?_ | refine S.ceB ?_ | refine s_q ?_ | refine s_qc (by omega) ?_ | rw [List.getD_cons_zero] | rw [List.getD_cons_succ]))
    refine S.ld (v := .int .i64 ls[i]) ?_ (by simpa using hcell i hlt)
    obtain ⟨bl, ol, rfl, hcl⟩ := (S.at hl).at (i := i) (by simpa using hlt)
    (repeat (first | refine s_p ?_ | refine s_c (by omega) ?_ | refine S.ld ?_ | refine S.ldB ?_ | refine S.ce ?_ | refine S.ceB ?_ | refine s_q ?_ | refine s_qc (by omega) ?_ | rw [List.getD_cons_zero] | rw [List.getD_cons_succ]))
    refine q_load (Ld1.h (P := Tryd.prog) (t := 3)) (v := .int .i64 ls[i]) (by simpa using hcl) ?_
    (repeat (first | refine s_p ?_ | refine s_c (by omega) ?_ | refine S.ld ?_ | refine S.ldB ?_ | refine S.ce ?_ | refine S.ceB ?_ | refine s_q ?_ | refine s_qc (by omega) ?_ | rw [List.getD_cons_zero] | rw [List.getD_cons_succ]))
    refine c_if (fun hn => absurd rfl hn) (fun _ => ?_)
    (repeat (first | refine s_p ?_ | refine s_c (by omega) ?_ | refine S.ld ?_ | refine S.ldB ?_ | refine S.ce ?_ | refine S.ceB ?_ | refine s_q ?_ | refine s_qc (by omega) ?_ | rw [List.getD_cons_zero] | rw [List.getD_cons_succ]))
    exact hK3 (i + 1) _ ⟨hlt, S⟩ (by omega)
  · (repeat (first | refine s_p ?_ | refine s_c (by omega) ?_ | refine S.ld ?_ | refine S.ldB ?_ | refine S.ce ?_ | refine S.ceB ?_ | refine s_q ?_ | refine s_qc (by omega) ?_ | rw [List.getD_cons_zero] | rw [List.getD_cons_succ]))
    refine S.ld (v := .int .i64 77) ?_ (by simpa using hlast)
    (repeat (first | refine s_p ?_ | refine s_c (by omega) ?_ | refine S.ld ?_ | refine S.ldB ?_ | refine S.ce ?_ | refine S.ceB ?_ | refine s_q ?_ | refine s_qc (by omega) ?_ | rw [List.getD_cons_zero] | rw [List.getD_cons_succ]))
    refine j_and (fun hn => absurd rfl hn) (fun _ => ?_)
    intro K2 hK2
    (repeat (first | refine s_p ?_ | refine s_c (by omega) ?_ | refine S.ld ?_ | refine S.ldB ?_ | refine S.ce ?_ | refine S.ceB ?_ | refine s_q ?_ | refine s_qc (by omega) ?_ | rw [List.getD_cons_zero] | rw [List.getD_cons_succ]))
    obtain ⟨n7', hl7'⟩ := S.at g7
    refine c_law01_kept hl7' (S.at hr') hlen fun w31 e31 => ?_
    have S := S.go e31
    refine hK2 _ _ ?_; clear hK2 K2
    refine j_andB (fun hn => by cases hn) (fun _ => ?_)
    intro K2 hK2
    refine c_law01_awake (S.at hT) fun w32 e32 => ?_
    refine hK2 _ _ ?_
    exact h _ (S.go e32).ext
end Go.Proofs
