/-
  Layer 1, law: BitsBytes.
-/
import Derived.Test.YtgbfpnnimnjbdaaDoorCk
namespace Go.Proofs
open Go.Sh Go.BM
set_option maxRecDepth 100000

theorem c_law01_BitsBytes {w : World} {v : Value} {W width : Int} {ws : List (BitVec 64)} {s : ByteArray} {K : Value → World → Prop} (hT : Tab w) (hr : RowV w v W ws)
    (h : ∀ w', Ext w w' → K (.bool true) w') : oCall Tryd.prog Tryd.n_law01_BitsBytes #[v, .int .i64 width, .string s] w K := by
  refine Tryd.ok_law01_BitsBytes ?_
  unfold Tryd.F_law01_BitsBytes
  have hr0 := hr
  obtain ⟨p, cap, rfl, hS, hp, hcap⟩ := hr
  have h0 : 0 < w.heap.size := cell_lt (hT 0 (by decide))
  refine w_box fun b3 w1 hb3 e1 s1 B3 => ?_
  (first | refine s_p ?_ | refine s_c (by omega) ?_); refine Tryd.ldB_S_uint64 B3 rfl ?_; (first | refine s_p ?_ | refine s_c (by omega) ?_); (first | refine s_p ?_ | refine s_c (by omega) ?_)
  refine j_or (fun hbig => ?_) (fun hsm => ?_)
  · refine c_T ?_
    exact c_law01_awake (hT.ext e1) fun w2 e2 => h _ (e1.trans e2)
  intro K2 hK2
  (first | refine s_p ?_ | refine s_c (by omega) ?_); (first | refine s_p ?_ | refine s_c (by omega) ?_)
  refine hK2 _ _ ?_; clear hK2 K2
  refine c_if (fun hbig => ?_) (fun hsm2 => ?_)
  · exact c_law01_awake (hT.ext e1) fun w2 e2 => h _ (e1.trans e2)
  have hlen : ws.length ≤ 4096 := by omega
  have hss : s.size < 9223372036854775807 := by omega
  refine Tryd.ldB_Row B3 rfl ?_
  refine c_law01_lent (hr0.ext e1) hlen fun v7 w7 e7 hl7 => ?_
  have B3 := B3.ext e7
  have E7 := e1.trans e7
  obtain ⟨p7, cap7, hv7⟩ := hl7.shape
  refine k_putRow hv7 fun b7 w9 hb7 e9 s9 B7 => ?_
  have B3 := B3.ext e9
  have E9 := E7.trans e9
  have hl9 := hl7.ext e9
  have hl7lt := hl7.lt
  subst hv7
  have hrow9 := hl9.row
  refine Tryd.ldB_Row B7 rfl ?_
  refine c_bits_BytesO (hT.ext E9) hrow9 fun w10 e10 => ?_
  have B3 := B3.ext e10; have B7 := B7.ext e10
  have E10 := E9.trans e10
  have hl10 := hl9.ext e10
  (repeat (first | refine s_p ?_ | refine s_c (by omega) ?_))
  refine j_intro (fun _ w14 => Ext w10 w14) ?_ ?_
  · intro K11 hK11
    refine Tryd.ldB_Row B3 rfl ?_
    refine c_ref01_May (hr0.ext E10) fun w11 e11 => ?_
    have B3 := B3.ext e11
    have E11 := E10.trans e11
    refine c_b (fun hm => ?_) (fun hm => ?_)
    · have hm := mayB_iff.1 hm
      rw [bytesO_may hm]
      refine p_neq ?_
      refine j_or (fun hn => absurd rfl hn) (fun _ => ?_)
      intro K16 hK16
      refine Tryd.ldB_Row B3 rfl ?_
      refine c_ref01_Bytes (hr0.ext E11) hm fun w12 e12 => ?_
      refine p_neqSame rfl ?_
      refine hK16 _ _ ?_
      refine c_F ?_
      exact hK11 _ _ (e11.trans e12)
    · rw [bytesO_not (fun hn => by rw [mayB_true hn] at hm; cases hm)]
      refine p_neq ?_
      refine j_or (fun hn => absurd rfl hn) (fun _ => ?_)
      intro K16 hK16
      refine p_neqSame rfl ?_
      refine hK16 _ _ ?_
      refine c_F ?_
      exact hK11 _ _ e11
  intro _ w14 e14 _
  have B3 := B3.ext e14; have B7 := B7.ext e14
  have E14 := E10.trans e14
  have hl14 := hl10.ext e14
  have z14 := E14.size
  have y3 := B3.lt; have y7 := B7.lt
  have hO := readO_length width s
  generalize hgO : readO width s = O at hO
  refine c_bits_ReadO hss fun va w25 e25 hfa => ?_
  rw [hgO] at hfa ⊢
  have B3 := B3.ext e25; have B7 := B7.ext e25
  obtain ⟨pa, capa, hva⟩ := hfa.shape
  (repeat (first | refine s_p ?_ | refine s_c (by omega) ?_))
  refine k_putRow hva fun b10 w27 hb10 e27 s27 B10 => ?_
  have B3 := B3.ext e27; have B7 := B7.ext e27
  refine c_bits_ReadO hss fun vb w28 e28 hfb => ?_
  rw [hgO] at hfb ⊢
  have B3 := B3.ext e28; have B7 := B7.ext e28; have B10 := B10.ext e28
  obtain ⟨pb, capb, hvb⟩ := hfb.shape
  (repeat (first | refine s_p ?_ | refine s_c (by omega) ?_))
  refine k_putRow hvb fun b12 w30 hb12 e30 s30 B12 => ?_
  have B3 := B3.ext e30; have B7 := B7.ext e30; have B10 := B10.ext e30
  refine c_ref01_ReadO hss fun vc w31 e31 hfc => ?_
  rw [hgO] at hfc ⊢
  have B3 := B3.ext e31; have B7 := B7.ext e31; have B10 := B10.ext e31; have B12 := B12.ext e31
  obtain ⟨pc, capc, hvc⟩ := hfc.shape
  (repeat (first | refine s_p ?_ | refine s_c (by omega) ?_))
  refine k_putRow hvc fun b15 w33 hb15 e33 s33 B15 => ?_
  have B3 := B3.ext e33; have B7 := B7.ext e33; have B10 := B10.ext e33; have B12 := B12.ext e33
  have Ea := ((((e27.trans e28).trans e30).trans e31).trans e33)
  have Eb := ((e30.trans e31).trans e33)
  have E33 := (E14.trans e25).trans Ea
  have hl33 := (hl14.ext e25).ext Ea
  have zz25 := e25.size; have zz28 := e28.size; have zz31 := e31.size
  refine p_eql ?_
  refine j_and (fun hn => absurd rfl hn) (fun _ => ?_)
  intro K2 hK2; refine p_eql ?_; refine hK2 _ _ ?_; clear hK2 K2
  refine j_and (fun hn => absurd rfl hn) (fun _ => ?_)
  intro K2 hK2; refine p_eql ?_; refine hK2 _ _ ?_; clear hK2 K2
  refine j_and (fun hn => absurd rfl hn) (fun _ => ?_)
  intro K2 hK2; refine p_eql ?_; refine hK2 _ _ ?_; clear hK2 K2
  refine j_and (fun hn => absurd rfl hn) (fun _ => ?_)
  intro K2 hK2
  refine Tryd.ldB_Row B10 rfl ?_
  refine Tryd.ldB_Row B12 rfl ?_
  refine Tryd.ldB_Row B15 rfl ?_
  subst hva; subst hvb; subst hvc
  refine k_held (n := w14.heap.size) (m := w25.heap.size) hfa (Nat.le_refl _) Ea ((hfb.rowS (fun b hb => by omega)).ext Eb) ((hfc.rowS (fun b hb => by omega)).ext e33) (by omega) Ea.size fun w50 x => ?_
  have B3 := B3.but x (by omega); have B7 := B7.but x (by omega)
  have hS14 : ∀ b, (w14.heap.size ≤ b ∧ b < w25.heap.size) → w.heap.size ≤ b := fun b hb => by omega
  have E50 := E33.but x hS14
  have hl50 := hl33.but x (m := w14.heap.size) (fun g cap hv => by have := hl14.lt g cap hv; omega) (fun b hb => hb.1)
  refine hK2 _ _ ?_; clear hK2 K2
  refine j_andB (fun hn => by cases hn) (fun _ => ?_)
  intro K2 hK2
  refine Tryd.ldB_Row B7 rfl ?_
  refine Tryd.ldB_Row B3 rfl ?_
  refine c_law01_kept hl50 (hr0.keep E33 x hS14) hlen fun w55 e55 => ?_
  refine hK2 _ _ ?_; clear hK2 K2
  refine j_andB (fun hn => by cases hn) (fun _ => ?_)
  intro K2 hK2
  refine c_law01_awake (hT.ext (E50.trans e55)) fun w60 e60 => ?_
  refine hK2 _ _ ?_
  exact h _ ((E50.trans e55).trans e60)
end Go.Proofs
