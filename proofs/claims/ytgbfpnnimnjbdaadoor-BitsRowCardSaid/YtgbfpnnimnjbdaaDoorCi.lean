/-
  Contracts: the document's answer for layer 1 (package loanwordref01): Read.
-/
import Derived.Test.YtgbfpnnimnjbdaaDoorCh
namespace Go.Proofs
open Go.Sh Go.BM
set_option maxRecDepth 100000

theorem c_ref01_Read {w : World} {W : Int} {s : ByteArray} {K : Value → World → Prop}
    (h1 : ¬ (0 ≤ W ∧ W ≤ 1032) → ∀ w', Ext w w' → K (.tuple #[row0, .int .i64 0, .int .i64 2]) w')
    (h2 : 0 ≤ W → W ≤ 1032 → ∀ i, readR W s = .inl i → ∀ w', Ext w w' → K (.tuple #[row0, .int .i64 (i : Int), .int .i64 10]) w')
    (h3 : 0 ≤ W → W ≤ 1032 → ∀ ws, readR W s = .inr ws → ∀ v w', Ext w w' → FreshRow w' w.heap.size v W ws → K (.tuple #[v, .int .i64 0, .int .i64 0]) w')
    (hs : s.size < 9223372036854775807) : oCall Tryd.prog Tryd.n_ref01_Read #[.int .i64 W, .string s] w K := by
  refine Tryd.ok_ref01_Read ?_
  unfold Tryd.F_ref01_Read
  refine Tryd.al_Row fun b4 w1 hb4 e1 s1 B4 => ?_
  have bad : ∀ w', Ext w w' → Blk w' b4 [.int .i64 0, .slice none 0 0] Tryd.t_Row → ∀ (i n : Int), (∀ w'', Ext w w'' → K (.tuple #[row0, .int .i64 i, .int .i64 n]) w'') → opP Tryd.prog (Instr.build Tryd.t_Row #[]) fun t70 => opU Tryd.prog w' (Instr.storeAt Tryd.t_Row (.pointer (some ⟨b4, 0, none⟩)) t70) fun w21 =>
      opQ Tryd.prog w21 (cellSem Tryd.t_Row (.pointer (some ⟨b4, 0, none⟩))) fun r22 => K (.tuple #[r22, .int .i64 i, (Value.int .i64 n)]) w21 := by
    intro w' E B i n hk
    refine p_build (cs := #[.int .i64 0, .slice none 0 0]) (by kernel_rfl) ?_
    refine Tryd.stB_Row B rfl rfl (by simp [Value.oneCell']) fun w4 x4 s4 B => ?_
    refine Tryd.ce_Row B rfl ?_
    exact hk _ (E.but x4 (by intro k hk; omega))
  (first | refine s_p ?_ | refine s_c (by omega) ?_)
  refine j_or (fun h0 => c_T (bad _ e1 B4 0 2 (h1 (by omega)))) (fun h0 => ?_)
  intro K2 hK2
  (first | refine s_p ?_ | refine s_c (by omega) ?_)
  refine hK2 _ _ ?_; clear hK2 K2
  refine c_if (fun h3' => bad _ e1 B4 0 2 (h1 (by omega))) (fun h1032 => ?_)
  have h0 : 0 ≤ W := by omega
  have h1032 : W ≤ 1032 := by omega
  (first | refine s_p ?_ | refine s_c (by omega) ?_); (first | refine s_p ?_ | refine s_c (by omega) ?_)
  generalize hn : (W.toNat + 7) / 8 = n
  have hnI : (W + 7) / 8 = (n : Int) := by omega
  refine l_intro (ι := Nat) (fun i => [.int .i64 i])
    (fun i w' => i ≤ n ∧ i ≤ s.size ∧ (∀ j, j < i → badB W s j = false) ∧ Ext w w' ∧ Blk w' b4 [.int .i64 0, .slice none 0 0] Tryd.t_Row)
    (fun i => n - i) 0 rfl ⟨Nat.zero_le _, Nat.zero_le _, fun j hj => absurd hj (Nat.not_lt_zero _), e1, B4⟩ ?_
  rintro i d w2 ⟨hi, his, hgood, E2, B4⟩ K6 hK6
  simp only [List.getD_cons_zero]
  (first | refine s_p ?_ | refine s_c (by omega) ?_)
  refine c_if (fun hlt => ?_) (fun hge => ?_)
  · have hlt : i < n := by omega
    (first | refine s_p ?_ | refine s_c (by omega) ?_); (first | refine s_p ?_ | refine s_c (by omega) ?_)
    refine c_if (fun hsz => ?_) (fun hsz => ?_)
    · have hrd : readR W s = .inl i := by
        have hfn := find_none (n := min n s.size) fun j hj => hgood j (by omega)
        have h4 : ¬ s.size = n := by omega
        have h5 : min n s.size = i := by omega
        simp only [readR, hn, hfn, h4, if_false]
        rw [h5]
      exact bad _ E2 B4 (i : Int) 10 (h2 h0 h1032 i hrd)
    have hsz : i < s.size := by omega
    (first | refine s_p ?_ | refine s_c (by omega) ?_)
    refine l_intro (ι := Nat) (fun k => [.int .i64 ((8 * i + k : Nat) : Int)])
      (fun k w' => k ≤ 8 ∧ (∀ j, j < k → sbit s (8 * i + j) = true → ((8 * i + j : Nat) : Int) < W) ∧ Ext w w' ∧ Blk w' b4 [.int .i64 0, .slice none 0 0] Tryd.t_Row)
      (fun k => 8 - k) 0 (by simp only [Nat.add_zero]; rw [show ((8 * i : Nat) : Int) = 8 * (i : Int) by omega]) ⟨Nat.zero_le _, fun j hj => absurd hj (Nat.not_lt_zero _), E2, B4⟩ ?_
    clear E2 B4
    rintro k d w3 ⟨hk, hok, E3, B4⟩ K10 hK10
    simp only [List.getD_cons_zero]
    (first | refine s_p ?_ | refine s_c (by omega) ?_); (first | refine s_p ?_ | refine s_c (by omega) ?_); (first | refine s_p ?_ | refine s_c (by omega) ?_)
    refine c_if (fun hk8 => ?_) (fun hk8 => ?_)
    · have hk8 : k < 8 := by omega
      have E3 := E3.trans (Ext.drew w3)
      have B4 := B4.ext (Ext.drew w3)
      have next : (sbit s (8 * i + k) = true → ((8 * i + k : Nat) : Int) < W) → K10 [.int .i64 ((8 * i + (k + 1) : Nat) : Int)] w3.drew := fun hb =>
        hK10 (k + 1) _ ⟨hk8, fun j hj hbj => by
          rcases Nat.lt_or_ge j k with h | h
          · exact hok j h hbj
          · have : j = k := by omega
            subst this; exact hb hbj, E3, B4⟩ (by omega)
      have hadd : ((8 * i + k : Nat) : Int) + 1 = ((8 * i + (k + 1) : Nat) : Int) := by omega
      (first | refine s_p ?_ | refine s_c (by omega) ?_)
      refine j_and (fun hge => ?_) (fun hge => ?_)
      · refine c_F ?_
        (first | refine s_p ?_ | refine s_c (by omega) ?_)
        rw [hadd]
        exact next (fun _ => by omega)
      · intro K14 hK14
        refine p_byteN (by kernel_rfl) (by omega) ?_
        (first | refine s_p ?_ | refine s_c (by omega) ?_)
        refine p_bit8 (by omega) (p_and88 ?_)
        (first | refine s_p ?_ | refine s_c (by omega) ?_)
        refine hK14 _ _ ?_
        have hbit := and_bit8 s[i].toBitVec k hk8
        rw [← sbit_at hsz hk8] at hbit
        rw [show (((8 * i + k : Nat) : Int) % 8).toNat = k by omega]
        refine c_if (fun hz => ?_) (fun hz => ?_)
        · have hb : sbit s (8 * i + k) = true := by
            cases hb : sbit s (8 * i + k) with
            | true => rfl
            | false => exact absurd (hbit.2 hb) (by omega)
          have hbad : badB W s i = true := by
            rw [badB, List.any_eq_true]
            exact ⟨k, List.mem_range.2 hk8, by rw [hb]; simp; omega⟩
          have hrd : readR W s = .inl i := by
            simp only [readR, hn, find_range (show i < min n s.size by omega) hbad hgood]
          exact bad _ E3 B4 (i : Int) 10 (h2 h0 h1032 i hrd)
        · (first | refine s_p ?_ | refine s_c (by omega) ?_)
          rw [hadd]
          exact next (fun hb => by
            have h5 : (s[i].toBitVec &&& 128#8 >>> k).toNat = 0 := by omega
            rw [hbit.1 h5] at hb; cases hb)
    · have hk' : k = 8 := by omega
      subst hk'
      (first | refine s_p ?_ | refine s_c (by omega) ?_)
      refine hK6 (i + 1) w3 ⟨hlt, hsz, ?_, E3, B4⟩ (by omega)
      intro j hj
      rcases Nat.lt_or_ge j i with h | h
      · exact hgood j h
      · have hji : j = i := by omega
        subst hji
        rw [badB, List.any_eq_false]
        intro m hm
        have hm := List.mem_range.1 hm
        cases hb : sbit s (8 * j + m) with
        | false => simp
        | true => have := hok m hm hb; simp; omega
  · have hi' : i = n := by omega
    subst hi'
    have hfn := find_none (n := min i s.size) fun j hj => hgood j (by omega)
    (first | refine s_p ?_ | refine s_c (by omega) ?_); (first | refine s_p ?_ | refine s_c (by omega) ?_)
    refine c_if (fun hne => ?_) (fun hne => ?_)
    · have hrd : readR W s = .inl i := by
        have h4 : ¬ s.size = i := by omega
        have h5 : min i s.size = i := by omega
        simp only [readR, hn, hfn, h4, if_false]
        rw [h5]
      rw [hnI]
      exact bad _ E2 B4 (i : Int) 10 (h2 h0 h1032 i hrd)
    · have hsz : s.size = i := by omega
      have hrd : readR W s = .inr (turnAll (fun x y => x ||| y) (zeros W) (sL s W.toNat)) := by
        rw [hsz] at hfn; simp only [readR, hn, hsz, hfn, if_true]; rfl
      have hb4l := B4.lt
      refine c_ref01_None h0 h1032 fun v3 w3 e3 hf => ?_
      obtain ⟨p3, cap3, rfl, hw3⟩ := hf
      have B4 := B4.ext e3
      refine Tryd.al_Row fun b10 w4 hb10 e4 s4 B10 => ?_
      have B4 := B4.ext e4
      have hw4 := hw3.ext e4
      have hsz2 := E2.size; have hsz3 := e3.size
      refine Tryd.stB_Row B10 rfl rfl (by simp [Value.oneCell']) fun w5 x5 s5 B10' => ?_
      have hw5 := hw4.butT B10 (by decide) x5
      have B4 := B4.but x5 (by omega)
      have E5 : Ext w w5 := ((E2.trans e3).trans e4).but x5 (by intro k hk; omega)
      have hszl : (zeros W).length = (W.toNat + 63) / 64 := by rw [zeros, List.length_replicate]
      refine l_intro (ι := Nat) (fun i => [.int .i64 i])
        (fun k w' => k ≤ W.toNat ∧ Ext w w' ∧ Blk w' b4 [.int .i64 0, .slice none 0 0] Tryd.t_Row ∧ Blk w' b10 [.int .i64 W, .slice p3 (zeros W).length cap3] Tryd.t_Row ∧
          Words w' w2.heap.size p3 cap3 (turnAll (fun x y => x ||| y) (zeros W) (sL s k)))
        (fun k => W.toNat - k) 0 rfl ⟨Nat.zero_le _, E5, B4, B10', hw5⟩ ?_
      rintro k d w6 ⟨hk, E, B4, B10, hw⟩ K30 hK30
      simp only [List.getD_cons_zero]
      (first | refine s_p ?_ | refine s_c (by omega) ?_)
      refine c_if (fun hlt => ?_) (fun hge => ?_)
      · have hlt : k < W.toNat := by omega
        intro K33 hK33
        (first | refine s_p ?_ | refine s_c (by omega) ?_)
        have hk8 : k / 8 < s.size := by omega
        rw [show (k : Int) / 8 = ((k / 8 : Nat) : Int) by omega]
        refine p_byteN (by kernel_rfl) hk8 ?_
        (first | refine s_p ?_ | refine s_c (by omega) ?_)
        refine p_bit8 (by omega) (p_and88 ?_)
        (first | refine s_p ?_ | refine s_c (by omega) ?_)
        have hbit := and_bit8 s[k / 8].toBitVec (k % 8) (by omega)
        rw [← sbit_at hk8 (by omega), show 8 * (k / 8) + k % 8 = k by omega] at hbit
        rw [show ((k : Int) % 8).toNat = k % 8 by omega]
        refine c_if (fun hz => ?_) (fun hz => ?_)
        · have hb : sbit s k = true := by
            cases hb : sbit s k with
            | true => rfl
            | false => exact absurd (hbit.2 hb) (by omega)
          have E := (E.trans (Ext.drew w6)).trans (Ext.drew w6.drew)
          have B4 := (B4.ext (Ext.drew w6)).ext (Ext.drew w6.drew)
          have B10 := (B10.ext (Ext.drew w6)).ext (Ext.drew w6.drew)
          have hw := (hw.ext (Ext.drew w6)).ext (Ext.drew w6.drew)
          have hidx : k / 64 < (turnAll (fun x y => x ||| y) (zeros W) (sL s k)).length := by rw [turnAll_length, hszl]; omega
          obtain ⟨bw, cw, rfl, hbw, Bw, hcw, hset⟩ := hw.get hidx
          have h8w : b10 ≠ bw := by
            rintro rfl
            have := Bw.symm.trans B10; simp only [Option.some.injEq, Obj.cells.injEq] at this
            have := this.2.1; cases this
          have hix : ((k : Int) / 64).toNat = k / 64 := by omega
          (first | refine s_p ?_ | refine s_c (by omega) ?_); refine Tryd.ldB_S_uint64 B10 rfl ?_; (first | refine s_p ?_ | refine s_c (by omega) ?_); (first | refine s_p ?_ | refine s_c (by omega) ?_); refine Tryd.ldB_S_uint64 B10 rfl ?_; (first | refine s_p ?_ | refine s_c (by omega) ?_); (first | refine s_p ?_ | refine s_c (by omega) ?_)
          rw [hix, Nat.zero_add]
          refine Tryd.ldB_uint64 Bw hcw ?_
          (first | refine s_p ?_ | refine s_c (by omega) ?_)
          refine p_shl64 (by omega) (p_or64 ?_)
          rw [of64]
          (first | refine s_p ?_ | refine s_c (by omega) ?_)
          rw [hix, Nat.zero_add]
          refine Tryd.st_uint64 Bw (lt_of_some hcw) rfl fun w10 x10 s10 Bw10 => ?_
          refine hK33 _ _ (fun _ => ?_)
          (first | refine s_p ?_ | refine s_c (by omega) ?_)
          refine hK30 (k + 1) w10 ⟨hlt, E.but x10 (by intro k hk; omega), B4.but x10 (by omega), B10.but x10 h8w, ?_⟩ (by omega)
          rw [sL_succ, hb, if_pos rfl, turnAll_snoc]
          have := hset w10 _ Bw10
          unfold turnW
          rw [Int.toNat_natCast, List.getD_eq_getElem?_getD, List.getElem?_eq_getElem hidx]
          rw [show ((k : Int) % 64).toNat = k % 64 by omega] at this
          exact this
        · have h5 : (s[k / 8].toBitVec &&& 128#8 >>> (k % 8)).toNat = 0 := by omega
          refine hK33 _ _ (fun _ => ?_)
          (first | refine s_p ?_ | refine s_c (by omega) ?_)
          refine hK30 (k + 1) _ ⟨hlt, E.trans (Ext.drew w6), B4.ext (Ext.drew w6), B10.ext (Ext.drew w6), ?_⟩ (by omega)
          rw [sL_succ, hbit.1 h5, if_neg (by decide)]
          exact hw.ext (Ext.drew w6)
      · have hk' : k = W.toNat := by omega
        subst hk'
        refine Tryd.ldB_Row B10 rfl ?_
        refine Tryd.stB_Row B4 rfl rfl (by simp [Value.oneCell']) fun w9 x9 s9 B9 => ?_
        refine Tryd.ce_Row B9 rfl ?_
        refine h3 h0 h1032 _ hrd _ _ (E.but x9 (by intro k hk; omega)) ⟨p3, cap3, ?_, (hw.butT B4 (by decide) x9).mono (by omega)⟩
        rw [turnAll_length]
end Go.Proofs
