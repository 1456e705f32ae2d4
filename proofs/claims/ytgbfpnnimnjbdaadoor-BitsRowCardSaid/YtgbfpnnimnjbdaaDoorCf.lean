/-
  Contracts: rows of bits (package bits): Bytes, Read.
-/
import Derived.Test.YtgbfpnnimnjbdaaDoorCe
import Derived.Test.YtgbfpnnimnjbdaaDoorBr
namespace Go.Proofs
open Go.Sh Go.BM
set_option maxRecDepth 100000

theorem u8_map (bs : List (BitVec 8)) : (bs.map UInt8.ofBitVec).map (fun x => u8 x.toBitVec) = bs.map u8 := by
  rw [List.map_map]; rfl
theorem getD_map8 {bs : List (BitVec 8)} {i : Nat} (h : i < bs.length) : (bs.map u8)[i]? = some (u8 (bs.getD i 0)) := by
  simp [List.getD_eq_getElem?_getD, h]

theorem c_bits_Bytes {w : World} {v : Value} {W : Int} {ws : List (BitVec 64)} {K : Value → World → Prop} (hT : Tab w) (hr : RowV w v W ws)
    (h1 : ¬ May W ws → ∀ w', Ext w w' → K (.tuple #[.string ⟨#[]⟩, err 2]) w')
    (h2 : May W ws → ∀ w', Ext w w' → K (.tuple #[.string (strOf (bytesOf W ws)), err 0]) w') : oCall Tryd.prog Tryd.n_bits_Bytes #[v] w K := by
  refine Tryd.ok_bits_Bytes ?_
  unfold Tryd.F_bits_Bytes
  have hr0 := hr
  obtain ⟨p, cap, rfl, hS, hp, hcap⟩ := hr
  refine w_box fun b1 w1 hb1 e1 s1 B1 => ⟨NC.of_ext e1, ?_⟩
  refine Tryd.ldB_Row B1 rfl ?_
  refine c_bits_May (hr0.ext e1) fun w2 e2 => ⟨NC.of_ext e2, ?_⟩
  have B1 := B1.ext e2
  have E2 := e1.trans e2
  (first | refine s_p ?_ | refine s_c (by omega) ?_)
  refine c_b (fun hm => ?_) (fun hm => ?_)
  · intro w3 sh
    refine h1 (fun hn => by rw [mayB_true hn] at hm; cases hm) _ (Ext.shut E2 sh)
  have hm : May W ws := by simpa [mayB] using hm
  have hW := hm.1; have hW2 := hm.2.1
  (first | refine s_p ?_ | refine s_c (by omega) ?_); refine Tryd.ldB_int B1 rfl ?_; (first | refine s_p ?_ | refine s_c (by omega) ?_); (first | refine s_p ?_ | refine s_c (by omega) ?_)
  refine Tryd.mk_S_uint8 (by omega) (by omega) fun bS w3 hbS e3 s3 BS => ⟨NC.of_ext e3, ?_⟩
  have hrep : List.replicate ((W + 7) / 8).toNat (Value.int .u8 0) = (noB W).map u8 := by
    rw [noB, List.map_replicate, show ((W + 7) / 8).toNat = (W.toNat + 7) / 8 by omega]; rfl
  rw [hrep] at BS
  refine Tryd.al_S_uint8 fun b4 w4 hb4 e4 s4 B4 => ⟨NC.of_ext e4, ?_⟩
  refine Tryd.st_S_uint8 B4 (by simp) rfl fun w5 x5 s5 B4' => ⟨NC.of_b B4 x5, ?_⟩
  have B1 := ((B1.ext e3).ext e4).but x5 (by have := B1.lt; omega)
  have BS := (BS.ext e4).but x5 (by omega)
  (first | refine s_p ?_ | refine s_c (by omega) ?_)
  refine Tryd.al_func_int fun b5 w6 hb5 e6 s6 B5 => ⟨NC.of_ext e6, ?_⟩
  have B1 := B1.ext e6; have BS := BS.ext e6; have B4 := B4'.ext e6
  refine Tryd.st_func_int B5 (by simp) rfl fun w7 x7 s7 B5' => ⟨NC.of_b B5 x7, ?_⟩
  have B1 := B1.but x7 (by have := e2.size; omega); have BS := BS.but x7 (by omega); have B4 := B4.but x7 (by omega)
  have E5 : Ext w w5 := ((E2.trans e3).trans e4).but x5 (by intro k hk; have := E2.size; omega)
  have E7 : Ext w w7 := (E5.trans e6).but x7 (by intro k hk; have := E5.size; omega)
  have hszS := E2.size
  have h0 : 0 < w.heap.size := cell_lt (hT 0 (by decide))
  refine Tryd.ldB_Row B1 rfl ?_
  refine c_bits_Each (hT.ext E7) (hr0.ext E7) fun g w8 e8 hI => ⟨NC.of_ext e8, ?_⟩
  rw [eachL_may hm] at hI
  have BS := BS.ext e8; have B4 := B4.ext e8; have B5 := B5'.ext e8
  have E8 := E7.trans e8
  have hlS := BS.lt
  refine r_all _ (fun b => b = bS)
    (fun k W' => Ext w W' ∧ Blk W' bS ((putAll (noB W) ((bitsOf ws).take k)).map u8) Tryd.t_uint8 ∧ Blk W' b4 [.slice (some ⟨bS, 0, none⟩) ((W + 7) / 8).toNat ((W + 7) / 8).toNat] Tryd.t_S_uint8 ∧
      Blk W' b5 [.func (.func Tryd.n_bits_Bytes_1) #[] #[.pointer (some ⟨b4, 0, none⟩)]] Tryd.t_func_int)
    ?_ (hI.2 _ _ ?_ (Ext.refl _)) ?_ ?_ ⟨E8, BS, B4, B5⟩ ?_ ?_
  · rintro b rfl; exact BS.nb
  · rintro b rfl
    have := e8.size; have := e6.size; have := x7.size; have := e4.size; have := x5.size
    omega
  · intro x hx
    obtain ⟨k, _, rfl⟩ := List.mem_map.1 hx; rfl
  · rintro k W W' ⟨h1, h2, h3, h4⟩ e
    exact ⟨h1.nl E8.size e, h2.nl e, h3.nl e, h4.nl e⟩
  · rintro k x W1 hx ⟨hE, BS, B4, B5⟩ KR hKR
    refine ⟨Ext.refl _, fun w14 nl => ?_⟩
    have hE := hE.nl E8.size nl; have BS := BS.nl nl; have B4 := B4.nl nl; have B5 := B5.nl nl
    rw [List.getElem?_map, Option.map_eq_some_iff] at hx
    obtain ⟨m, hm1, rfl⟩ := hx
    obtain ⟨hk, hm2⟩ := List.getElem?_eq_some_iff.1 hm1
    simp only [List.getD_cons_zero]
    have hml : m < W.toNat := by
      have : m ∈ bitsOf ws := hm2 ▸ List.getElem_mem hk
      rw [bitsOf_may hm] at this
      exact List.mem_range.1 (List.mem_filter.1 this).1
    refine Tryd.ldB_func_int B5 rfl ?_
    refine v_func (by kernel_rfl) (Tryd.ok_bits_Bytes_1 (t0 := .int .i64 m) (t1 := .pointer (some ⟨b4, 0, none⟩)) ?_)
    unfold Tryd.F_bits_Bytes_1
    refine Tryd.ldB_S_uint8 (Blk.ext B4 (Ext.drew w14)) rfl ?_
    (first | refine s_p ?_ | refine s_c (by omega) ?_); (first | refine s_p ?_ | refine s_c (by omega) ?_)
    have hlen : (putAll (noB W) ((bitsOf ws).take k)).length = (W.toNat + 7) / 8 := by rw [putAll_length, noB, List.length_replicate]
    have hidx : m / 8 < (putAll (noB W) ((bitsOf ws).take k)).length := by rw [hlen]; omega
    rw [show 0 + ((m : Int) / 8).toNat = m / 8 by omega]
    refine Tryd.ldB_uint8 (Blk.ext BS (Ext.drew w14)) (getD_map8 hidx) ?_
    (first | refine s_p ?_ | refine s_c (by omega) ?_)
    refine p_bit8 (by omega) (p_or88 ?_)
    (first | refine s_p ?_ | refine s_c (by omega) ?_)
    rw [show 0 + ((m : Int) / 8).toNat = m / 8 by omega, show ((m : Int) % 8).toNat = m % 8 by omega]
    refine Tryd.st_uint8 (Blk.ext BS (Ext.drew w14)) (by simpa using hidx) rfl fun w15 x15 s15 BS' => ?_
    have x15' : ExtBut (fun b => b = bS) w14 w15 := ExtBut.trans (ExtBut.of_ext (Ext.drew w14)) x15
    refine ⟨NC.of_b BS x15', x15', hKR _ ⟨hE.but x15' (by intro k hk; omega), ?_, B4.but x15' (by omega), B5.but x15' (by omega)⟩⟩
    have : List.take (k + 1) (bitsOf ws) = (bitsOf ws).take k ++ [m] := by rw [List.take_succ_eq_append_getElem hk, hm2]
    rw [this, putAll_snoc, putB, List.map_set]
    exact BS'
  · rintro W1 ⟨hE, BS, B4, B5⟩
    rw [List.length_map, List.take_length] at BS
    refine Tryd.ldB_S_uint8 B4 rfl ?_
    have hlen : ((W + 7) / 8).toNat = ((bytesOf W ws).map UInt8.ofBitVec).length := by rw [List.length_map, bytesOf_length]; omega
    rw [hlen]
    refine q_str (by kernel_rfl) (by kernel_rfl) (by rw [u8_map]; exact Sl.blk BS) ?_
    intro w17 sh
    exact h2 hm _ (Ext.shut hE sh)

theorem c_bits_Read {w : World} {W : Int} {s : ByteArray} {K : Value → World → Prop}
    (h1 : ¬ (0 ≤ W ∧ W ≤ 1032) → ∀ w', Ext w w' → K (.tuple #[row0, .int .i64 0, err 2]) w')
    (h2 : 0 ≤ W → W ≤ 1032 → ∀ i, readR W s = .inl i → ∀ w', Ext w w' → K (.tuple #[row0, .int .i64 (i : Int), err 10]) w')
    (h3 : 0 ≤ W → W ≤ 1032 → ∀ ws, readR W s = .inr ws → ∀ v w', Ext w w' → FreshRow w' w.heap.size v W ws → K (.tuple #[v, .int .i64 0, err 0]) w')
    (hs : s.size < 9223372036854775807) : oCall Tryd.prog Tryd.n_bits_Read #[.int .i64 W, .string s] w K := by
  refine Tryd.ok_bits_Read ?_
  unfold Tryd.F_bits_Read
  refine Tryd.al_Row fun b4 w1 hb4 e1 s1 B4 => ?_
  refine c_bits_New (fun hn w2 e2 => ?_) (fun h0 h1032 v2 w2 e2 hf => ?_)
  · have B4 := B4.ext e2
    (repeat (first | refine s_p ?_ | refine s_c (by omega) ?_))
    refine Tryd.stB_Row B4 rfl rfl (by simp [Value.oneCell']) fun w3 x3 s3 B4 => ?_
    (first | refine s_p ?_ | refine s_c (by omega) ?_)
    refine c_T ?_
    refine p_build (cs := #[.int .i64 0, .slice none 0 0]) (by kernel_rfl) ?_
    refine Tryd.stB_Row B4 rfl rfl (by simp [Value.oneCell']) fun w4 x4 s4 B4 => ?_
    refine Tryd.ce_Row B4 rfl ?_
    exact h1 hn _ (((e1.trans e2).but x3 (by intro k hk; omega)).but x4 (by intro k hk; omega))
  obtain ⟨p2, cap2, rfl, hw2⟩ := hf
  have B4 := B4.ext e2
  have E2 := e1.trans e2
  (repeat (first | refine s_p ?_ | refine s_c (by omega) ?_))
  refine Tryd.stB_Row B4 rfl rfl (by simp [Value.oneCell']) fun w3 x3 s3 B4' => ?_
  have hw3 := hw2.butT B4 (by decide) x3
  have E3 : Ext w w3 := E2.but x3 (by intro k hk; omega)
  have hszl : (zeros W).length = (W.toNat + 63) / 64 := by rw [zeros, List.length_replicate]
  (first | refine s_p ?_ | refine s_c (by omega) ?_)
  refine c_F ?_
  (first | refine s_p ?_ | refine s_c (by omega) ?_); (first | refine s_p ?_ | refine s_c (by omega) ?_); (first | refine s_p ?_ | refine s_c (by omega) ?_)
  refine p_min (a := (W + 7) / 8) (b := (s.size : Int)) ?_
  generalize hn : (W.toNat + 7) / 8 = n
  rw [show min ((W + 7) / 8) (s.size : Int) = ((min n s.size : Nat) : Int) by omega]
  -- what stands in memory while the bits are read
  let Inv : List Int → World → Prop := fun l w' => Ext w w' ∧ Blk w' b4 [.int .i64 W, .slice p2 (zeros W).length cap2] Tryd.t_Row ∧ Words w' w1.heap.size p2 cap2 (turnAll (fun x y => x ||| y) (zeros W) l)
  have bad : ∀ l w', Inv l w' → ∀ i : Nat, readR W s = .inl i → opP Tryd.prog (Instr.build Tryd.t_Row #[]) fun t70 => opU Tryd.prog w' (Instr.storeAt Tryd.t_Row (.pointer (some ⟨b4, 0, none⟩)) t70) fun w21 =>
      opQ Tryd.prog w21 (cellSem Tryd.t_Row (.pointer (some ⟨b4, 0, none⟩))) fun r22 => K (.tuple #[r22, .int .i64 (i : Int), (Value.int .i64 10)]) w21 := by
    rintro l w' ⟨E, B, _⟩ i hi
    refine p_build (cs := #[.int .i64 0, .slice none 0 0]) (by kernel_rfl) ?_
    refine Tryd.stB_Row B rfl rfl (by simp [Value.oneCell']) fun w4 x4 s4 B => ?_
    refine Tryd.ce_Row B rfl ?_
    exact h2 h0 h1032 i hi _ (E.but x4 (by intro k hk; omega))
  refine l_intro (ι := Nat) (fun i => [.int .i64 i])
    (fun i w' => i ≤ min n s.size ∧ (∀ j, j < i → badB W s j = false) ∧ Inv (sL s (8 * i)) w')
    (fun i => min n s.size - i) 0 rfl ⟨Nat.zero_le _, fun j hj => absurd hj (Nat.not_lt_zero _), E3, B4', hw3⟩ ?_
  rintro i d w7 ⟨hi, hgood, hinv⟩ K6 hK6
  simp only [List.getD_cons_zero]
  (first | refine s_p ?_ | refine s_c (by omega) ?_)
  refine c_if (fun hlt => ?_) (fun hge => ?_)
  · have hlt : i < min n s.size := by omega
    refine l_intro (ι := Nat) (fun k => [.int .i64 k])
      (fun k w' => k ≤ 8 ∧ (∀ j, j < k → sbit s (8 * i + j) = true → ((8 * i + j : Nat) : Int) < W) ∧ Inv (sL s (8 * i + k)) w')
      (fun k => 8 - k) 0 rfl ⟨Nat.zero_le _, fun j hj => absurd hj (Nat.not_lt_zero _), hinv⟩ ?_
    clear hinv
    rintro k d w8 ⟨hk, hok, hinv⟩ K10 hK10
    simp only [List.getD_cons_zero]
    (first | refine s_p ?_ | refine s_c (by omega) ?_)
    refine c_if (fun hk8 => ?_) (fun hk8 => ?_)
    · have hk8 : k < 8 := by omega
      intro K14 hK14
      refine p_byteN (by kernel_rfl) (by omega) ?_
      refine p_bit8N (p_and88 ?_)
      (first | refine s_p ?_ | refine s_c (by omega) ?_)
      have hbit := and_bit8 s[i].toBitVec k hk8
      rw [← sbit_at (by omega) hk8] at hbit
      refine c_if (fun hz => ?_) (fun hz => ?_)
      · have hb : sbit s (8 * i + k) = false := hbit.1 (by omega)
        refine hK14 _ _ (fun _ => ?_)
        (first | refine s_p ?_ | refine s_c (by omega) ?_)
        have hinv' : Inv (sL s (8 * i + (k + 1))) w8.drew := by
          obtain ⟨q1, q2, q3⟩ := hinv
          rw [show 8 * i + (k + 1) = 8 * i + k + 1 by omega, sL_succ, hb]
          exact ⟨q1.trans (Ext.drew _), q2.ext (Ext.drew _), q3.ext (Ext.drew _)⟩
        refine hK10 (k + 1) _ ⟨hk8, ?_, hinv'⟩ (by omega)
        intro j hj hbj
        rcases Nat.lt_or_ge j k with h | h
        · exact hok j h hbj
        · rw [show j = k by omega, hb] at hbj; cases hbj
      · have hb : sbit s (8 * i + k) = true := by
          cases hb : sbit s (8 * i + k) with
          | true => rfl
          | false => exact absurd (hbit.2 hb) (by omega)
        (repeat (first | refine s_p ?_ | refine s_c (by omega) ?_))
        refine c_if (fun hge => ?_) (fun hge => ?_)
        · refine bad (sL s (8 * i + k)) _ ?_ i ?_
          · obtain ⟨q1, q2, q3⟩ := hinv
            exact ⟨q1.trans (Ext.drew _), q2.ext (Ext.drew _), q3.ext (Ext.drew _)⟩
          · have hbad : badB W s i = true := by
              rw [badB, List.any_eq_true]
              exact ⟨k, List.mem_range.2 hk8, by rw [hb]; simp; omega⟩
            simp only [readR, hn, find_range hlt hbad hgood]
        · have hlw : 8 * (i : Int) + k < W := by omega
          obtain ⟨q1, q2, q3⟩ := hinv
          have q1 := (q1.trans (Ext.drew w8)).trans (Ext.drew w8.drew)
          have q2 := (q2.ext (Ext.drew w8)).ext (Ext.drew w8.drew)
          have q3 := (q3.ext (Ext.drew w8)).ext (Ext.drew w8.drew)
          have hall : AllIn W (sL s (8 * i + k)) := by
            refine sL_le fun m hm hbm => ?_
            omega
          have hlen : (turnAll (fun x y => x ||| y) (zeros W) (sL s (8 * i + k))).length = (W.toNat + 63) / 64 := by rw [turnAll_length, hszl]
          have hidx : (8 * i + k) / 64 < (turnAll (fun x y => x ||| y) (zeros W) (sL s (8 * i + k))).length := by rw [hlen]; omega
          obtain ⟨bw, cw, rfl, hbw, Bw, hcw, hset⟩ := q3.get hidx
          (first | refine s_p ?_ | refine s_c (by omega) ?_); refine Tryd.ldB_S_uint64 q2 rfl ?_; (first | refine s_p ?_ | refine s_c (by omega) ?_); (first | refine s_p ?_ | refine s_c (by omega) ?_); (first | refine s_p ?_ | refine s_c (by omega) ?_); (first | refine s_p ?_ | refine s_c (by omega) ?_)
          have hix : ((8 * (i : Int) + k) / 64).toNat = (8 * i + k) / 64 := by omega
          rw [hix, Nat.zero_add]
          refine Tryd.ldB_uint64 Bw hcw ?_
          (first | refine s_p ?_ | refine s_c (by omega) ?_); (first | refine s_p ?_ | refine s_c (by omega) ?_); (first | refine s_p ?_ | refine s_c (by omega) ?_)
          refine p_shl64 (by omega) ?_
          refine p_or64 ?_
          rw [of64]
          (first | refine s_p ?_ | refine s_c (by omega) ?_)
          rw [hix, Nat.zero_add]
          refine Tryd.st_uint64 Bw (lt_of_some hcw) rfl fun w9 x9 s9 Bw9 => ?_
          refine hK14 _ _ (fun _ => ?_)
          (first | refine s_p ?_ | refine s_c (by omega) ?_)
          have hb4 : b4 ≠ bw := by
            rintro rfl
            have := Bw.symm.trans q2; simp only [Option.some.injEq, Obj.cells.injEq] at this
            have := this.2.1; cases this
          refine hK10 (k + 1) w9 ⟨hk8, ?_, ?_⟩ (by omega)
          · intro j hj hbj
            rcases Nat.lt_or_ge j k with h | h
            · exact hok j h hbj
            · rw [show j = k by omega]; omega
          · refine ⟨q1.but x9 (by intro k hk; omega), q2.but x9 hb4, ?_⟩
            rw [show 8 * i + (k + 1) = 8 * i + k + 1 by omega, sL_succ, hb, if_pos rfl, turnAll_snoc]
            have hx := hset w9 _ Bw9
            unfold turnW
            rw [show (((8 * i + k : Nat) : Int)).toNat = 8 * i + k by omega, List.getD_eq_getElem?_getD, List.getElem?_eq_getElem hidx]
            rw [show ((8 * (i : Int) + k) % 64).toNat = (8 * i + k) % 64 by omega] at hx
            exact hx
    · have hk' : k = 8 := by omega
      subst hk'
      (first | refine s_p ?_ | refine s_c (by omega) ?_)
      refine hK6 (i + 1) w8 ⟨hlt, ?_, ?_⟩ (by omega)
      · intro j hj
        rcases Nat.lt_or_ge j i with h | h
        · exact hgood j h
        · have hji : j = i := by omega
          subst hji
          rw [badB, List.any_eq_false]
          intro m hm
          have hm := List.mem_range.1 hm
          cases hb : sbit s (8 * j + m) with
          | false => simp
          | true => have := hok m hm hb; simp; omega
      · rw [show 8 * (i + 1) = 8 * i + 8 by omega]; exact hinv
  · have hi' : i = min n s.size := by omega
    (first | refine s_p ?_ | refine s_c (by omega) ?_); (first | refine s_p ?_ | refine s_c (by omega) ?_)
    have hfn := find_none hgood
    rw [hi'] at hfn
    refine c_if (fun hne => ?_) (fun hne => ?_)
    · have hne' : ¬ s.size = n := by omega
      have hrd : readR W s = .inl (min n s.size) := by simp only [readR, hn, hfn, hne', if_false]
      refine p_build (cs := #[.int .i64 0, .slice none 0 0]) (by kernel_rfl) ?_
      (first | refine s_p ?_ | refine s_c (by omega) ?_)
      refine p_min (a := (W + 7) / 8) (b := (s.size : Int)) ?_
      rw [show min ((W + 7) / 8) (s.size : Int) = ((min n s.size : Nat) : Int) by omega]
      obtain ⟨q1, q2, q3⟩ := hinv
      refine Tryd.stB_Row q2 rfl rfl (by simp [Value.oneCell']) fun w9 x9 s9 B9 => ?_
      refine Tryd.ce_Row B9 rfl ?_
      exact h2 h0 h1032 _ hrd _ (q1.but x9 (by intro k hk; omega))
    · have hne' : s.size = n := by omega
      have hall : ∀ k, k < 8 * n → sbit s k = true → (k : Int) < W := by
        intro k hk hb
        have h1 := hgood (k / 8) (by omega)
        rw [badB, List.any_eq_false] at h1
        have h2 := h1 (k % 8) (List.mem_range.2 (by omega))
        rw [show 8 * (k / 8) + k % 8 = k by omega, hb] at h2
        simp at h2; exact h2
      have hrd : readR W s = .inr (turnAll (fun x y => x ||| y) (zeros W) (sL s W.toNat)) := by
        rw [hne'] at hfn; simp only [readR, hn, hne', hfn, if_true]; rfl
      have he : sL s (8 * i) = sL s W.toNat := sL_end (by omega) (fun k hk hb => hall k (by omega) hb)
      obtain ⟨q1, q2, q3⟩ := hinv
      rw [he] at q3
      refine Tryd.ldB_Row q2 rfl ?_
      refine Tryd.stB_Row q2 rfl rfl (by simp [Value.oneCell']) fun w9 x9 s9 B9 => ?_
      refine Tryd.ce_Row B9 rfl ?_
      refine h3 h0 h1032 _ hrd _ _ (q1.but x9 (by intro k hk; omega)) ⟨p2, cap2, ?_, (q3.butT q2 (by decide) x9).mono e1.size⟩
      rw [turnAll_length]
end Go.Proofs
