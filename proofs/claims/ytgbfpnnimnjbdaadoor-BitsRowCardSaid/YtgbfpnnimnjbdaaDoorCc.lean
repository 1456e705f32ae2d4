/-
  Contracts: rows of bits (package bits): Set, Clear, Or, And, Less, Count, Each.
-/
import Derived.Test.YtgbfpnnimnjbdaaDoorCb
import Derived.Test.YtgbfpnnimnjbdaaDoorBo
import Derived.Test.YtgbfpnnimnjbdaaDoorShB
namespace Go.Proofs
open Go.Sh Go.BM
set_option maxRecDepth 100000

theorem FreshRow.but {w w' : World} {S : Nat → Prop} {n : Nat} {v : Value} {W : Int} {ws : List (BitVec 64)} (h : FreshRow w n v W ws) (e : ExtBut S w w')
    (hS : ∀ g, n ≤ g → g < w.heap.size → ¬ S g) : FreshRow w' n v W ws := by
  obtain ⟨p, cap, h1, h⟩ := h; exact ⟨p, cap, h1, h.but e fun g _ h1 h2 => hS g h1 h2⟩
theorem FreshRow.nl {w w' : World} {n m : Nat} {v : Value} {W : Int} {ws : List (BitVec 64)} (h : FreshRow w n v W ws) (e : Nl m w w') : FreshRow w' n v W ws := by
  obtain ⟨p, cap, h1, h⟩ := h; exact ⟨p, cap, h1, h.nl e⟩
theorem FreshRow.shuts {w w' : World} {n m : Nat} {v : Value} {W : Int} {ws : List (BitVec 64)} (h : FreshRow w n v W ws) (e : Shuts m w w') : FreshRow w' n v W ws := by
  obtain ⟨p, cap, h1, h⟩ := h; exact ⟨p, cap, h1, h.shuts e⟩
theorem row0_fresh (w : World) (n : Nat) : FreshRow w n row0 0 [] := fresh0 w n
theorem FreshRow.shape {w : World} {n : Nat} {v : Value} {W : Int} {ws : List (BitVec 64)} (h : FreshRow w n v W ws) : ∃ p cap, v = .agg #[.int .i64 W, .slice p ws.length cap] := by
  obtain ⟨p, cap, h1, _⟩ := h; exact ⟨p, cap, h1⟩

/-! ### Set, Clear -/
theorem c_bits_Set {w : World} {v : Value} {W : Int} {ws : List (BitVec 64)} {p1 : Option Addr} {cap1 : Nat} {ls : List Int} {K : Value → World → Prop}
    (hr : RowV w v W ws) (hl : Sl w p1 (ls.map (Value.int .i64))) (hlen : ls.length < 9223372036854775807)
    (h1 : ¬ (May W ws ∧ AllIn W ls) → ∀ w', Ext w w' → K (.tuple #[row0, err 2]) w')
    (h2 : May W ws → AllIn W ls → ∀ v' w', Ext w w' → FreshRow w' w.heap.size v' W (turnAll (fun x y => x ||| y) ws ls) → K (.tuple #[v', err 0]) w') :
    oCall Tryd.prog Tryd.n_bits_Set #[v, .slice p1 ls.length cap1] w K := by
  refine Tryd.ok_bits_Set ?_
  unfold Tryd.F_bits_Set
  have hr0 := hr
  obtain ⟨p, cap, rfl, hS, hp, hcap⟩ := hr
  refine w_box fun b1 w1 hb1 e1 s1 B1 => ?_
  refine Tryd.al_Row fun b2 w2 hb2 e2 s2 B2 => ?_
  have B1 := B1.ext e2
  have E2 := e1.trans e2
  refine Tryd.ldB_Row B1 rfl ?_
  refine c_bits_turn (hr0.ext E2) (hl.ext E2) t_Set hlen (fun hn w3 e3 => ?_) (fun hm hg v3 w3 e3 hf => ?_)
  · have B2 := B2.ext e3
    (repeat (first | refine s_p ?_ | refine s_c (by omega) ?_))
    refine Tryd.stB_Row B2 rfl rfl (by simp [Value.oneCell']) fun w4 x4 s4 B4 => ?_
    refine Tryd.ce_Row B4 rfl ?_
    exact h1 hn _ ((E2.trans e3).but x4 (by intro k hk; have := e1.size; omega))
  · have B2 := B2.ext e3
    obtain ⟨p3, cap3, rfl⟩ := hf.shape
    (repeat (first | refine s_p ?_ | refine s_c (by omega) ?_))
    refine Tryd.stB_Row B2 rfl rfl (by simp [Value.oneCell']) fun w4 x4 s4 B4 => ?_
    refine Tryd.ce_Row B4 rfl ?_
    exact h2 hm hg _ _ ((E2.trans e3).but x4 (by intro k hk; have := e1.size; omega)) ((hf.but x4 (by intro g h1 h2; omega)).mono E2.size)
theorem c_bits_Clear {w : World} {v : Value} {W : Int} {ws : List (BitVec 64)} {p1 : Option Addr} {cap1 : Nat} {ls : List Int} {K : Value → World → Prop}
    (hr : RowV w v W ws) (hl : Sl w p1 (ls.map (Value.int .i64))) (hlen : ls.length < 9223372036854775807)
    (h1 : ¬ (May W ws ∧ AllIn W ls) → ∀ w', Ext w w' → K (.tuple #[row0, err 2]) w')
    (h2 : May W ws → AllIn W ls → ∀ v' w', Ext w w' → FreshRow w' w.heap.size v' W (turnAll (fun x y => x &&& ~~~ y) ws ls) → K (.tuple #[v', err 0]) w') :
    oCall Tryd.prog Tryd.n_bits_Clear #[v, .slice p1 ls.length cap1] w K := by
  refine Tryd.ok_bits_Clear ?_
  unfold Tryd.F_bits_Clear
  have hr0 := hr
  obtain ⟨p, cap, rfl, hS, hp, hcap⟩ := hr
  refine w_box fun b1 w1 hb1 e1 s1 B1 => ?_
  refine Tryd.al_Row fun b2 w2 hb2 e2 s2 B2 => ?_
  have B1 := B1.ext e2
  have E2 := e1.trans e2
  refine Tryd.ldB_Row B1 rfl ?_
  refine c_bits_turn (hr0.ext E2) (hl.ext E2) t_Clear hlen (fun hn w3 e3 => ?_) (fun hm hg v3 w3 e3 hf => ?_)
  · have B2 := B2.ext e3
    (repeat (first | refine s_p ?_ | refine s_c (by omega) ?_))
    refine Tryd.stB_Row B2 rfl rfl (by simp [Value.oneCell']) fun w4 x4 s4 B4 => ?_
    refine Tryd.ce_Row B4 rfl ?_
    exact h1 hn _ ((E2.trans e3).but x4 (by intro k hk; have := e1.size; omega))
  · have B2 := B2.ext e3
    obtain ⟨p3, cap3, rfl⟩ := hf.shape
    (repeat (first | refine s_p ?_ | refine s_c (by omega) ?_))
    refine Tryd.stB_Row B2 rfl rfl (by simp [Value.oneCell']) fun w4 x4 s4 B4 => ?_
    refine Tryd.ce_Row B4 rfl ?_
    exact h2 hm hg _ _ ((E2.trans e3).but x4 (by intro k hk; have := e1.size; omega)) ((hf.but x4 (by intro g h1 h2; omega)).mono E2.size)

/-! ### Two rows, word by word -/
theorem c_bits_both {w : World} {va vb fv : Value} {W W2 : Int} {ws vs : List (BitVec 64)} {g : BitVec 64 → BitVec 64 → BitVec 64} {K : Value → World → Prop}
    (hr : RowV w va W ws) (hq : RowV w vb W2 vs) (hf : Turns fv g)
    (h1 : ¬ (May W ws ∧ May W2 vs ∧ W = W2) → ∀ w', Ext w w' → K (.tuple #[row0, err 2]) w')
    (h2 : May W ws → May W2 vs → W = W2 → ∀ v' w', Ext w w' → FreshRow w' w.heap.size v' W (List.zipWith g ws vs) → K (.tuple #[v', err 0]) w') :
    oCall Tryd.prog Tryd.n_bits_both #[va, vb, fv] w K := by
  refine Tryd.ok_bits_both ?_
  unfold Tryd.F_bits_both
  have hr0 := hr; have hq0 := hq
  obtain ⟨p, cap, rfl, hS, hp, hcap⟩ := hr
  obtain ⟨p', cap', rfl, hS', hp', hcap'⟩ := hq
  refine w_box fun b3 w1 hb3 e1 s1 B3 => ?_
  refine w_box fun b4 w2 hb4 e2 s2 B4 => ?_
  refine Tryd.al_Row fun b6 w3 hb6 e3 s3 B6 => ?_
  have B4 := B4.ext e3; have B3 := (B3.ext e2).ext e3
  have E3 := (e1.trans e2).trans e3
  refine Tryd.ldB_Row B3 rfl ?_
  refine c_bits_May (hr0.ext E3) fun w4 e4 => ?_
  have B3 := B3.ext e4; have B4 := B4.ext e4; have B6 := B6.ext e4
  have E4 := E3.trans e4
  have bad : ∀ w4, Ext w w4 → Blk w4 b6 [.int .i64 0, .slice none 0 0] Tryd.t_Row → ¬ (May W ws ∧ May W2 vs ∧ W = W2) → opP Tryd.prog (Instr.build Tryd.t_Row #[]) fun t26 => opU Tryd.prog w4 (Instr.storeAt Tryd.t_Row (.pointer (some ⟨b6, 0, none⟩)) t26) fun w14 =>
      opQ Tryd.prog w14 (cellSem Tryd.t_Row (.pointer (some ⟨b6, 0, none⟩))) fun r15 => K (.tuple #[r15, (Value.int .i64 2)]) w14 := fun w4 E4 B6 hn => by
    refine p_build (cs := #[.int .i64 0, .slice none 0 0]) (by kernel_rfl) ?_
    refine Tryd.stB_Row B6 rfl rfl (by simp [Value.oneCell']) fun w6 x6 s6 B6 => ?_
    refine Tryd.ce_Row B6 rfl ?_
    exact h1 hn _ (E4.but x6 (by intro k hk; have := e1.size; have := e2.size; omega))
  (first | refine s_p ?_ | refine s_c (by omega) ?_)
  refine j_orB (fun hm => ?_) (fun hm => ?_)
  · refine j_orB (fun _ => ?_) (fun hn => by cases hn)
    refine c_T (bad _ E4 B6 (fun hn => by rw [mayB_true hn.1] at hm; cases hm))
  have hm : May W ws := by simpa [mayB] using hm
  intro K2 hK2
  refine Tryd.ldB_Row B4 rfl ?_
  refine c_bits_May (hq0.ext E4) fun w5 e5 => ?_
  have B3 := B3.ext e5; have B4 := B4.ext e5; have B6 := B6.ext e5
  have E5 := E4.trans e5
  (first | refine s_p ?_ | refine s_c (by omega) ?_)
  refine hK2 _ _ ?_; clear hK2 K2
  refine j_orB (fun hm' => ?_) (fun hm' => ?_)
  · refine c_T (bad _ E5 B6 (fun hn => by rw [mayB_true hn.2.1] at hm'; cases hm'))
  have hm' : May W2 vs := by simpa [mayB] using hm'
  intro K3 hK3
  (first | refine s_p ?_ | refine s_c (by omega) ?_); refine Tryd.ldB_int B3 rfl ?_; (first | refine s_p ?_ | refine s_c (by omega) ?_); refine Tryd.ldB_int B4 rfl ?_; (first | refine s_p ?_ | refine s_c (by omega) ?_)
  refine hK3 _ _ ?_; clear hK3 K3
  refine c_if (fun hw => bad _ E5 B6 (fun hn => hw hn.2.2)) (fun hw => ?_)
  have hw : W = W2 := by omega
  subst hw
  have hlen : ws.length = vs.length := by have := hm.2.2.1; have := hm'.2.2.1; omega
  refine Tryd.ldB_Row B3 rfl ?_
  refine c_bits_Own (hr0.ext E5) (fun hn => absurd hm hn) (fun _ v6 w6 e6 hf6 => ?_)
  obtain ⟨p6, cap6, rfl, hw6⟩ := hf6
  have B4 := B4.ext e6; have B6 := B6.ext e6
  (repeat (first | refine s_p ?_ | refine s_c (by omega) ?_))
  refine Tryd.al_Row fun b8 w7 hb8 e7 s7 B8 => ?_
  have B4 := B4.ext e7; have B6 := B6.ext e7
  have hg8 : ∀ g, p6 = some ⟨g, 0, none⟩ → ws ≠ [] → g < b8 := by
    intro g hg hne
    rcases hw6.2.2 with h | ⟨b, c, h1, _, h3, _⟩
    · exact absurd h hne
    · rw [hg] at h1; cases h1; have := h3.lt; omega
  have hw7 := hw6.ext e7
  have hsz := E5.size; have hsz6 := e6.size; have hsz4 := e4.size; have hsz5 := e5.size
  refine Tryd.stB_Row B8 rfl rfl (by simp [Value.oneCell']) fun w8 x8 s8 B8 => ?_
  have B4 := B4.but x8 (by omega)
  have B6 := B6.but x8 (by omega)
  have hw8 : Words w8 w5.heap.size p6 cap6 ws := by
    rcases hw7.2.2 with h | ⟨b, c, q1, q2, q3, q4⟩
    · exact ⟨hw7.1, hw7.2.1, .inl h⟩
    · by_cases hne : ws = []
      · exact ⟨hw7.1, hw7.2.1, .inl hne⟩
      · exact ⟨hw7.1, hw7.2.1, .inr ⟨b, c, q1, q2, q3.but x8 (by have := hg8 b q1 hne; omega), q4⟩⟩
  have E8 : Ext w w8 := ((E5.trans e6).trans e7).but x8 (by intro k hk; omega)
  (first | refine s_p ?_ | refine s_c (by omega) ?_)
  refine Tryd.ldB_S_uint64 B8 rfl ?_
  (first | refine s_p ?_ | refine s_c (by omega) ?_)
  refine l_intro (ι := Nat) (fun i => [.int .i64 i])
    (fun i w' => i ≤ ws.length ∧ Ext w w' ∧ Blk w' b4 [.int .i64 W, .slice p' vs.length cap'] Tryd.t_Row ∧ Blk w' b6 [.int .i64 0, .slice none 0 0] Tryd.t_Row ∧
      Blk w' b8 [.int .i64 W, .slice p6 ws.length cap6] Tryd.t_Row ∧ Words w' w5.heap.size p6 cap6 (List.zipWith g (ws.take i) (vs.take i) ++ ws.drop i))
    (fun i => ws.length - i) 0 rfl ⟨Nat.zero_le _, E8, B4, B6, B8, by simpa using hw8⟩ ?_
  rintro i d w' ⟨hi, E, B4, B6, B8, hw⟩ K9 hK9
  simp only [List.getD_cons_zero]
  have hM := hm.2.2.1
  have hW := hm.2.1
  (first | refine s_p ?_ | refine s_c (by omega) ?_)
  refine c_if (fun hlt => ?_) (fun hge => ?_)
  · have hlt : i < ws.length := by omega
    have hlv : i < vs.length := by omega
    have hidx : i < (List.zipWith g (ws.take i) (vs.take i) ++ ws.drop i).length := by simp; omega
    obtain ⟨bw, cw, rfl, hbw, Bw, hcw, hset⟩ := hw.get hidx
    have hval : (List.zipWith g (ws.take i) (vs.take i) ++ ws.drop i)[i] = ws[i] := by
      rw [List.getElem_append_right (by simp; omega)]
      simp only [List.length_zipWith, List.length_take, List.getElem_drop]
      congr 1; omega
    rw [hval] at hcw
    obtain ⟨bv, ov, rfl, hcv⟩ := (hS'.ext (E.trans (Ext.drew _))).at (i := i) (by simpa using hlv)
    (first | refine s_p ?_ | refine s_c (by omega) ?_); refine Tryd.ldB_S_uint64 B8 rfl ?_; (first | refine s_p ?_ | refine s_c (by omega) ?_)
    (first | refine s_p ?_ | refine s_c (by omega) ?_); refine Tryd.ldB_S_uint64 B4 rfl ?_; (first | refine s_p ?_ | refine s_c (by omega) ?_)
    refine Tryd.ld_uint64 (by simpa using hcv) ?_
    have hne : ws ≠ [] := by intro h0; rw [h0] at hlt; simp at hlt
    have hb8 := hg8 bw rfl hne
    rw [show 0 + ((i : Int)).toNat = i by omega]
    refine hf w'.drew bw _ cw _ _ _ _ Bw hcw fun _ w9 x9 s9 Bw9 => ?_
    (first | refine s_p ?_ | refine s_c (by omega) ?_)
    refine hK9 (i + 1) w9 ⟨hlt, (E.trans (Ext.drew _)).but x9 (by intro k hk; omega), Blk.but (w := w'.drew) B4 x9 (by omega), Blk.but (w := w'.drew) B6 x9 (by omega), Blk.but (w := w'.drew) B8 x9 (by omega), ?_⟩ (by omega)
    have hx := hset w9 _ Bw9
    have hlist : (List.zipWith g (ws.take i) (vs.take i) ++ ws.drop i).set i (g ws[i] vs[i]) = List.zipWith g (ws.take (i + 1)) (vs.take (i + 1)) ++ ws.drop (i + 1) := by
      rw [List.set_append_right _ _ (by simp; omega)]
      rw [List.take_succ_eq_append_getElem hlt, List.take_succ_eq_append_getElem hlv, List.zipWith_append (by simp; omega), List.append_assoc]
      congr 1
      rw [List.drop_eq_getElem_cons hlt]
      have : i - (List.zipWith g (ws.take i) (vs.take i)).length = 0 := by simp; omega
      rw [this]; rfl
    rw [← hlist]; exact hx
  · have hi' : i = ws.length := by omega
    subst hi'
    rw [List.take_length, hlen, List.take_length, ← hlen, List.drop_length, List.append_nil] at hw
    refine Tryd.ldB_Row B8 rfl ?_
    refine Tryd.stB_Row B6 rfl rfl (by simp [Value.oneCell']) fun w9 x9 s9 B6 => ?_
    refine Tryd.ce_Row B6 rfl ?_
    refine h2 hm hm' rfl _ _ (E.but x9 (by intro k hk; have := e1.size; have := e2.size; omega)) ⟨p6, cap6, ?_, (hw.but x9 (by intro g hg hn hlt; omega)).mono E5.size⟩
    rw [List.length_zipWith, ← hlen, Nat.min_self]
theorem c_bits_Or {w : World} {va vb : Value} {W W2 : Int} {ws vs : List (BitVec 64)} {K : Value → World → Prop}
    (hr : RowV w va W ws) (hq : RowV w vb W2 vs)
    (h1 : ¬ (May W ws ∧ May W2 vs ∧ W = W2) → ∀ w', Ext w w' → K (.tuple #[row0, err 2]) w')
    (h2 : May W ws → May W2 vs → W = W2 → ∀ v' w', Ext w w' → FreshRow w' w.heap.size v' W (List.zipWith (fun x y => x ||| y) ws vs) → K (.tuple #[v', err 0]) w') :
    oCall Tryd.prog Tryd.n_bits_Or #[va, vb] w K := by
  refine Tryd.ok_bits_Or ?_
  unfold Tryd.F_bits_Or
  have hr0 := hr; have hq0 := hq
  obtain ⟨p, cap, rfl, hS, hp, hcap⟩ := hr
  obtain ⟨p', cap', rfl, hS', hp', hcap'⟩ := hq
  refine w_box fun b3 w1 hb3 e1 s1 B3 => ?_
  refine w_box fun b4 w2 hb4 e2 s2 B4 => ?_
  refine Tryd.al_Row fun b6 w3 hb6 e3 s3 B6 => ?_
  have B4 := B4.ext e3; have B3 := (B3.ext e2).ext e3
  have E3 := (e1.trans e2).trans e3
  refine Tryd.ldB_Row B3 rfl ?_
  refine Tryd.ldB_Row B4 rfl ?_
  refine c_bits_both (hr0.ext E3) (hq0.ext E3) t_Or (fun hn w4 e4 => ?_) (fun hm hm' hw v4 w4 e4 hf => ?_)
  · have B6 := B6.ext e4
    (repeat (first | refine s_p ?_ | refine s_c (by omega) ?_))
    refine Tryd.stB_Row B6 rfl rfl (by simp [Value.oneCell']) fun w5 x5 s5 B5 => ?_
    refine Tryd.ce_Row B5 rfl ?_
    exact h1 hn _ ((E3.trans e4).but x5 (by intro k hk; have := e1.size; have := e2.size; omega))
  · have B6 := B6.ext e4
    obtain ⟨p3, cap3, rfl⟩ := hf.shape
    (repeat (first | refine s_p ?_ | refine s_c (by omega) ?_))
    refine Tryd.stB_Row B6 rfl rfl (by simp [Value.oneCell']) fun w5 x5 s5 B5 => ?_
    refine Tryd.ce_Row B5 rfl ?_
    exact h2 hm hm' hw _ _ ((E3.trans e4).but x5 (by intro k hk; have := e1.size; have := e2.size; omega)) ((hf.but x5 (by intro g h1 h2; omega)).mono E3.size)
theorem c_bits_And {w : World} {va vb : Value} {W W2 : Int} {ws vs : List (BitVec 64)} {K : Value → World → Prop}
    (hr : RowV w va W ws) (hq : RowV w vb W2 vs)
    (h1 : ¬ (May W ws ∧ May W2 vs ∧ W = W2) → ∀ w', Ext w w' → K (.tuple #[row0, err 2]) w')
    (h2 : May W ws → May W2 vs → W = W2 → ∀ v' w', Ext w w' → FreshRow w' w.heap.size v' W (List.zipWith (fun x y => x &&& y) ws vs) → K (.tuple #[v', err 0]) w') :
    oCall Tryd.prog Tryd.n_bits_And #[va, vb] w K := by
  refine Tryd.ok_bits_And ?_
  unfold Tryd.F_bits_And
  have hr0 := hr; have hq0 := hq
  obtain ⟨p, cap, rfl, hS, hp, hcap⟩ := hr
  obtain ⟨p', cap', rfl, hS', hp', hcap'⟩ := hq
  refine w_box fun b3 w1 hb3 e1 s1 B3 => ?_
  refine w_box fun b4 w2 hb4 e2 s2 B4 => ?_
  refine Tryd.al_Row fun b6 w3 hb6 e3 s3 B6 => ?_
  have B4 := B4.ext e3; have B3 := (B3.ext e2).ext e3
  have E3 := (e1.trans e2).trans e3
  refine Tryd.ldB_Row B3 rfl ?_
  refine Tryd.ldB_Row B4 rfl ?_
  refine c_bits_both (hr0.ext E3) (hq0.ext E3) t_And (fun hn w4 e4 => ?_) (fun hm hm' hw v4 w4 e4 hf => ?_)
  · have B6 := B6.ext e4
    (repeat (first | refine s_p ?_ | refine s_c (by omega) ?_))
    refine Tryd.stB_Row B6 rfl rfl (by simp [Value.oneCell']) fun w5 x5 s5 B5 => ?_
    refine Tryd.ce_Row B5 rfl ?_
    exact h1 hn _ ((E3.trans e4).but x5 (by intro k hk; have := e1.size; have := e2.size; omega))
  · have B6 := B6.ext e4
    obtain ⟨p3, cap3, rfl⟩ := hf.shape
    (repeat (first | refine s_p ?_ | refine s_c (by omega) ?_))
    refine Tryd.stB_Row B6 rfl rfl (by simp [Value.oneCell']) fun w5 x5 s5 B5 => ?_
    refine Tryd.ce_Row B5 rfl ?_
    exact h2 hm hm' hw _ _ ((E3.trans e4).but x5 (by intro k hk; have := e1.size; have := e2.size; omega)) ((hf.but x5 (by intro g h1 h2; omega)).mono E3.size)
theorem c_bits_Less {w : World} {va vb : Value} {W W2 : Int} {ws vs : List (BitVec 64)} {K : Value → World → Prop}
    (hr : RowV w va W ws) (hq : RowV w vb W2 vs)
    (h1 : ¬ (May W ws ∧ May W2 vs ∧ W = W2) → ∀ w', Ext w w' → K (.tuple #[row0, err 2]) w')
    (h2 : May W ws → May W2 vs → W = W2 → ∀ v' w', Ext w w' → FreshRow w' w.heap.size v' W (List.zipWith (fun x y => x &&& ~~~ y) ws vs) → K (.tuple #[v', err 0]) w') :
    oCall Tryd.prog Tryd.n_bits_Less #[va, vb] w K := by
  refine Tryd.ok_bits_Less ?_
  unfold Tryd.F_bits_Less
  have hr0 := hr; have hq0 := hq
  obtain ⟨p, cap, rfl, hS, hp, hcap⟩ := hr
  obtain ⟨p', cap', rfl, hS', hp', hcap'⟩ := hq
  refine w_box fun b3 w1 hb3 e1 s1 B3 => ?_
  refine w_box fun b4 w2 hb4 e2 s2 B4 => ?_
  refine Tryd.al_Row fun b6 w3 hb6 e3 s3 B6 => ?_
  have B4 := B4.ext e3; have B3 := (B3.ext e2).ext e3
  have E3 := (e1.trans e2).trans e3
  refine Tryd.ldB_Row B3 rfl ?_
  refine Tryd.ldB_Row B4 rfl ?_
  refine c_bits_both (hr0.ext E3) (hq0.ext E3) t_Less (fun hn w4 e4 => ?_) (fun hm hm' hw v4 w4 e4 hf => ?_)
  · have B6 := B6.ext e4
    (repeat (first | refine s_p ?_ | refine s_c (by omega) ?_))
    refine Tryd.stB_Row B6 rfl rfl (by simp [Value.oneCell']) fun w5 x5 s5 B5 => ?_
    refine Tryd.ce_Row B5 rfl ?_
    exact h1 hn _ ((E3.trans e4).but x5 (by intro k hk; have := e1.size; have := e2.size; omega))
  · have B6 := B6.ext e4
    obtain ⟨p3, cap3, rfl⟩ := hf.shape
    (repeat (first | refine s_p ?_ | refine s_c (by omega) ?_))
    refine Tryd.stB_Row B6 rfl rfl (by simp [Value.oneCell']) fun w5 x5 s5 B5 => ?_
    refine Tryd.ce_Row B5 rfl ?_
    exact h2 hm hm' hw _ _ ((E3.trans e4).but x5 (by intro k hk; have := e1.size; have := e2.size; omega)) ((hf.but x5 (by intro g h1 h2; omega)).mono E3.size)

/-! ### The library's own reckonings -/
theorem c_OnesCount64 {w : World} {x : BitVec 64} {K : Value → World → Prop} (h : K (.int .i64 ((wbits x).length : Int)) w) : oCall Tryd.prog Tryd.n_math_bits_OnesCount64 #[u64 x] w K := by
  refine Tryd.ok_math_bits_OnesCount64 ?_
  unfold Tryd.F_math_bits_OnesCount64
  refine p_shrN 1 rfl (p_and64 (p_and64 (p_add64 ?_)))
  refine p_shrN 2 rfl (p_and64 (p_and64 (p_add64 ?_)))
  refine p_shrN 4 rfl (p_add64 (p_and64 ?_))
  refine p_shrN 8 rfl (p_add64 ?_)
  refine p_shrN 16 rfl (p_add64 ?_)
  refine p_shrN 32 rfl (p_add64 ?_)
  have hs := swar_nat x
  refine p_cvt64 (n := ((swar x).toNat : Int)) (k1 := .u64) (by kernel_rfl) (by kernel_rfl) (by omega) ?_
  refine p_mask (x := ((swar x).toNat : Int)) (m := 127) (e := 7) rfl (by decide) (by omega) (by omega) ?_
  have hw := swar_wbits x
  rw [show ((swar x).toNat : Int) % ((2 ^ 7 : Nat) : Int) = ((wbits x).length : Int) by rw [← hw]; omega]
  exact h
/-- the library's table -/
def Tab (w : World) : Prop := ∀ j, j < 64 → w.cell? ⟨0, j, none⟩ = some (.int .u8 (Lib.deBruijn64tab.getD j 0 : Nat))
theorem Tab.ext {w w' : World} (h : Tab w) (e : Ext w w') : Tab w' := fun j hj => cell_ext (h j hj) e
theorem Tab.but {w w' : World} {S : Nat → Prop} (h : Tab w) (e : ExtBut S w w') (h0 : ¬ S 0) : Tab w' := fun j hj => cell_but (h j hj) e h0
theorem Tab.nl {w w' : World} {n : Nat} (h : Tab w) (e : Nl n w w') : Tab w' := fun j hj => cell_nl (h j hj) e
theorem Tab.shuts {w w' : World} {n : Nat} (h : Tab w) (e : Shuts n w w') : Tab w' := fun j hj => cell_shuts (h j hj) e
theorem c_TrailingZeros64 {w : World} {x : BitVec 64} {t : Nat} {K : Value → World → Prop} (hT : Tab w) (hx : x ≠ 0#64) (ht : t < 64) (ha : (x &&& -x).toNat = 2 ^ t) (h : K (.int .i64 t) w) :
    oCall Tryd.prog Tryd.n_math_bits_TrailingZeros64 #[u64 x] w K := by
  refine Tryd.ok_math_bits_TrailingZeros64 ?_
  unfold Tryd.F_math_bits_TrailingZeros64
  refine p_eql ?_
  refine c_if (fun h0 => absurd (BitVec.eq_of_toNat_eq (by have : (0#64).toNat = 0 := rfl; omega)) hx) (fun h0 => ?_)
  refine p_neg64 (p_and64 ?_)
  rw [of64]
  refine p_mulN 285870213051353865 rfl ?_
  refine p_shrN 58 rfl ?_
  have hta := table_at ht ha
  generalize ((x &&& -x) * BitVec.ofNat 64 285870213051353865) >>> 58 = z at hta ⊢
  refine p_indexA (l := 64) (e := Tryd.t_uint8) (n := 1) (by kernel_rfl) (by omega) (by omega) ?_
  have hc := hT _ hta.1
  rw [hta.2] at hc
  refine Tryd.ld_uint8 (v := .int .u8 (t : Int)) (by rw [show 0 + Int.toNat (z.toNat : Int) * 1 = z.toNat by omega]; exact hc) ?_
  refine p_cvt64 (k1 := .u8) (by kernel_rfl) (by kernel_rfl) (by omega) h
end Go.Proofs
