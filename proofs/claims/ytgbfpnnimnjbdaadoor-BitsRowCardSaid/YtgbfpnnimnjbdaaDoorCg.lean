/-
  Contracts: the document's answer for layer 1 (package loanwordref01).
-/
import Derived.Test.YtgbfpnnimnjbdaaDoorFb
import Derived.Test.YtgbfpnnimnjbdaaDoorCf
namespace Go.Proofs
open Go.Sh Go.BM
set_option maxRecDepth 100000

theorem own_ext {w w' : World} {base : Nat} {e : TypeId} {size : Nat} {v : Value} {n : Nat} {xs : List Value} (h : w.ownsRow base e size v n xs) (E : Ext w w') : w'.ownsRow base e size v n xs := by
  rcases h with ⟨hl, h⟩
  refine ⟨hl, h.imp id ?_⟩
  rintro ⟨g, cap, cur, h1, h2, h3, h4⟩
  exact ⟨g, cap, cur, h1, h2, (E.block g (Array.getElem?_eq_some_iff.1 h3).1).trans h3, h4⟩
theorem own_words {w : World} {base : Nat} {v : Value} {n : Nat} {ws : List (BitVec 64)} (h : w.ownsRow base Tryd.t_uint64 1 v n (ws.map u64)) (hn : n = ws.length) : ∃ p cap, v = .slice p ws.length cap ∧ Words w base p cap ws := by
  subst hn
  rcases own_blk h with ⟨rfl, h1, h2⟩ | ⟨g, cap, c, rfl, hg, B, h1, h2, h3, h4⟩
  · have : ws = [] := by simpa using h2
    subst this
    exact ⟨none, 0, rfl, fun _ => rfl, Nat.le_refl _, .inl rfl⟩
  · exact ⟨_, _, rfl, by simp, h1, .inr ⟨g, c, rfl, hg, B, by simpa using h4⟩⟩
theorem own_sl {w : World} {base : Nat} {e : TypeId} {v : Value} {n : Nat} {xs : List Value} (h : w.ownsRow base e 1 v n xs) : ∃ p cap, v = .slice p n cap ∧ Sl w p xs ∧ (p = none → cap = 0) ∧ n ≤ cap ∧ xs.length = n := by
  have hl := h.1
  rcases own_blk h with ⟨rfl, rfl, rfl⟩ | ⟨g, cap, c, rfl, hg, B, h1, h2, h3, h4⟩
  · exact ⟨none, 0, rfl, Sl.nil _ _, fun _ => rfl, Nat.le_refl _, rfl⟩
  · refine ⟨_, _, rfl, ?_, by simp, h1, by simpa using hl⟩
    rw [← h4]; exact (Sl.blk B).take _
theorem own_sl' {w : World} {base : Nat} {e : TypeId} {n : Nat} {xs : List Value} {p : Option Addr} {m cap : Nat} (h : w.ownsRow base e 1 (.slice p m cap) n xs) : m = n ∧ Sl w p xs ∧ (p = none → cap = 0) ∧ n ≤ cap := by
  obtain ⟨p', cap', h1, h2, h3, h4, _⟩ := own_sl h
  cases h1; exact ⟨rfl, h2, h3, h4⟩

theorem c_ref01_Is {w : World} {v : Value} {W : Int} {ws : List (BitVec 64)} {k : Nat} {K : Value → World → Prop} (hr : RowV w v W ws) (hk : k < 64 * ws.length) (hs : ws.length < 100000)
    (h : ∀ w', Ext w w' → K (.bool (bit ws k)) w') : oCall Tryd.prog Tryd.n_ref01_Is #[v, .int .i64 (k : Int)] w K := by
  refine Tryd.ok_ref01_Is ?_
  unfold Tryd.F_ref01_Is
  obtain ⟨p, cap, rfl, hS, hp, hcap⟩ := hr
  refine w_box fun b w1 hb e1 s1 B => ?_
  have hlt : k / 64 < ws.length := by omega
  have hlt' : k / 64 < (ws.map u64).length := by rw [List.length_map]; omega
  obtain ⟨b', off, rfl, hc⟩ := hS.at hlt'
  have hc := cell_ext hc e1
  (first | refine s_p ?_ | refine s_c (by omega) ?_); refine Tryd.ldB_S_uint64 B rfl ?_; (first | refine s_p ?_ | refine s_c (by omega) ?_); (first | refine s_p ?_ | refine s_c (by omega) ?_)
  rw [show ((k : Int) / 64).toNat = k / 64 by omega]
  refine Tryd.ld_uint64 hc ?_
  rw [List.getElem_map]
  (repeat (first | refine s_p ?_ | refine s_c (by omega) ?_))
  have hq := shr_and_one ws[k / 64] (k % 64)
  have hb' : bit ws k = ws[k / 64].getLsbD (k % 64) := by simp [bit, List.getD_eq_getElem?_getD, hlt]
  have := h _ e1
  rw [show bit ws k = decide ((((ws[k / 64] >>> (k % 64)) &&& BitVec.ofInt 64 1).toNat : Int) = 1) by simp only [hb', hq]; simp] at this
  rw [show ((k : Int) % 64).toNat = k % 64 by omega]
  exact this

theorem c_ref01_May {w : World} {v : Value} {W : Int} {ws : List (BitVec 64)} {K : Value → World → Prop} (hr : RowV w v W ws)
    (h : ∀ w', Ext w w' → K (.bool (mayB W ws)) w') : oCall Tryd.prog Tryd.n_ref01_May #[v] w K := by
  obtain ⟨p, cap, rfl, hS, hp, hcap⟩ := hr
  refine Tryd.ok_ref01_May ?_
  unfold Tryd.F_ref01_May
  refine w_box fun b w1 hb e1 s1 B => ?_
  (first | refine s_p ?_ | refine s_c (by omega) ?_); refine Tryd.ldB_int B rfl ?_; (repeat (first | refine s_p ?_ | refine s_c (by omega) ?_))
  refine j_or (fun h0 => ?_) (fun h0 => ?_)
  · refine j_orB (fun _ => ?_) (fun hn => by cases hn)
    refine c_T ?_
    rw [mayB_false (fun hm => by have := hm.1; omega)] at h
    exact h _ e1
  intro K2 hK2
  (first | refine s_p ?_ | refine s_c (by omega) ?_); refine Tryd.ldB_int B rfl ?_; (repeat (first | refine s_p ?_ | refine s_c (by omega) ?_))
  refine hK2 _ _ ?_; clear hK2 K2
  refine j_or (fun h1 => ?_) (fun h1 => ?_)
  · refine c_T ?_
    rw [mayB_false (fun hm => by have := hm.2.1; omega)] at h
    exact h _ e1
  intro K3 hK3
  (first | refine s_p ?_ | refine s_c (by omega) ?_); refine Tryd.ldB_S_uint64 B rfl ?_; (repeat (first | refine s_p ?_ | refine s_c (by omega) ?_)); refine Tryd.ldB_int B rfl ?_; (repeat (first | refine s_p ?_ | refine s_c (by omega) ?_))
  refine hK3 _ _ ?_; clear hK3 K3
  refine c_if (fun h2 => ?_) (fun h2 => ?_)
  · rw [mayB_false (fun hm => by have := hm.2.2.1; omega)] at h
    exact h _ e1
  have h2 : (ws.length : Int) = (W + 63) / 64 := by omega
  (first | refine s_p ?_ | refine s_c (by omega) ?_); refine Tryd.ldB_int B rfl ?_
  refine l_intro (ι := Nat) (fun i => [.int .i64 i])
    (fun i w' => W.toNat ≤ i ∧ i ≤ 64 * ws.length ∧ w' = w1 ∧ ∀ j, W.toNat ≤ j → j < i → bit ws j = false)
    (fun i => 64 * ws.length - i) W.toNat (by rw [Int.toNat_of_nonneg (by omega)]) ⟨Nat.le_refl _, by omega, rfl, fun j h1 h2 => by omega⟩ ?_
  rintro i d w' ⟨hi, hi2, rfl, hgood⟩ K4 hK4
  simp only [List.getD_cons_zero]
  (first | refine s_p ?_ | refine s_c (by omega) ?_); refine Tryd.ldB_S_uint64 B rfl ?_; (repeat (first | refine s_p ?_ | refine s_c (by omega) ?_))
  refine c_if (fun hlt => ?_) (fun hge => ?_)
  · have hlt : i < 64 * ws.length := by omega
    have hlt' : i / 64 < (ws.map u64).length := by rw [List.length_map]; omega
    obtain ⟨b', off, rfl, hc⟩ := hS.at hlt'
    have hc := cell_ext hc e1
    (first | refine s_p ?_ | refine s_c (by omega) ?_); refine Tryd.ldB_S_uint64 B rfl ?_; (first | refine s_p ?_ | refine s_c (by omega) ?_); (first | refine s_p ?_ | refine s_c (by omega) ?_)
    rw [show ((i : Int) / 64).toNat = i / 64 by omega]
    refine Tryd.ld_uint64 hc ?_
    rw [List.getElem_map]
    (repeat (first | refine s_p ?_ | refine s_c (by omega) ?_))
    have hlt2 : i / 64 < ws.length := by omega
    have hq := shr_and_one ws[i / 64] (i % 64)
    have hb' : bit ws i = ws[i / 64].getLsbD (i % 64) := by simp [bit, List.getD_eq_getElem?_getD, hlt2]
    rw [← hb'] at hq
    rw [show ((i : Int) % 64).toNat = i % 64 by omega]
    refine c_if (fun hz => ?_) (fun hz => ?_)
    · rw [mayB_false (fun hm => by have := hm.2.2.2 i (by omega) hlt; rw [hq.1 hz] at this; cases this)] at h
      exact h _ e1
    · (first | refine s_p ?_ | refine s_c (by omega) ?_)
      refine hK4 (i + 1) _ ⟨by omega, hlt, rfl, fun j h1 h2 => ?_⟩ (by omega)
      rcases Nat.lt_or_ge j i with h3 | h3
      · exact hgood j h1 h3
      · rw [show j = i by omega]
        cases hb : bit ws i with
        | false => rfl
        | true => exact absurd (hq.2 hb) hz
  · rw [mayB_true ⟨by omega, by omega, h2, fun k h3 h4 => hgood k (by omega) (by omega)⟩] at h
    exact h _ e1

theorem c_ref01_None {w : World} {W : Int} {K : Value → World → Prop} (h0 : 0 ≤ W) (h1 : W ≤ 1032)
    (h : ∀ v w', Ext w w' → FreshRow w' w.heap.size v W (zeros W) → K v w') : oCall Tryd.prog Tryd.n_ref01_None #[.int .i64 W] w K := by
  refine Tryd.ok_ref01_None ?_
  unfold Tryd.F_ref01_None
  refine Tryd.al_Row fun b w1 hb e1 s1 B => ?_
  (repeat (first | refine s_p ?_ | refine s_c (by omega) ?_))
  refine Tryd.mk_S_uint64 (by omega) (by omega) fun b2 w2 hb2 e2 s2 B2 => ?_
  refine p_build (cs := #[.int .i64 W, .slice (some ⟨b2, 0, none⟩) ((W + 63) / 64).toNat ((W + 63) / 64).toNat]) (by kernel_rfl) ?_
  refine Tryd.stB_Row (B.ext e2) rfl rfl (by simp [Value.oneCell']) fun w3 x3 s3 B3 => ?_
  refine Tryd.ce_Row B3 rfl ?_
  have hl : ((W + 63) / 64).toNat = (zeros W).length := by simp only [zeros, List.length_replicate]; omega
  refine h _ _ ((e1.trans e2).but x3 (by intro k hk; omega)) ⟨some ⟨b2, 0, none⟩, _, by rw [hl], by simp, Nat.le_refl _, .inr ⟨b2, _, rfl, by have := e1.size; omega, B2.but x3 (by omega), ?_⟩⟩
  rw [hl, List.take_of_length_le (by simp), zeros, List.map_replicate, List.length_replicate]
  rfl

theorem c_ref01_New {w : World} {W : Int} {K : Value → World → Prop}
    (h1 : ¬ (0 ≤ W ∧ W ≤ 1032) → ∀ w', Ext w w' → K (.tuple #[row0, .int .i64 2]) w')
    (h2 : 0 ≤ W → W ≤ 1032 → ∀ v w', Ext w w' → FreshRow w' w.heap.size v W (zeros W) → K (.tuple #[v, .int .i64 0]) w') : oCall Tryd.prog Tryd.n_ref01_New #[.int .i64 W] w K := by
  refine Tryd.ok_ref01_New ?_
  unfold Tryd.F_ref01_New
  refine Tryd.al_Row fun b w1 hb e1 s1 B => ?_
  have bad : ¬ (0 ≤ W ∧ W ≤ 1032) → opP Tryd.prog (Instr.build Tryd.t_Row #[]) fun t10 => opU Tryd.prog w1 (Instr.storeAt Tryd.t_Row (.pointer (some ⟨b, 0, none⟩)) t10) fun w6 =>
      opQ Tryd.prog w6 (cellSem Tryd.t_Row (.pointer (some ⟨b, 0, none⟩))) fun r7 => K (.tuple #[r7, (Value.int .i64 2)]) w6 := fun hn => by
    refine p_build (cs := #[.int .i64 0, .slice none 0 0]) (by kernel_rfl) ?_
    refine Tryd.stB_Row B rfl rfl (by simp [Value.oneCell']) fun w2 x2 s2 B2 => ?_
    refine Tryd.ce_Row B2 rfl ?_
    exact h1 hn _ (e1.but x2 (by intro k hk; omega))
  (repeat (first | refine s_p ?_ | refine s_c (by omega) ?_))
  refine j_or (fun h0 => c_T (bad (by omega))) (fun h0 => ?_)
  intro K2 hK2
  (repeat (first | refine s_p ?_ | refine s_c (by omega) ?_))
  refine hK2 _ _ ?_; clear hK2 K2
  refine c_if (fun h3 => bad (by omega)) (fun h3 => ?_)
  refine c_ref01_None (by omega) (by omega) fun v w2 e2 hf => ?_
  have B := B.ext e2
  obtain ⟨p, cap, rfl⟩ := hf.shape
  refine Tryd.stB_Row B rfl rfl (by simp [Value.oneCell']) fun w3 x3 s3 B3 => ?_
  refine Tryd.ce_Row B3 rfl ?_
  exact h2 (by omega) (by omega) _ _ ((e1.trans e2).but x3 (by intro k hk; omega)) ((hf.butT B (by decide) x3).mono e1.size)

theorem c_ref01_Own {w : World} {v : Value} {W : Int} {ws : List (BitVec 64)} {K : Value → World → Prop} (hr : RowV w v W ws) (hw : ws.length * 8 ≤ 140737488355328)
    (h : ∀ v' w', Ext w w' → FreshRow w' w.heap.size v' W ws → K v' w') : oCall Tryd.prog Tryd.n_ref01_Own #[v] w K := by
  refine Tryd.ok_ref01_Own ?_
  unfold Tryd.F_ref01_Own
  obtain ⟨p, cap, rfl, hS, hp, hcap⟩ := hr
  refine w_box fun b1 w1 hb1 e1 s1 B1 => ?_
  refine Tryd.al_Row fun b2 w2 hb2 e2 s2 B2 => ?_
  have B1 := B1.ext e2
  (first | refine s_p ?_ | refine s_c (by omega) ?_); refine Tryd.ldB_int B1 rfl ?_
  refine p_build (cs := #[.int .i64 W, .slice none 0 0]) (by kernel_rfl) ?_
  refine Tryd.al_Row fun b3 w3 hb3 e3 s3 B3 => ?_
  have B1 := B1.ext e3; have B2 := B2.ext e3
  refine Tryd.stB_Row B3 rfl rfl (by simp [Value.oneCell']) fun w4 x4 s4 B3 => ?_
  have B1 := B1.but x4 (by omega); have B2 := B2.but x4 (by omega)
  have E4 : Ext w w4 := ((e1.trans e2).trans e3).but x4 (by intro k hk; omega)
  (first | refine s_p ?_ | refine s_c (by omega) ?_); refine Tryd.ldB_S_uint64 B3 rfl ?_; (first | refine s_p ?_ | refine s_c (by omega) ?_); refine Tryd.ldB_S_uint64 B1 rfl ?_
  refine Tryd.ap_S_uint64 (World.ownsRow_nil w4 w.heap.size Tryd.t_uint64 1) (hS.ext E4) (by simp) hp (cells1 ws) (by omega) (by have := E4.size; omega) fun v5 w5 hown5 x5 hblk hnil => ?_
  have e5 : Ext w4 w5 := (Ext.refl w4).but x5 (by intro k hk; simp [Value.ownBlock] at hk)
  obtain ⟨p5, cap5, rfl, hw5⟩ := own_words (ws := ws) (by simpa using hown5) (by omega)
  have B3 := B3.ext e5; have B2 := B2.ext e5
  have E5 := E4.trans e5
  (first | refine s_p ?_ | refine s_c (by omega) ?_)
  refine Tryd.st_S_uint64 B3 (by simp) rfl fun w6 x6 s6 B3' => ?_
  have hw6 := hw5.butT B3 (by decide) x6
  have B2 := B2.but x6 (by omega)
  refine Tryd.ldB_Row B3' rfl ?_
  refine Tryd.stB_Row B2 rfl rfl (by simp [Value.oneCell']) fun w7 x7 s7 B2' => ?_
  refine Tryd.ce_Row B2' rfl ?_
  exact h _ _ ((E5.but x6 (by intro k hk; omega)).but x7 (by intro k hk; omega)) ⟨p5, cap5, rfl, hw6.butT B2 (by decide) x7⟩

theorem c_ref01_Get {w : World} {v : Value} {W k : Int} {ws : List (BitVec 64)} {K : Value → World → Prop} (hr : RowV w v W ws)
    (h : ∀ w', Ext w w' → K (.bool (mayB W ws && getB W k ws)) w') : oCall Tryd.prog Tryd.n_ref01_Get #[v, .int .i64 k] w K := by
  refine Tryd.ok_ref01_Get ?_
  unfold Tryd.F_ref01_Get
  have hr0 := hr
  obtain ⟨p, cap, rfl, hS, hp, hcap⟩ := hr
  refine w_box fun b w1 hb e1 s1 B => ?_
  refine Tryd.ldB_Row B rfl ?_
  refine c_ref01_May (hr0.ext e1) fun w2 e2 => ?_
  have B := B.ext e2
  have E : Ext w w2 := e1.trans e2
  refine j_andB (fun hm => ?_) (fun hm => ?_)
  · refine j_andB (fun _ => ?_) (fun hn => by cases hn)
    refine j_andB (fun _ => ?_) (fun hn => by cases hn)
    have := h _ E; rw [hm] at this; exact this
  rw [hm] at h
  intro K3 hK3; (repeat (first | refine s_p ?_ | refine s_c (by omega) ?_)); refine hK3 _ _ ?_; clear hK3 K3
  refine j_and (fun h0 => ?_) (fun h0 => ?_)
  · refine j_andB (fun _ => ?_) (fun hn => by cases hn)
    have := h _ E; rw [show getB W k ws = false by simp [getB]; omega] at this; exact this
  intro K3 hK3; (first | refine s_p ?_ | refine s_c (by omega) ?_); refine Tryd.ldB_int B rfl ?_; (repeat (first | refine s_p ?_ | refine s_c (by omega) ?_)); refine hK3 _ _ ?_; clear hK3 K3
  refine j_and (fun h1 => ?_) (fun h1 => ?_)
  · have := h _ E; rw [show getB W k ws = false by simp [getB]; omega] at this; exact this
  intro K3 hK3
  refine Tryd.ldB_Row B rfl ?_
  have hM := mayB_iff.1 hm
  have hl := hM.2.2.1; have hl2 := hM.2.1
  have hk : k = ((k.toNat : Nat) : Int) := by omega
  rw [hk]
  refine c_ref01_Is (hr0.ext E) (by omega) (by omega) fun w3 e3 => ?_
  refine hK3 _ _ ?_
  have := h _ (E.trans e3)
  rw [show getB W k ws = bit ws k.toNat by simp [getB]; omega] at this
  exact this

theorem c_ref01_Both {w : World} {va vb : Value} {W W2 : Int} {ws vs : List (BitVec 64)} {K : Value → World → Prop} (hr : RowV w va W ws) (hq : RowV w vb W2 vs)
    (h : ∀ w', Ext w w' → K (.bool (mayB W ws && (mayB W2 vs && decide (W = W2)))) w') : oCall Tryd.prog Tryd.n_ref01_Both #[va, vb] w K := by
  refine Tryd.ok_ref01_Both ?_
  unfold Tryd.F_ref01_Both
  have hr0 := hr; have hq0 := hq
  obtain ⟨p, cap, rfl, hS, hp, hcap⟩ := hr
  obtain ⟨p', cap', rfl, hS', hp', hcap'⟩ := hq
  refine w_box fun b1 w1 hb1 e1 s1 B1 => ?_
  refine w_box fun b2 w2 hb2 e2 s2 B2 => ?_
  have B1 := B1.ext e2
  have E2 := e1.trans e2
  refine Tryd.ldB_Row B1 rfl ?_
  refine c_ref01_May (hr0.ext E2) fun w3 e3 => ?_
  have B1 := B1.ext e3; have B2 := B2.ext e3
  have E3 := E2.trans e3
  refine j_andB (fun hm => ?_) (fun hm => ?_)
  · refine j_andB (fun _ => ?_) (fun hn => by cases hn)
    have := h _ E3; rw [hm] at this; exact this
  rw [hm] at h
  intro K3 hK3
  refine Tryd.ldB_Row B2 rfl ?_
  refine c_ref01_May (hq0.ext E3) fun w4 e4 => ?_
  have B1 := B1.ext e4; have B2 := B2.ext e4
  have E4 := E3.trans e4
  refine hK3 _ _ ?_; clear hK3 K3
  refine j_andB (fun hm2 => ?_) (fun hm2 => ?_)
  · have := h _ E4; rw [hm2] at this; exact this
  rw [hm2] at h
  intro K3 hK3
  (first | refine s_p ?_ | refine s_c (by omega) ?_); refine Tryd.ldB_int B1 rfl ?_; (first | refine s_p ?_ | refine s_c (by omega) ?_); refine Tryd.ldB_int B2 rfl ?_; (first | refine s_p ?_ | refine s_c (by omega) ?_)
  refine hK3 _ _ ?_
  exact h _ E4

theorem lack_some {W : Int} {ws vs : List (BitVec 64)} {k : Nat} (hk : k < W.toNat) (hb : (bit vs k && !bit ws k) = true) (h : ∀ j, j < k → (bit vs j && !bit ws j) = false) :
    ∃ l, lackL W ws vs = k :: l := by
  have hf := find_range hk hb h
  rw [← List.head?_filter] at hf
  cases hl : lackL W ws vs with
  | nil => rw [lackL] at hl; rw [hl] at hf; cases hf
  | cons x l => rw [lackL] at hl; rw [hl] at hf; cases hf; exact ⟨l, rfl⟩
theorem lack_none {W : Int} {ws vs : List (BitVec 64)} (h : ∀ j, j < W.toNat → (bit vs j && !bit ws j) = false) : lackL W ws vs = [] := by
  rw [lackL, List.filter_eq_nil_iff]; intro k hk; rw [h k (List.mem_range.1 hk)]; simp
theorem c_ref01_First {w : World} {va vb : Value} {W : Int} {ws vs : List (BitVec 64)} {K : Value → World → Prop} (hr : RowV w va W ws) (hq : RowV w vb W vs) (hm : May W ws) (hm' : May W vs)
    (h : ∀ w', Ext w w' → K (.tuple #[.int .i64 (((lackL W ws vs).headD 0 : Nat) : Int), .bool (!(lackL W ws vs).isEmpty)]) w') : oCall Tryd.prog Tryd.n_ref01_First #[va, vb] w K := by
  refine Tryd.ok_ref01_First ?_
  unfold Tryd.F_ref01_First
  have hr0 := hr; have hq0 := hq
  obtain ⟨p, cap, rfl, hS, hp, hcap⟩ := hr
  obtain ⟨p', cap', rfl, hS', hp', hcap'⟩ := hq
  have l1 := hm.2.2.1; have l2 := hm'.2.2.1; have l3 := hm.2.1; have l4 := hm.1
  refine w_box fun b1 w1 hb1 e1 s1 B1 => ?_
  refine w_box fun b2 w2 hb2 e2 s2 B2 => ?_
  have B1 := B1.ext e2
  have E2 := e1.trans e2
  refine l_intro (ι := Nat) (fun i => [.int .i64 i]) (fun i w' => i ≤ W.toNat ∧ Ext w w' ∧ Blk w' b1 [.int .i64 W, .slice p ws.length cap] Tryd.t_Row ∧ Blk w' b2 [.int .i64 W, .slice p' vs.length cap'] Tryd.t_Row ∧
      ∀ j, j < i → (bit vs j && !bit ws j) = false)
    (fun i => W.toNat - i) 0 rfl ⟨Nat.zero_le _, E2, B1, B2, fun j hj => absurd hj (Nat.not_lt_zero _)⟩ ?_
  rintro i d w3 ⟨hi, E3, B1, B2, hno⟩ K3 hK3
  simp only [List.getD_cons_zero]
  (first | refine s_p ?_ | refine s_c (by omega) ?_); refine Tryd.ldB_int B1 rfl ?_; (first | refine s_p ?_ | refine s_c (by omega) ?_)
  refine c_if (fun hlt => ?_) (fun hge => ?_)
  · have hlt : i < W.toNat := by omega
    refine Tryd.ldB_Row B2 rfl ?_
    refine c_ref01_Is (hq0.ext E3) (by omega) (by omega) fun w4 e4 => ?_
    have B1 := B1.ext e4; have B2 := B2.ext e4
    have E4 := E3.trans e4
    have next : ∀ w5, Ext w w5 → Blk w5 b1 [.int .i64 W, .slice p ws.length cap] Tryd.t_Row → Blk w5 b2 [.int .i64 W, .slice p' vs.length cap'] Tryd.t_Row → (bit vs i && !bit ws i) = false → K3 [.int .i64 ((i + 1 : Nat) : Int)] w5 :=
      fun w5 E5 B1 B2 hb => hK3 (i + 1) w5 ⟨hlt, E5, B1, B2, fun j hj => by
        rcases Nat.lt_or_ge j i with h1 | h1
        · exact hno j h1
        · rw [show j = i by omega]; exact hb⟩ (by omega)
    refine j_andB (fun hb => ?_) (fun hb => ?_)
    · refine c_F ?_
      (first | refine s_p ?_ | refine s_c (by omega) ?_)
      exact next _ E4 B1 B2 (by rw [hb]; rfl)
    · intro K4 hK4
      refine Tryd.ldB_Row B1 rfl ?_
      refine c_ref01_Is (hr0.ext E4) (by omega) (by omega) fun w5 e5 => ?_
      have B1 := B1.ext e5; have B2 := B2.ext e5
      have E5 := E4.trans e5
      (first | refine s_p ?_ | refine s_c (by omega) ?_)
      refine hK4 _ _ ?_
      refine c_b (fun hb2 => ?_) (fun hb2 => ?_)
      · have hk := h _ E5
        obtain ⟨l, hl⟩ := lack_some hlt (by rw [hb, hb2]; rfl) hno
        rw [hl] at hk; exact hk
      · (first | refine s_p ?_ | refine s_c (by omega) ?_)
        exact next _ E5 B1 B2 (by rw [hb2, Bool.and_false])
  · have hk := h _ E3
    rw [lack_none (fun j hj => hno j (by omega))] at hk; exact hk

theorem c_ref01_Same {w : World} {va vb : Value} {W W2 : Int} {ws vs : List (BitVec 64)} {K : Value → World → Prop} (hr : RowV w va W ws) (hq : RowV w vb W2 vs) (hlen : ws.length < 9223372036854775807)
    (h : ∀ w', Ext w w' → K (.bool (decide (W = W2 ∧ ws = vs))) w') : oCall Tryd.prog Tryd.n_ref01_Same #[va, vb] w K := by
  refine Tryd.ok_ref01_Same ?_
  unfold Tryd.F_ref01_Same
  obtain ⟨p, cap, rfl, hS, hp, hcap⟩ := hr
  obtain ⟨p', cap', rfl, hS', hp', hcap'⟩ := hq
  refine w_box fun b1 w1 hb1 e1 s1 B1 => ?_
  refine w_box fun b2 w2 hb2 e2 s2 B2 => ?_
  have B1 := B1.ext e2
  have E2 := e1.trans e2
  (first | refine s_p ?_ | refine s_c (by omega) ?_); refine Tryd.ldB_int B1 rfl ?_; (first | refine s_p ?_ | refine s_c (by omega) ?_); refine Tryd.ldB_int B2 rfl ?_; (first | refine s_p ?_ | refine s_c (by omega) ?_)
  refine j_or (fun hn => ?_) (fun hn => ?_)
  · refine c_T ?_
    have := h _ E2; rw [decide_eq_false (fun hh => hn hh.1)] at this; exact this
  have hW : W = W2 := by omega
  intro K3 hK3
  (first | refine s_p ?_ | refine s_c (by omega) ?_); refine Tryd.ldB_S_uint64 B1 rfl ?_; (first | refine s_p ?_ | refine s_c (by omega) ?_); (first | refine s_p ?_ | refine s_c (by omega) ?_); refine Tryd.ldB_S_uint64 B2 rfl ?_; (first | refine s_p ?_ | refine s_c (by omega) ?_); (first | refine s_p ?_ | refine s_c (by omega) ?_)
  refine hK3 _ _ ?_; clear hK3 K3
  refine c_if (fun hn2 => ?_) (fun hn2 => ?_)
  · have := h _ E2; rw [decide_eq_false (fun hh => hn2 (by rw [hh.2]))] at this; exact this
  have hl : ws.length = vs.length := by omega
  refine l_intro (ι := Nat) (fun i => [.int .i64 i]) (fun i w' => i ≤ ws.length ∧ Ext w w' ∧ Blk w' b1 [.int .i64 W, .slice p ws.length cap] Tryd.t_Row ∧ Blk w' b2 [.int .i64 W2, .slice p' vs.length cap'] Tryd.t_Row ∧
      ∀ j (h1 : j < ws.length) (h2 : j < vs.length), j < i → ws[j] = vs[j])
    (fun i => ws.length - i) 0 rfl ⟨Nat.zero_le _, E2, B1, B2, fun j _ _ hj => absurd hj (Nat.not_lt_zero _)⟩ ?_
  rintro i d w3 ⟨hi, E3, B1, B2, hno⟩ K3 hK3
  simp only [List.getD_cons_zero]
  (first | refine s_p ?_ | refine s_c (by omega) ?_); refine Tryd.ldB_S_uint64 B1 rfl ?_; (first | refine s_p ?_ | refine s_c (by omega) ?_); (first | refine s_p ?_ | refine s_c (by omega) ?_)
  refine c_if (fun hlt => ?_) (fun hge => ?_)
  · have hlt : i < ws.length := by omega
    have hlt2 : i < vs.length := by omega
    have E4 := E3.trans (Ext.drew w3)
    have B1 := B1.ext (Ext.drew w3); have B2 := B2.ext (Ext.drew w3)
    obtain ⟨ba, oa, rfl, hca⟩ := (hS.ext E4).at (i := i) (by simpa using hlt)
    obtain ⟨bb, ob, rfl, hcb⟩ := (hS'.ext E4).at (i := i) (by simpa using hlt2)
    (first | refine s_p ?_ | refine s_c (by omega) ?_); refine Tryd.ldB_S_uint64 B1 rfl ?_; (first | refine s_p ?_ | refine s_c (by omega) ?_)
    refine Tryd.ld_uint64 (v := u64 ws[i]) (by simpa using hca) ?_
    (first | refine s_p ?_ | refine s_c (by omega) ?_); refine Tryd.ldB_S_uint64 B2 rfl ?_; (first | refine s_p ?_ | refine s_c (by omega) ?_)
    refine Tryd.ld_uint64 (v := u64 vs[i]) (by simpa using hcb) ?_
    (first | refine s_p ?_ | refine s_c (by omega) ?_)
    refine c_if (fun hne => ?_) (fun hne => ?_)
    · have := h _ E4; rw [decide_eq_false (fun hh => hne (by have := hh.2; subst this; rfl))] at this; exact this
    · (first | refine s_p ?_ | refine s_c (by omega) ?_)
      have heq : ws[i] = vs[i] := BitVec.eq_of_toNat_eq (by omega)
      refine hK3 (i + 1) _ ⟨hlt, E4, B1, B2, fun j h1 h2 hj => ?_⟩ (by omega)
      rcases Nat.lt_or_ge j i with h3 | h3
      · exact hno j h1 h2 h3
      · have : j = i := by omega
        subst this; exact heq
  · have := h _ E3
    rw [decide_eq_true ⟨hW, List.ext_getElem hl fun j h1 h2 => hno j h1 h2 (by omega)⟩] at this; exact this

theorem c_ref01_Bytes {w : World} {v : Value} {W : Int} {ws : List (BitVec 64)} {K : Value → World → Prop} (hr : RowV w v W ws) (hm : May W ws)
    (h : ∀ w', Ext w w' → K (.string (strOf (bytesOf W ws))) w') : oCall Tryd.prog Tryd.n_ref01_Bytes #[v] w K := by
  refine Tryd.ok_ref01_Bytes ?_
  unfold Tryd.F_ref01_Bytes
  have hr0 := hr
  obtain ⟨p, cap, rfl, hS, hp, hcap⟩ := hr
  have l1 := hm.2.2.1; have l3 := hm.2.1; have l4 := hm.1
  refine w_box fun b1 w1 hb1 e1 s1 B1 => ?_
  (first | refine s_p ?_ | refine s_c (by omega) ?_); refine Tryd.ldB_int B1 rfl ?_; (first | refine s_p ?_ | refine s_c (by omega) ?_); (first | refine s_p ?_ | refine s_c (by omega) ?_)
  refine Tryd.mk_S_uint8 (by omega) (by omega) fun bS w2 hbS e2 s2 BS => ?_
  have hrep : List.replicate ((W + 7) / 8).toNat (Value.int .u8 0) = (noB W).map u8 := by
    rw [noB, List.map_replicate, show ((W + 7) / 8).toNat = (W.toNat + 7) / 8 by omega]; rfl
  rw [hrep] at BS
  have B1 := B1.ext e2
  have E2 := e1.trans e2
  refine l_intro (ι := Nat) (fun i => [.int .i64 i]) (fun i w' => i ≤ W.toNat ∧ Ext w w' ∧ Blk w' b1 [.int .i64 W, .slice p ws.length cap] Tryd.t_Row ∧
      Blk w' bS ((putAll (noB W) ((List.range i).filter (bit ws))).map u8) Tryd.t_uint8)
    (fun i => W.toNat - i) 0 rfl ⟨Nat.zero_le _, E2, B1, BS⟩ ?_
  rintro i d w3 ⟨hi, E3, B1, BS⟩ K3 hK3
  simp only [List.getD_cons_zero]
  (first | refine s_p ?_ | refine s_c (by omega) ?_); refine Tryd.ldB_int B1 rfl ?_; (first | refine s_p ?_ | refine s_c (by omega) ?_)
  refine c_if (fun hlt => ?_) (fun hge => ?_)
  · have hlt : i < W.toNat := by omega
    intro K4 hK4
    refine Tryd.ldB_Row B1 rfl ?_
    refine c_ref01_Is (hr0.ext E3) (by omega) (by omega) fun w4 e4 => ?_
    have B1 := B1.ext e4; have BS := BS.ext e4
    have E4 := E3.trans e4
    have hstep : ∀ b : Bool, bit ws i = b → (List.range (i + 1)).filter (bit ws) = (List.range i).filter (bit ws) ++ (if b then [i] else []) := fun b hb => by
      rw [List.range_succ, List.filter_append, List.filter_cons, hb]; rfl
    refine c_b (fun hb => ?_) (fun hb => ?_)
    · (first | refine s_p ?_ | refine s_c (by omega) ?_); (first | refine s_p ?_ | refine s_c (by omega) ?_)
      have hlenb : (putAll (noB W) ((List.range i).filter (bit ws))).length = (W.toNat + 7) / 8 := by rw [putAll_length, noB, List.length_replicate]
      have hidx : i / 8 < (putAll (noB W) ((List.range i).filter (bit ws))).length := by rw [hlenb]; omega
      (first | refine s_p ?_ | refine s_c (by omega) ?_)
      rw [show 0 + ((i : Int) / 8).toNat = i / 8 by omega]
      refine Tryd.ldB_uint8 (Blk.ext BS (Ext.drew w4)) (getD_map8 hidx) ?_
      (first | refine s_p ?_ | refine s_c (by omega) ?_)
      refine p_bit8 (by omega) (p_or88 ?_)
      (first | refine s_p ?_ | refine s_c (by omega) ?_)
      rw [show 0 + ((i : Int) / 8).toNat = i / 8 by omega, show ((i : Int) % 8).toNat = i % 8 by omega]
      refine Tryd.st_uint8 (Blk.ext BS (Ext.drew w4)) (by simpa using hidx) rfl fun w5 x5 s5 BS' => ?_
      have x5' : ExtBut (fun b => b = bS) w4 w5 := ExtBut.trans (ExtBut.of_ext (Ext.drew w4)) x5
      refine hK4 _ _ (fun _ => ?_)
      (first | refine s_p ?_ | refine s_c (by omega) ?_)
      refine hK3 (i + 1) _ ⟨hlt, E4.but x5' (by intro k hk; omega), B1.but x5' (by omega), ?_⟩ (by omega)
      rw [hstep true hb, if_pos rfl, putAll_snoc, putB, List.map_set]
      exact BS'
    · refine hK4 _ _ (fun _ => ?_)
      (first | refine s_p ?_ | refine s_c (by omega) ?_)
      refine hK3 (i + 1) _ ⟨hlt, E4, B1, ?_⟩ (by omega)
      rw [hstep false hb, if_neg (by decide), List.append_nil]; exact BS
  · have hi' : i = W.toNat := by omega
    subst hi'
    rw [← bitsOf_may hm] at BS
    have hlen : ((W + 7) / 8).toNat = ((bytesOf W ws).map UInt8.ofBitVec).length := by rw [List.length_map, bytesOf_length]; omega
    rw [hlen]
    refine q_str (by kernel_rfl) (by kernel_rfl) (by rw [u8_map]; exact Sl.blk BS) ?_
    exact h _ E3
end Go.Proofs
