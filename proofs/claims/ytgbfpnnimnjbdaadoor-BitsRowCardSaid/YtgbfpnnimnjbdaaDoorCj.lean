/-
  Contracts: what the laws of layer 1 lean on (package loanwordlaw01): awake, lent, held, kept, same.
-/
import Derived.Test.YtgbfpnnimnjbdaaDoorFc
import Derived.Test.YtgbfpnnimnjbdaaDoorCi
import Derived.Test.YtgbfpnnimnjbdaaDoorShD
namespace Go.Proofs
open Go.Sh Go.BM
set_option maxRecDepth 100000

/-- a row laid into a new cell -/
theorem k_putRow {w : World} {K : Value → World → Prop} {v : Value} {W : Int} {p : Option Addr} {n cap : Nat} (hv : v = .agg #[.int .i64 W, .slice p n cap])
    (h : ∀ b w', b = w.heap.size → Ext w w' → w'.heap.size = w.heap.size + 1 → Blk w' b [.int .i64 W, .slice p n cap] Tryd.t_Row → K (.pointer (some ⟨b, 0, none⟩)) w') :
    opW Tryd.prog w (Instr.alloc Tryd.t_Row true (.tuple #[])) fun t w2 => opU Tryd.prog w2 (Instr.storeAt Tryd.t_Row t v) fun w3 => K t w3 := by
  subst hv
  refine Tryd.al_Row fun b w1 hb e1 s1 B => ?_
  refine Tryd.stB_Row B rfl rfl (by simp [Value.oneCell']) fun w2 x2 s2 B2 => ?_
  exact h b w2 hb (e1.but x2 (by intro k hk; omega)) (by omega) B2

theorem may70 : May 70 (turnAll (fun x y => x ||| y) (zeros 70) [0, 69]) :=
  may_turnAll (h := fun a b => a || b) or_bit (by simp) _ _ (may_zeros (by decide) (by decide)) (by intro k hk; simp at hk; omega)
theorem bytes70 : strOf (bytesOf 70 (turnAll (fun x y => x ||| y) (zeros 70) [0, 69])) = ⟨#[128, 0, 0, 0, 0, 0, 0, 0, 4]⟩ := by kernel_rfl
theorem count70 : (bitsOf (turnAll (fun x y => x ||| y) (zeros 70) [0, 69])).length = 2 := by kernel_rfl
theorem read70 : readR 10 ⟨#[128, 65]⟩ = .inl 1 := by kernel_rfl

theorem c_law01_awake {w : World} {K : Value → World → Prop} (hT : Tab w) (h : ∀ w', Ext w w' → K (.bool true) w') : oCall Tryd.prog Tryd.n_law01_awake #[] w K := by
  refine Tryd.ok_law01_awake ?_
  unfold Tryd.F_law01_awake
  refine c_bits_New (fun hn => absurd ⟨by decide, by decide⟩ hn) fun _ _ v1 w1 e1 hf1 => ?_
  have hf1' := hf1
  obtain ⟨p1, cap1, rfl, hw1⟩ := hf1
  (repeat (first | refine s_p ?_ | refine s_c (by omega) ?_))
  refine k_putRow rfl fun b1 w2 hb1 e2 s2 B1 => ?_
  have E2 := e1.trans e2
  refine Tryd.ldB_Row B1 rfl ?_
  refine w_lit (e := Tryd.t_int) (cs := [.int .i64 0, .int .i64 69]) (by kernel_rfl) fun bl w3 hbl e3 s3 Bl => ?_
  have E3 := E2.trans e3
  refine c_bits_Set (ls := [0, 69]) (((hf1'.ext e2).ext e3).row) (Sl.blk Bl) (by decide) (fun hn => absurd ⟨may_zeros (by decide) (by decide), by intro k hk; simp at hk; omega⟩ hn) fun _ _ v4 w4 e4 hf4 => ?_
  have hf4' := hf4
  obtain ⟨p4, cap4, rfl, hw4⟩ := hf4
  have E4 := E3.trans e4
  have B1 := (B1.ext e3).ext e4
  (repeat (first | refine s_p ?_ | refine s_c (by omega) ?_))
  refine k_putRow rfl fun b5 w5 hb5 e5 s5 B5 => ?_
  have B1 := B1.ext e5
  have E5 := E4.trans e5
  have hr5 := (hf4'.ext e5).row
  refine Tryd.ldB_Row B5 rfl ?_
  refine c_bits_Bytes (hT.ext E5) hr5 (fun hn => absurd may70 hn) fun _ w6 e6 => ?_
  have B1 := B1.ext e6; have B5 := B5.ext e6
  have E6 := E5.trans e6
  (repeat (first | refine s_p ?_ | refine s_c (by omega) ?_))
  refine c_bits_Read (fun hn => absurd ⟨by decide, by decide⟩ hn) (fun _ _ i hi w7 e7 => ?_) (fun _ _ ws hws => by rw [read70] at hws; cases hws) (by decide)
  rw [read70] at hi; cases hi
  have B1 := B1.ext e7; have B5 := B5.ext e7
  have E7 := E6.trans e7
  (repeat (first | refine s_p ?_ | refine s_c (by omega) ?_))
  refine k_putRow rfl fun b8 w8 hb8 e8 s8 B8 => ?_
  have B1 := B1.ext e8; have B5 := B5.ext e8
  have E8 := E7.trans e8
  have hr8 := ((hr5.ext e6).ext e7).ext e8
  refine p_eql ?_
  refine j_and (fun hn => absurd rfl hn) (fun _ => ?_)
  intro K2 hK2; refine p_eql ?_; refine hK2 _ _ ?_; clear hK2 K2
  refine j_and (fun hn => absurd rfl hn) (fun _ => ?_)
  intro K2 hK2; refine p_eql ?_; refine hK2 _ _ ?_; clear hK2 K2
  refine j_and (fun hn => absurd rfl hn) (fun _ => ?_)
  intro K2 hK2; (first | refine s_p ?_ | refine s_c (by omega) ?_); refine Tryd.ldB_S_uint64 B1 rfl ?_; (first | refine s_p ?_ | refine s_c (by omega) ?_); refine p_eql ?_; refine hK2 _ _ ?_; clear hK2 K2
  refine j_and (fun hn => absurd (by decide) hn) (fun _ => ?_)
  intro K2 hK2
  refine Tryd.ldB_Row B5 rfl ?_
  refine c_bits_Count hr8 fun w9 e9 => ?_
  have B5 := B5.ext e9
  have E9 := E8.trans e9
  have hr9 := hr8.ext e9
  refine p_eql ?_; refine hK2 _ _ ?_; clear hK2 K2
  refine j_and (fun hn => absurd (by rw [eachL_may may70, count70]; rfl) hn) (fun _ => ?_)
  intro K2 hK2
  refine p_eqlSame bytes70 ?_
  refine hK2 _ _ ?_; clear hK2 K2
  refine j_andB (fun hn => by cases hn) (fun _ => ?_)
  intro K2 hK2; refine p_eql ?_; refine hK2 _ _ ?_; clear hK2 K2
  refine j_and (fun hn => absurd rfl hn) (fun _ => ?_)
  intro K2 hK2; refine p_eql ?_; refine hK2 _ _ ?_; clear hK2 K2
  refine j_and (fun hn => absurd rfl hn) (fun _ => ?_)
  intro K2 hK2
  refine Tryd.ldB_Row B5 rfl ?_
  refine c_bits_May hr9 fun w10 e10 => ?_
  have B5 := B5.ext e10
  have E10 := E9.trans e10
  have hr10 := hr9.ext e10
  refine hK2 _ _ ?_; clear hK2 K2
  refine j_andB (fun hn => by rw [mayB_true may70] at hn; cases hn) (fun _ => ?_)
  intro K2 hK2
  refine Tryd.ldB_Row B5 rfl ?_
  refine c_bits_Each (hT.ext E10) hr10 fun g w11 e11 hI => ?_
  obtain ⟨⟨gf, gc, rfl⟩, _⟩ := hI
  refine q_of_p (p_neqFn (by kernel_rfl) ?_)
  refine hK2 _ _ ?_
  exact h _ (E10.trans e11)

/-! ### Rows with a mark in the spare room -/
def Lent (w : World) (n : Nat) (v : Value) (W : Int) (ws : List (BitVec 64)) : Prop :=
  ∃ g cap c, v = .agg #[.int .i64 W, .slice (some ⟨g, 0, none⟩) ws.length cap] ∧ n ≤ g ∧ Blk w g c Tryd.t_uint64 ∧ ws.length + 1 ≤ cap ∧ c.take (ws.length + 1) = (ws ++ [77#64]).map u64
theorem Lent.ext {w w' : World} {n : Nat} {v : Value} {W : Int} {ws : List (BitVec 64)} (h : Lent w n v W ws) (e : Ext w w') : Lent w' n v W ws := by
  obtain ⟨g, cap, c, h1, h2, h3, h4⟩ := h; exact ⟨g, cap, c, h1, h2, h3.ext e, h4⟩
theorem Lent.but {w w' : World} {S : Nat → Prop} {n m : Nat} {v : Value} {W : Int} {ws : List (BitVec 64)} (h : Lent w n v W ws) (e : ExtBut S w w') (hl : ∀ g cap, v = .agg #[.int .i64 W, .slice (some ⟨g, 0, none⟩) ws.length cap] → g < m) (hS : ∀ b, S b → m ≤ b) : Lent w' n v W ws := by
  obtain ⟨g, cap, c, h1, h2, h3, h4⟩ := h
  exact ⟨g, cap, c, h1, h2, h3.but e (fun hs => by have := hS _ hs; have := hl g cap h1; omega), h4⟩
theorem Lent.lt {w : World} {n : Nat} {v : Value} {W : Int} {ws : List (BitVec 64)} (h : Lent w n v W ws) : ∀ g cap, v = .agg #[.int .i64 W, .slice (some ⟨g, 0, none⟩) ws.length cap] → g < w.heap.size := by
  obtain ⟨g, cap, c, h1, h2, h3, h4⟩ := h
  intro g' cap' h'
  rw [h1] at h'
  cases h'; exact h3.lt
theorem Lent.shape {w : World} {n : Nat} {v : Value} {W : Int} {ws : List (BitVec 64)} (h : Lent w n v W ws) : ∃ p cap, v = .agg #[.int .i64 W, .slice p ws.length cap] := by
  obtain ⟨g, cap, c, h1, _⟩ := h; exact ⟨_, _, h1⟩
theorem Lent.row {w : World} {n : Nat} {v : Value} {W : Int} {ws : List (BitVec 64)} (h : Lent w n v W ws) : RowV w v W ws := by
  obtain ⟨g, cap, c, h1, h2, h3, h4, h5⟩ := h
  refine ⟨_, _, h1, ?_, by simp, by omega⟩
  have h6 : c.take ws.length = ws.map u64 := by
    have : (c.take (ws.length + 1)).take ws.length = ((ws ++ [77#64]).map u64).take ws.length := by rw [h5]
    rw [List.take_take, Nat.min_eq_left (by omega)] at this
    rw [this]; simp
  rw [← h6]; exact (Sl.blk h3).take _

theorem c_law01_lent {w : World} {v : Value} {W : Int} {ws : List (BitVec 64)} {K : Value → World → Prop} (hr : RowV w v W ws) (hlen : ws.length ≤ 4096)
    (h : ∀ v' w', Ext w w' → Lent w' w.heap.size v' W ws → K v' w') : oCall Tryd.prog Tryd.n_law01_lent #[v] w K := by
  refine Tryd.ok_law01_lent ?_
  unfold Tryd.F_law01_lent
  obtain ⟨p, cap, rfl, hS, hp, hcap⟩ := hr
  refine w_box fun b1 w1 hb1 e1 s1 B1 => ?_
  refine Tryd.al_Row fun b2 w2 hb2 e2 s2 B2 => ?_
  have B1 := B1.ext e2
  have E2 := e1.trans e2
  (first | refine s_p ?_ | refine s_c (by omega) ?_); refine Tryd.ldB_S_uint64 B1 rfl ?_
  refine Tryd.ap_S_uint64 (World.ownsRow_nil w2 w2.heap.size Tryd.t_uint64 1) (hS.ext E2) (by simp) hp (cells1 ws) (by omega) (Nat.le_refl _) fun v3 w3 hown3 x3 hblk hnil => ?_
  have e3 : Ext w2 w3 := (Ext.refl w2).but x3 (by intro k hk; simp [Value.ownBlock] at hk)
  refine w_lit (e := Tryd.t_uint64) (cs := [.int .u64 77]) (by kernel_rfl) fun b4 w4 hb4 e4 s4 B4 => ?_
  have hown4 := own_ext hown3 e4
  have hlt := hown4.lt
  have E4 := (E2.trans e3).trans e4
  refine Tryd.ap_S_uint64 hown4 (Sl.blk B4) (by simp) (by simp) (by simp [Value.oneCell']) (by omega) (by have := e3.size; have := e4.size; omega) fun v5 w5 hown5 x5 hblk5 hnil5 => ?_
  have hB2 := B2.lt
  have E5 : Ext w w5 := E4.but x5 (by intro k hk; have := hlt _ hk; omega)
  have B1 := ((B1.ext e3).ext e4).but x5 (by intro hk; have := hlt _ hk; omega)
  have B2 := ((B2.ext e3).ext e4).but x5 (by intro hk; have := hlt _ hk; omega)
  have hsz : w2.heap.size ≤ w5.heap.size := by have := e3.size; have := e4.size; have := x5.size; omega
  rcases own_blk hown5 with ⟨_, hz, _⟩ | ⟨g, cap5, c, rfl, hg, B5, hn5, hm5, hc5, ht5⟩
  · omega
  have B1 := B1.ext (Ext.drew w5); have B2 := B2.ext (Ext.drew w5); have B5 := B5.ext (Ext.drew w5)
  have E6 := E5.trans (Ext.drew w5)
  (first | refine s_p ?_ | refine s_c (by omega) ?_); refine Tryd.ldB_int B1 rfl ?_; (first | refine s_p ?_ | refine s_c (by omega) ?_); refine Tryd.ldB_S_uint64 B1 rfl ?_; (first | refine s_p ?_ | refine s_c (by omega) ?_); (first | refine s_p ?_ | refine s_c (by omega) ?_)
  refine p_build (cs := #[.int .i64 W, .slice (some ⟨g, 0, none⟩) ((ws.length : Int)).toNat cap5]) (by kernel_rfl) ?_
  refine Tryd.stB_Row B2 rfl rfl (by simp [Value.oneCell']) fun w7 x7 s7 B7 => ?_
  refine Tryd.ce_Row B7 rfl ?_
  refine h _ _ (E6.but x7 (by intro k hk; omega)) ⟨g, cap5, c, rfl, by omega, B5.but x7 (by omega), by omega, ?_⟩
  simp only [Nat.zero_add, Nat.mul_one, List.nil_append] at ht5
  rw [ht5, List.map_append]; rfl

/-- a row whose words lie in no block of S -/
def RowS (S : Nat → Prop) (w : World) (v : Value) (W : Int) (ws : List (BitVec 64)) : Prop :=
  ∃ p cap, v = .agg #[.int .i64 W, .slice p ws.length cap] ∧ Sl w p (ws.map u64) ∧ (p = none → cap = 0) ∧ ws.length ≤ cap ∧ (ws ≠ [] → ∀ b off, p = some ⟨b, off, none⟩ → ¬ S b)
theorem RowS.row {S : Nat → Prop} {w : World} {v : Value} {W : Int} {ws : List (BitVec 64)} (h : RowS S w v W ws) : RowV w v W ws := by
  obtain ⟨p, cap, h1, h2, h3, h4, _⟩ := h; exact ⟨p, cap, h1, h2, h3, h4⟩
theorem RowS.ext {S : Nat → Prop} {w w' : World} {v : Value} {W : Int} {ws : List (BitVec 64)} (h : RowS S w v W ws) (e : Ext w w') : RowS S w' v W ws := by
  obtain ⟨p, cap, h1, h2, h3⟩ := h; exact ⟨p, cap, h1, h2.ext e, h3⟩
theorem RowS.but {S : Nat → Prop} {w w' : World} {v : Value} {W : Int} {ws : List (BitVec 64)} (h : RowS S w v W ws) (e : ExtBut S w w') : RowS S w' v W ws := by
  obtain ⟨p, cap, h1, h2, h3, h4, h5⟩ := h
  refine ⟨p, cap, h1, ?_, h3, h4, h5⟩
  by_cases hw : ws = []
  · subst hw; exact Sl.nil _ _
  · exact h2.but e (h5 hw)
theorem FreshRow.rowS {S : Nat → Prop} {w : World} {n : Nat} {v : Value} {W : Int} {ws : List (BitVec 64)} (h : FreshRow w n v W ws) (hS : ∀ b, S b → b < n) : RowS S w v W ws := by
  obtain ⟨p, cap, h1, h2⟩ := h
  refine ⟨p, cap, h1, h2.sl, h2.1, h2.2.1, fun hne b off hp hs => ?_⟩
  rcases h2.2.2 with h | ⟨b', c, q1, q2, _⟩
  · exact hne h
  · rw [hp] at q1; cases q1; have := hS _ hs; omega
theorem RowV.rowS {S : Nat → Prop} {w w' : World} {v : Value} {W : Int} {ws : List (BitVec 64)} (h : RowV w v W ws) (e : Ext w w') (hS : ∀ b, S b → w.heap.size ≤ b) : RowS S w' v W ws := by
  obtain ⟨p, cap, h1, h2, h3, h4⟩ := h
  refine ⟨p, cap, h1, h2.ext e, h3, h4, fun hne b off hp hs => ?_⟩
  have hl : 0 < (ws.map u64).length := by rw [List.length_map]; exact List.length_pos_iff.2 hne
  obtain ⟨b', off', hp', hc⟩ := h2.at hl
  rw [hp] at hp'; cases hp'
  have := cell_lt hc; have := hS _ hs
  simp only at *
  omega

theorem c_law01_held {w : World} {va vb vc : Value} {W : Int} {ws : List (BitVec 64)} {n m : Nat} {K : Value → World → Prop}
    (ha : FreshRow w n va W ws) (hm : ws ≠ [] → ∀ b cap, va = .agg #[.int .i64 W, .slice (some ⟨b, 0, none⟩) ws.length cap] → b < m) (hms : m ≤ w.heap.size)
    (hb : RowS (fun b => n ≤ b ∧ b < m) w vb W ws) (hc : RowS (fun b => n ≤ b ∧ b < m) w vc W ws) (hlen : ws.length < 9223372036854775807)
    (h : ∀ w', ExtBut (fun b => n ≤ b ∧ b < m) w w' → K (.bool true) w') : oCall Tryd.prog Tryd.n_law01_held #[va, vb, vc] w K := by
  refine Tryd.ok_law01_held ?_
  unfold Tryd.F_law01_held
  have ha0 := ha; have hb0 := hb; have hc0 := hc
  obtain ⟨p, cap, rfl, hw⟩ := ha
  obtain ⟨p', cap', rfl, _⟩ := hb
  obtain ⟨p'', cap'', rfl, _⟩ := hc
  refine w_box fun b1 w1 hb1 e1 s1 B1 => ?_
  refine w_box fun b2 w2 hb2 e2 s2 B2 => ?_
  refine w_box fun b3 w3 hb3 e3 s3 B3 => ?_
  have B1 := (B1.ext e2).ext e3; have B2 := B2.ext e3
  have E3 := (e1.trans e2).trans e3
  refine Tryd.ldB_Row B1 rfl ?_
  refine Tryd.ldB_Row B3 rfl ?_
  refine c_ref01_Same ((ha0.ext E3).row) ((hc0.ext E3).row) hlen fun w4 e4 => ?_
  have B1 := B1.ext e4; have B2 := B2.ext e4; have B3 := B3.ext e4
  have E4 := E3.trans e4
  (first | refine s_p ?_ | refine s_c (by omega) ?_)
  rw [decide_eq_true ⟨rfl, rfl⟩]
  refine c_F ?_
  have hwm : ws ≠ [] → ∀ g, p = some ⟨g, 0, none⟩ → g < m := fun hne g hg => hm hne g cap (by rw [hg])
  refine l_intro (ι := Nat) (fun i => [.int .i64 i])
    (fun i w' => i ≤ ws.length ∧ ExtBut (fun b => n ≤ b ∧ b < m) w w' ∧ Blk w' b1 [.int .i64 W, .slice p ws.length cap] Tryd.t_Row ∧ Blk w' b2 [.int .i64 W, .slice p' ws.length cap'] Tryd.t_Row ∧ Blk w' b3 [.int .i64 W, .slice p'' ws.length cap''] Tryd.t_Row ∧
      ∃ us, us.length = ws.length ∧ Words w' n p cap us)
    (fun i => ws.length - i) 0 rfl ⟨Nat.zero_le _, ExtBut.of_ext E4, B1, B2, B3, ws, rfl, hw.ext E4⟩ ?_
  rintro i d w5 ⟨hi, x, B1, B2, B3, us, hus, hw⟩ K5 hK5
  simp only [List.getD_cons_zero]
  (first | refine s_p ?_ | refine s_c (by omega) ?_); refine Tryd.ldB_S_uint64 B1 rfl ?_; (first | refine s_p ?_ | refine s_c (by omega) ?_); (first | refine s_p ?_ | refine s_c (by omega) ?_)
  refine c_if (fun hlt => ?_) (fun hge => ?_)
  · have hlt : i < us.length := by omega
    have B1 := B1.ext (Ext.drew w5); have B2 := B2.ext (Ext.drew w5); have B3 := B3.ext (Ext.drew w5); have hw := hw.ext (Ext.drew w5)
    have x := x.trans (ExtBut.of_ext (Ext.drew w5))
    obtain ⟨bw, cw, rfl, hbw, Bw, hcw, hset⟩ := hw.get hlt
    have hne : ws ≠ [] := by intro h0; rw [h0] at hus; simp at hus; rw [hus] at hlt; simp at hlt
    have hbm := hwm hne bw rfl
    (first | refine s_p ?_ | refine s_c (by omega) ?_); refine Tryd.ldB_S_uint64 B1 rfl ?_; (first | refine s_p ?_ | refine s_c (by omega) ?_); refine Tryd.ldB_S_uint64 B1 rfl ?_; (first | refine s_p ?_ | refine s_c (by omega) ?_)
    rw [show 0 + ((i : Int)).toNat = i by omega]
    refine Tryd.ldB_uint64 Bw hcw ?_
    refine p_not64 ?_
    (first | refine s_p ?_ | refine s_c (by omega) ?_)
    rw [show 0 + ((i : Int)).toNat = i by omega]
    refine Tryd.st_uint64 Bw (lt_of_some hcw) rfl fun w6 x6 s6 Bw6 => ?_
    (first | refine s_p ?_ | refine s_c (by omega) ?_)
    exact hK5 (i + 1) w6 ⟨by omega, x.trans (x6.mono (by rintro k _ rfl; exact ⟨hbw, hbm⟩)), B1.but x6 (by omega), B2.but x6 (by omega), B3.but x6 (by omega), _, by rw [List.length_set]; exact hus, hset w6 _ Bw6⟩ (by omega)
  · refine Tryd.ldB_Row B2 rfl ?_
    refine Tryd.ldB_Row B3 rfl ?_
    refine c_ref01_Same ((hb0.but x).row) ((hc0.but x).row) hlen fun w6 e6 => ?_
    rw [decide_eq_true ⟨rfl, rfl⟩]
    exact h _ (x.trans (ExtBut.of_ext e6))

theorem c_law01_kept {w : World} {va vb : Value} {W : Int} {ws : List (BitVec 64)} {n : Nat} {K : Value → World → Prop} (ha : Lent w n va W ws) (hb : RowV w vb W ws) (hlen : ws.length ≤ 4096)
    (h : ∀ w', Ext w w' → K (.bool true) w') : oCall Tryd.prog Tryd.n_law01_kept #[va, vb] w K := by
  refine Tryd.ok_law01_kept ?_
  unfold Tryd.F_law01_kept
  have ha0 := ha; have hb0 := hb
  obtain ⟨g, cap, c, rfl, hg, Bg, hcap, htk⟩ := ha
  obtain ⟨p', cap', rfl, _⟩ := hb
  refine w_box fun b1 w1 hb1 e1 s1 B1 => ?_
  refine w_box fun b2 w2 hb2 e2 s2 B2 => ?_
  have B1 := (B1.ext e2).ext (Ext.drew w2); have B2 := B2.ext (Ext.drew w2)
  have E2 := (e1.trans e2).trans (Ext.drew w2)
  refine Tryd.ldB_Row B1 rfl ?_
  refine Tryd.ldB_Row B2 rfl ?_
  refine c_ref01_Same ((ha0.ext E2).row) (hb0.ext E2) (by omega) fun w3 e3 => ?_
  have B1 := B1.ext e3; have B2 := B2.ext e3
  have E3 := E2.trans e3
  have Bg := Bg.ext E3
  refine j_and (fun hn => absurd ⟨rfl, rfl⟩ hn) (fun _ => ?_)
  intro K2 hK2
  (first | refine s_p ?_ | refine s_c (by omega) ?_); refine Tryd.ldB_S_uint64 B1 rfl ?_; (first | refine s_p ?_ | refine s_c (by omega) ?_); refine Tryd.ldB_S_uint64 B2 rfl ?_; (first | refine s_p ?_ | refine s_c (by omega) ?_); (first | refine s_p ?_ | refine s_c (by omega) ?_); (first | refine s_p ?_ | refine s_c (by omega) ?_)
  (first | refine s_p ?_ | refine s_c (by omega) ?_); refine Tryd.ldB_S_uint64 B2 rfl ?_; (first | refine s_p ?_ | refine s_c (by omega) ?_); (first | refine s_p ?_ | refine s_c (by omega) ?_)
  have hc : c[ws.length]? = some (u64 77#64) := by
    have : (c.take (ws.length + 1))[ws.length]? = some (u64 77#64) := by rw [htk]; simp
    rwa [List.getElem?_take, if_pos (by omega)] at this
  rw [show 0 + ((ws.length : Int)).toNat = ws.length by omega]
  refine Tryd.ldB_uint64 Bg hc ?_
  refine p_eql ?_
  refine hK2 _ _ ?_
  exact h _ E3

theorem c_law01_same {w : World} {va vb : Value} {W W2 e f : Int} {ws vs : List (BitVec 64)} {K : Value → World → Prop} (hr : RowV w va W ws) (hq : RowV w vb W2 vs) (hlen : ws.length < 9223372036854775807)
    (h : ∀ w', Ext w w' → K (.bool (decide (e = 0 ∧ f = 0 ∧ W = W2 ∧ ws = vs))) w') : oCall Tryd.prog Tryd.n_law01_same #[va, vb, .int .i64 e, .int .i64 f] w K := by
  refine Tryd.ok_law01_same ?_
  unfold Tryd.F_law01_same
  obtain ⟨p, cap, rfl, hS, hp, hcap⟩ := hr
  obtain ⟨p', cap', rfl, hS', hp', hcap'⟩ := hq
  refine w_box fun b1 w1 hb1 e1 s1 B1 => ?_
  refine w_box fun b2 w2 hb2 e2 s2 B2 => ?_
  have B1 := B1.ext e2
  have E2 := e1.trans e2
  have no : ¬ (e = 0 ∧ f = 0 ∧ W = W2 ∧ ws = vs) → ∀ w', Ext w w' → K (.bool false) w' := fun hn w' e' => by have := h w' e'; rwa [decide_eq_false hn] at this
  (first | refine s_p ?_ | refine s_c (by omega) ?_)
  refine j_or (fun hn => ?_) (fun hn => ?_)
  · refine j_orB (fun _ => ?_) (fun hn => by cases hn)
    refine j_orB (fun _ => ?_) (fun hn => by cases hn)
    exact c_T (no (fun hh => by omega) _ E2)
  intro K3 hK3
  (first | refine s_p ?_ | refine s_c (by omega) ?_)
  refine hK3 _ _ ?_; clear hK3 K3
  refine j_or (fun hn => ?_) (fun hn => ?_)
  · refine j_orB (fun _ => ?_) (fun hn => by cases hn)
    exact c_T (no (fun hh => by omega) _ E2)
  intro K3 hK3
  (first | refine s_p ?_ | refine s_c (by omega) ?_); refine Tryd.ldB_int B1 rfl ?_; (first | refine s_p ?_ | refine s_c (by omega) ?_); refine Tryd.ldB_int B2 rfl ?_; (first | refine s_p ?_ | refine s_c (by omega) ?_)
  refine hK3 _ _ ?_; clear hK3 K3
  refine j_or (fun hn => ?_) (fun hn => ?_)
  · exact c_T (no (fun hh => by omega) _ E2)
  intro K3 hK3
  (first | refine s_p ?_ | refine s_c (by omega) ?_); refine Tryd.ldB_S_uint64 B1 rfl ?_; (first | refine s_p ?_ | refine s_c (by omega) ?_); (first | refine s_p ?_ | refine s_c (by omega) ?_); refine Tryd.ldB_S_uint64 B2 rfl ?_; (first | refine s_p ?_ | refine s_c (by omega) ?_); (first | refine s_p ?_ | refine s_c (by omega) ?_)
  refine hK3 _ _ ?_; clear hK3 K3
  refine c_if (fun hn2 => ?_) (fun hn2 => ?_)
  · exact no (fun hh => hn2 (by rw [hh.2.2.2])) _ E2
  have hl : ws.length = vs.length := by omega
  refine l_intro (ι := Nat) (fun i => [.int .i64 i]) (fun i w' => i ≤ ws.length ∧ Ext w w' ∧ Blk w' b1 [.int .i64 W, .slice p ws.length cap] Tryd.t_Row ∧ Blk w' b2 [.int .i64 W2, .slice p' vs.length cap'] Tryd.t_Row ∧
      ∀ j (h1 : j < ws.length) (h2 : j < vs.length), j < i → ws[j] = vs[j])
    (fun i => ws.length - i) 0 rfl ⟨Nat.zero_le _, E2, B1, B2, fun j _ _ hj => absurd hj (Nat.not_lt_zero _)⟩ ?_
  rintro i d w3 ⟨hi, E3, B1, B2, hno⟩ K3 hK3
  simp only [List.getD_cons_zero]
  (first | refine s_p ?_ | refine s_c (by omega) ?_); refine Tryd.ldB_S_uint64 B1 rfl ?_; (first | refine s_p ?_ | refine s_c (by omega) ?_); (first | refine s_p ?_ | refine s_c (by omega) ?_)
  refine c_if (fun hlt => ?_) (fun hge => ?_)
  · have hlt : i < ws.length := by omega
    have hlt2 : i < vs.length := by omega
    have E4 := E3.trans (Ext.drew w3)
    have B1 := B1.ext (Ext.drew w3); have B2 := B2.ext (Ext.drew w3)
    obtain ⟨ba, oa, rfl, hca⟩ := (hS.ext E4).at (i := i) (by simpa using hlt)
    obtain ⟨bb, ob, rfl, hcb⟩ := (hS'.ext E4).at (i := i) (by simpa using hlt2)
    (first | refine s_p ?_ | refine s_c (by omega) ?_); refine Tryd.ldB_S_uint64 B1 rfl ?_; (first | refine s_p ?_ | refine s_c (by omega) ?_)
    refine Tryd.ld_uint64 (v := u64 ws[i]) (by simpa using hca) ?_
    (first | refine s_p ?_ | refine s_c (by omega) ?_); refine Tryd.ldB_S_uint64 B2 rfl ?_; (first | refine s_p ?_ | refine s_c (by omega) ?_)
    refine Tryd.ld_uint64 (v := u64 vs[i]) (by simpa using hcb) ?_
    (first | refine s_p ?_ | refine s_c (by omega) ?_)
    refine c_if (fun hne => ?_) (fun hne => ?_)
    · exact no (fun hh => hne (by have := hh.2.2.2; subst this; rfl)) _ E4
    · (first | refine s_p ?_ | refine s_c (by omega) ?_)
      have heq : ws[i] = vs[i] := BitVec.eq_of_toNat_eq (by omega)
      refine hK3 (i + 1) _ ⟨hlt, E4, B1, B2, fun j h1 h2 hj => ?_⟩ (by omega)
      rcases Nat.lt_or_ge j i with h3 | h3
      · exact hno j h1 h2 h3
      · have : j = i := by omega
        subst this; exact heq
  · have := h _ E3
    rw [decide_eq_true ⟨by omega, by omega, by omega, List.ext_getElem hl fun j h1 h2 => hno j h1 h2 (by omega)⟩] at this; exact this
end Go.Proofs
