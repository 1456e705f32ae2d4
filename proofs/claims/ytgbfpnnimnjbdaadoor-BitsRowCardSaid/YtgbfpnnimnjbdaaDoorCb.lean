/-
  Contracts: rows of bits (package bits): own rows, bits, words put together.
-/
import Derived.Test.YtgbfpnnimnjbdaaDoorCa
import Derived.Test.YtgbfpnnimnjbdaaDoorShA
namespace Go.Proofs
open Go.Sh Go.BM
set_option maxRecDepth 100000

theorem cells1 (ws : List (BitVec 64)) : ∀ u ∈ ws.map u64, u.oneCell' = true := fun u hu => by
  obtain ⟨x, _, rfl⟩ := List.mem_map.1 hu; rfl

theorem c_Clone {w : World} {p : Option Addr} {cap : Nat} {ws : List (BitVec 64)} {K : Value → World → Prop} (hS : Sl w p (ws.map u64)) (hp : p = none → cap = 0) (hw : ws.length * 8 ≤ 140737488355328)
    (h : ∀ p' cap' w', Ext w w' → Words w' w.heap.size p' cap' ws → K (.slice p' ws.length cap') w') :
    oCall Tryd.prog Tryd.n_slices_Clone_uint64_uint64 #[.slice p ws.length cap] w K := by
  refine Tryd.ok_slices_Clone_uint64_uint64 ?_
  unfold Tryd.F_slices_Clone_uint64_uint64
  refine p_eqNilS (e := Tryd.t_uint64) (n := 1) (by kernel_rfl) ?_
  refine c_b (fun hn => ?_) (fun hn => ?_)
  · have hws : ws = [] := by
      cases ws with
      | nil => rfl
      | cons a l => obtain ⟨b, off, hb, _⟩ := hS 0 (u64 a) rfl; rw [hb] at hn; cases hn
    subst hws
    exact h none 0 w (Ext.refl w) ⟨fun _ => rfl, Nat.le_refl _, .inl rfl⟩
  refine w_lit (e := Tryd.t_uint64) (cs := []) (by kernel_rfl) fun b w1 hb e1 s1 B => ?_
  have hown := own_of_blk (w := w1) (base := w.heap.size) (size := 1) (n := 0) (cap := 0) (by omega) B (Nat.le_refl _) (by simp [maxLen]) rfl
  refine Tryd.ap_S_uint64 hown (hS.ext e1) (by simp) hp (cells1 ws) (by omega) (by have := e1.size; omega) fun v2 w2 hown2 x2 hblk hnil => ?_
  have e2 : Ext w w2 := e1.but x2 (by intro k hk; simp [Value.ownBlock] at hk; omega)
  rcases own_blk hown2 with ⟨rfl, _⟩ | ⟨g, cap', c, rfl, hg, B2, hn2, hm2, hc, ht⟩
  · simp at hnil
  · simp only [Nat.zero_add, Nat.mul_one, List.take_zero, List.nil_append] at hn2 ht ⊢
    exact h _ _ _ e2 ⟨by simp, hn2, .inr ⟨g, c, rfl, hg, B2, ht⟩⟩

theorem c_bits_Own {w : World} {v : Value} {W : Int} {ws : List (BitVec 64)} {K : Value → World → Prop} (hr : RowV w v W ws)
    (h1 : ¬ May W ws → ∀ w', Ext w w' → K (.tuple #[row0, err 2]) w')
    (h2 : May W ws → ∀ v' w', Ext w w' → FreshRow w' w.heap.size v' W ws → K (.tuple #[v', err 0]) w') : oCall Tryd.prog Tryd.n_bits_Own #[v] w K := by
  refine Tryd.ok_bits_Own ?_
  unfold Tryd.F_bits_Own
  have hr0 := hr
  obtain ⟨p, cap, rfl, hS, hp, hcap⟩ := hr
  refine w_box fun b1 w1 hb1 e1 s1 B1 => ?_
  refine Tryd.al_Row fun b2 w2 hb2 e2 s2 B2 => ?_
  have B1 := B1.ext e2
  refine Tryd.ldB_Row B1 rfl ?_
  refine c_bits_May (hr0.ext (e1.trans e2)) fun w3 e3 => ?_
  have B1 := B1.ext e3; have B2 := B2.ext e3
  have E3 : Ext w w3 := (e1.trans e2).trans e3
  (repeat (first | refine s_p ?_ | refine s_c (by omega) ?_))
  refine c_b (fun hm => ?_) (fun hm => ?_)
  · have hm : ¬ May W ws := by simpa [mayB] using hm
    refine p_build (cs := #[.int .i64 0, .slice none 0 0]) (by kernel_rfl) ?_
    refine Tryd.stB_Row B2 rfl rfl (by simp [Value.oneCell']) fun w4 x4 s4 B4 => ?_
    refine Tryd.ce_Row B4 rfl ?_
    exact h1 hm _ (E3.but x4 (by intro k hk; omega))
  have hm : May W ws := by simpa [mayB] using hm
  (first | refine s_p ?_ | refine s_c (by omega) ?_); refine Tryd.ldB_int B1 rfl ?_; (first | refine s_p ?_ | refine s_c (by omega) ?_); refine Tryd.ldB_S_uint64 B1 rfl ?_
  have hlen : ws.length * 8 ≤ 140737488355328 := by have := hm.2.2.1; have := hm.2.1; omega
  refine c_Clone ((hS.ext E3).ext (Ext.drew w3)) hp hlen fun p4 cap4 w4 e4 hw4 => ⟨e4, ?_⟩
  refine p_build (cs := #[.int .i64 W, .slice p4 ws.length cap4]) (by kernel_rfl) ?_
  have B2 : Blk w4 b2 _ _ := Blk.ext (w := w3.drew) B2 e4
  have E4 : Ext w w4 := (E3.trans (Ext.drew w3)).trans e4
  refine Tryd.stB_Row B2 rfl rfl (by simp [Value.oneCell']) fun w5 x5 s5 B5 => ?_
  refine Tryd.ce_Row B5 rfl ?_
  refine h2 hm _ _ (E4.but x5 (by intro k hk; have := e1.size; omega)) ⟨p4, cap4, rfl, ?_⟩
  obtain ⟨h4, h5, h6⟩ := hw4
  refine ⟨h4, h5, h6.imp id fun ⟨b, c, q1, q2, q3, q4⟩ => ⟨b, c, q1, ?_, q3.but x5 ?_, q4⟩⟩
  · have : w3.drew.heap.size = w3.heap.size := rfl
    have := E3.size; omega
  · have : w3.drew.heap.size = w3.heap.size := rfl
    have := e3.size; omega

def getB (W k : Int) (ws : List (BitVec 64)) : Bool := decide (0 ≤ k ∧ k < W) && bit ws k.toNat
theorem c_bits_Get {w : World} {v : Value} {W k : Int} {ws : List (BitVec 64)} {K : Value → World → Prop} (hr : RowV w v W ws)
    (h : ∀ w', Ext w w' → K (.bool (mayB W ws && getB W k ws)) w') : oCall Tryd.prog Tryd.n_bits_Get #[v, .int .i64 k] w K := by
  refine Tryd.ok_bits_Get ?_
  unfold Tryd.F_bits_Get
  have hr0 := hr
  obtain ⟨p, cap, rfl, hS, hp, hcap⟩ := hr
  refine w_box fun b w1 hb e1 s1 B => ?_
  refine Tryd.ldB_Row B rfl ?_
  refine c_bits_May (hr0.ext e1) fun w2 e2 => ?_
  have B := B.ext e2
  have E : Ext w w2 := e1.trans e2
  refine j_andB (fun hm => ?_) (fun hm => ?_)
  · refine j_andB (fun _ => ?_) (fun hn => by cases hn)
    refine j_andB (fun _ => ?_) (fun hn => by cases hn)
    have := h _ E; rw [hm] at this; exact this
  rw [hm] at h
  intro K3 hK3; (repeat (first | refine s_p ?_ | refine s_c (by omega) ?_)); refine hK3 _ _ ?_; clear hK3 K3
  refine j_and (fun h0 => ?_) (fun h0 => ?_)
  · refine j_andB (fun _ => ?_) (fun hn => by cases hn)
    have := h _ E; rw [show getB W k ws = false by simp [getB]; omega] at this; exact this
  intro K3 hK3; (first | refine s_p ?_ | refine s_c (by omega) ?_); refine Tryd.ldB_int B rfl ?_; (repeat (first | refine s_p ?_ | refine s_c (by omega) ?_)); refine hK3 _ _ ?_; clear hK3 K3
  refine j_and (fun h1 => ?_) (fun h1 => ?_)
  · have := h _ E; rw [show getB W k ws = false by simp [getB]; omega] at this; exact this
  intro K3 hK3; (first | refine s_p ?_ | refine s_c (by omega) ?_); refine Tryd.ldB_S_uint64 B rfl ?_
  have hM := mayB_iff.1 hm
  have hlt : k.toNat / 64 < (ws.map u64).length := by rw [List.length_map]; have := hM.2.2.1; omega
  have hlt' : k.toNat / 64 < ws.length := by simpa using hlt
  obtain ⟨b', off, rfl, hc⟩ := hS.at hlt
  have hc := cell_ext hc E
  have := hM.2.1
  (repeat (first | refine s_p ?_ | refine s_c (by omega) ?_))
  rw [show (k / 64).toNat = k.toNat / 64 by omega]
  refine Tryd.ld_uint64 hc ?_
  rw [List.getElem_map]
  (repeat (first | refine s_p ?_ | refine s_c (by omega) ?_))
  refine hK3 _ _ ?_
  have hq := shr_and_one ws[k.toNat / 64] (k % 64).toNat
  have hb' : bit ws k.toNat = ws[k.toNat / 64].getLsbD (k % 64).toNat := by
    rw [show (k % 64).toNat = k.toNat % 64 by omega]
    simp [bit, List.getD_eq_getElem?_getD, hlt']
  have := h _ E
  rw [show getB W k ws = decide ((((ws[k.toNat / 64] >>> (k % 64).toNat) &&& BitVec.ofInt 64 1).toNat : Int) = 1) by
    simp only [getB, hb', hq]; simp [h0, h1]] at this
  exact this

/-! ### Words put together -/
/-- a function value that turns a word in memory by another one: '*w |= bit' and its like -/
def Turns (f : Value) (g : BitVec 64 → BitVec 64 → BitVec 64) : Prop :=
  ∀ (w : World) (b i : Nat) (c : List Value) (T : TypeId) (x y : BitVec 64) (K : Value → World → Prop), Blk w b c T → c[i]? = some (u64 x) →
    (∀ v w', ExtBut (· = b) w w' → w'.heap.size = w.heap.size → Blk w' b (c.set i (u64 (g x y))) T → K v w') →
    oCallV Tryd.prog f #[.pointer (some ⟨b, i, none⟩), u64 y] w K
theorem lt_of_some {c : List Value} {i : Nat} {v : Value} (h : c[i]? = some v) : i < c.length := (List.getElem?_eq_some_iff.1 h).1
theorem t_Set : Turns (.func (.func Tryd.n_bits_Set_1) #[] #[]) (fun x y => x ||| y) := by
  intro w b i c T x y K B hc h
  refine v_func (by kernel_rfl) (Tryd.ok_bits_Set_1 ?_)
  unfold Tryd.F_bits_Set_1
  refine n_ptr (Tryd.ldB_uint64 B hc ?_)
  refine p_or64 (n_ptr (Tryd.st_uint64 B (lt_of_some hc) rfl fun w' h1 h2 h3 => ?_))
  rw [of64] at h3
  exact h _ _ h1 h2 h3
theorem t_Or : Turns (.func (.func Tryd.n_bits_Or_1) #[] #[]) (fun x y => x ||| y) := by
  intro w b i c T x y K B hc h
  refine v_func (by kernel_rfl) (Tryd.ok_bits_Or_1 ?_)
  unfold Tryd.F_bits_Or_1
  refine n_ptr (Tryd.ldB_uint64 B hc ?_)
  refine p_or64 (n_ptr (Tryd.st_uint64 B (lt_of_some hc) rfl fun w' h1 h2 h3 => ?_))
  rw [of64] at h3
  exact h _ _ h1 h2 h3
theorem t_Clear : Turns (.func (.func Tryd.n_bits_Clear_1) #[] #[]) (fun x y => x &&& ~~~ y) := by
  intro w b i c T x y K B hc h
  refine v_func (by kernel_rfl) (Tryd.ok_bits_Clear_1 ?_)
  unfold Tryd.F_bits_Clear_1
  refine n_ptr (Tryd.ldB_uint64 B hc ?_)
  refine p_andNot64 (n_ptr (Tryd.st_uint64 B (lt_of_some hc) rfl fun w' h1 h2 h3 => ?_))
  rw [of64] at h3
  exact h _ _ h1 h2 h3
theorem t_And : Turns (.func (.func Tryd.n_bits_And_1) #[] #[]) (fun x y => x &&& y) := by
  intro w b i c T x y K B hc h
  refine v_func (by kernel_rfl) (Tryd.ok_bits_And_1 ?_)
  unfold Tryd.F_bits_And_1
  refine n_ptr (Tryd.ldB_uint64 B hc ?_)
  refine p_and64 (n_ptr (Tryd.st_uint64 B (lt_of_some hc) rfl fun w' h1 h2 h3 => ?_))
  rw [of64] at h3
  exact h _ _ h1 h2 h3
theorem t_Less : Turns (.func (.func Tryd.n_bits_Less_1) #[] #[]) (fun x y => x &&& ~~~ y) := by
  intro w b i c T x y K B hc h
  refine v_func (by kernel_rfl) (Tryd.ok_bits_Less_1 ?_)
  unfold Tryd.F_bits_Less_1
  refine n_ptr (Tryd.ldB_uint64 B hc ?_)
  refine p_andNot64 (n_ptr (Tryd.st_uint64 B (lt_of_some hc) rfl fun w' h1 h2 h3 => ?_))
  rw [of64] at h3
  exact h _ _ h1 h2 h3

theorem Words.but {w w' : World} {S : Nat → Prop} {n : Nat} {p : Option Addr} {cap : Nat} {ws : List (BitVec 64)} (h : Words w n p cap ws) (e : ExtBut S w w')
    (hS : ∀ g, p = some ⟨g, 0, none⟩ → n ≤ g → g < w.heap.size → ¬ S g) : Words w' n p cap ws :=
  ⟨h.1, h.2.1, h.2.2.imp id fun ⟨b, c, h1, h2, h3, h4⟩ => ⟨b, c, h1, h2, h3.but e (hS b h1 h2 h3.lt), h4⟩⟩
theorem Words.nl {w w' : World} {n m : Nat} {p : Option Addr} {cap : Nat} {ws : List (BitVec 64)} (h : Words w n p cap ws) (e : Nl m w w') : Words w' n p cap ws :=
  ⟨h.1, h.2.1, h.2.2.imp id fun ⟨b, c, h1, h2, h3, h4⟩ => ⟨b, c, h1, h2, h3.nl e, h4⟩⟩
theorem Words.shuts {w w' : World} {n m : Nat} {p : Option Addr} {cap : Nat} {ws : List (BitVec 64)} (h : Words w n p cap ws) (e : Shuts m w w') : Words w' n p cap ws :=
  ⟨h.1, h.2.1, h.2.2.imp id fun ⟨b, c, h1, h2, h3, h4⟩ => ⟨b, c, h1, h2, h3.shuts e, h4⟩⟩
theorem Words.get {w : World} {n : Nat} {p : Option Addr} {cap : Nat} {ws : List (BitVec 64)} (h : Words w n p cap ws) {i : Nat} (hi : i < ws.length) :
    ∃ b c, p = some ⟨b, 0, none⟩ ∧ n ≤ b ∧ Blk w b c Tryd.t_uint64 ∧ c[i]? = some (u64 ws[i]) ∧
      ∀ (w' : World) (x : BitVec 64), Blk w' b (c.set i (u64 x)) Tryd.t_uint64 → Words w' n p cap (ws.set i x) := by
  rcases h.2.2 with rfl | ⟨b, c, h1, h2, h3, h4⟩
  · cases hi
  refine ⟨b, c, h1, h2, h3, ?_, fun w' x hx => ⟨h.1, by rw [List.length_set]; exact h.2.1, .inr ⟨b, _, h1, h2, hx, ?_⟩⟩⟩
  · have : (c.take ws.length)[i]? = some (u64 ws[i]) := by rw [h4]; simp [hi]
    rwa [List.getElem?_take, if_pos hi] at this
  · rw [List.length_set, List.take_set, h4, List.map_set]

theorem c_bits_turn {w : World} {v fv : Value} {W : Int} {ws : List (BitVec 64)} {g : BitVec 64 → BitVec 64 → BitVec 64} {p1 : Option Addr} {cap1 : Nat} {ls : List Int} {K : Value → World → Prop}
    (hr : RowV w v W ws) (hl : Sl w p1 (ls.map (Value.int .i64))) (hf : Turns fv g) (hlen : ls.length < 9223372036854775807)
    (h1 : ¬ (May W ws ∧ AllIn W ls) → ∀ w', Ext w w' → K (.tuple #[row0, err 2]) w')
    (h2 : May W ws → AllIn W ls → ∀ v' w', Ext w w' → FreshRow w' w.heap.size v' W (turnAll g ws ls) → K (.tuple #[v', err 0]) w') :
    oCall Tryd.prog Tryd.n_bits_turn #[v, .slice p1 ls.length cap1, fv] w K := by
  refine Tryd.ok_bits_turn ?_
  unfold Tryd.F_bits_turn
  have hr0 := hr
  obtain ⟨p, cap, rfl, hS, hp, hcap⟩ := hr
  refine w_box fun b3 w1 hb3 e1 s1 B3 => ?_
  refine Tryd.al_Row fun b6 w2 hb6 e2 s2 B6 => ?_
  have B3 := B3.ext e2
  refine Tryd.ldB_Row B3 rfl ?_
  have E2 : Ext w w2 := e1.trans e2
  refine c_bits_Own (hr0.ext E2) (fun hm w3 e3 => ?_) (fun hm v3 w3 e3 hf3 => ?_)
  · (repeat (first | refine s_p ?_ | refine s_c (by omega) ?_))
    have B3 := B3.ext e3; have B6 := B6.ext e3
    refine Tryd.al_Row fun b8 w4 hb8 e4 s4 B8 => ?_
    have B3 := B3.ext e4; have B6 := B6.ext e4
    refine Tryd.stB_Row B8 rfl rfl (by simp [Value.oneCell']) fun w5 x5 s5 B8 => ?_
    have B6 := B6.but x5 (by have := e3.size; omega)
    (first | refine s_p ?_ | refine s_c (by omega) ?_)
    refine c_T ?_
    refine Tryd.ldB_Row B8 rfl ?_
    refine Tryd.stB_Row B6 rfl rfl (by simp [Value.oneCell']) fun w6 x6 s6 B6 => ?_
    refine Tryd.ce_Row B6 rfl ?_
    refine h1 (fun hn => hm hn.1) _ ((((E2.trans e3).trans e4).but x5 ?_).but x6 ?_)
    · intro k hk; have := E2.size; have := e3.size; omega
    · intro k hk; have := e1.size; omega
  obtain ⟨p4, cap4, rfl, hw3⟩ := hf3
  (repeat (first | refine s_p ?_ | refine s_c (by omega) ?_))
  have B3 := B3.ext e3; have B6 := B6.ext e3
  refine Tryd.al_Row fun b8 w4 hb8 e4 s4 B8 => ?_
  have B3 := B3.ext e4; have B6 := B6.ext e4
  have hg8 : ∀ g, p4 = some ⟨g, 0, none⟩ → ws ≠ [] → g < b8 := by
    intro g hg hne
    rcases hw3.2.2 with h | ⟨b, c, h1, _, h3, _⟩
    · exact absurd h hne
    · rw [hg] at h1; cases h1; have := h3.lt; omega
  have hw4 := hw3.ext e4
  have hsz := E2.size; have hsz3 := e3.size
  refine Tryd.stB_Row B8 rfl rfl (by simp [Value.oneCell']) fun w5 x5 s5 B8 => ?_
  have B6 := B6.but x5 (by omega)
  have B3 := B3.but x5 (by omega)
  have hw5 : Words w5 w2.heap.size p4 cap4 ws := by
    rcases hw4.2.2 with h | ⟨b, c, q1, q2, q3, q4⟩
    · exact ⟨hw4.1, hw4.2.1, .inl h⟩
    · by_cases hne : ws = []
      · exact ⟨hw4.1, hw4.2.1, .inl hne⟩
      · exact ⟨hw4.1, hw4.2.1, .inr ⟨b, c, q1, q2, q3.but x5 (by have := hg8 b q1 hne; omega), q4⟩⟩
  have E5 : Ext w w5 := ((E2.trans e3).trans e4).but x5 (by intro k hk; omega)
  (first | refine s_p ?_ | refine s_c (by omega) ?_)
  refine c_F ?_
  (first | refine s_p ?_ | refine s_c (by omega) ?_)
  have hMay := hm
  have hW : 0 ≤ W ∧ W ≤ 1032 := ⟨hm.1, hm.2.1⟩
  refine l_intro (ι := Nat) (fun i => [.int .i64 i])
    (fun i w' => i ≤ ls.length ∧ AllIn W (ls.take i) ∧ Ext w w' ∧ Blk w' b3 [.int .i64 W, .slice p ws.length cap] Tryd.t_Row ∧ Blk w' b6 [.int .i64 0, .slice none 0 0] Tryd.t_Row ∧
      Blk w' b8 [.int .i64 W, .slice p4 ws.length cap4] Tryd.t_Row ∧ Words w' w2.heap.size p4 cap4 (turnAll g ws (ls.take i)))
    (fun i => ls.length - i) 0 rfl ⟨Nat.zero_le _, by intro k hk; simp at hk, E5, B3, B6, B8, by simpa [turnAll] using hw5⟩ ?_
  rintro i d w' ⟨hi, hgood, E, B3, B6, B8, hw⟩ K8 hK8
  simp only [List.getD_cons_zero]
  (first | refine s_p ?_ | refine s_c (by omega) ?_)
  refine c_if (fun hlt => ?_) (fun hge => ?_)
  · have hlt : i < ls.length := by omega
    obtain ⟨b1, off, rfl, hc⟩ := (hl.ext E).at (i := i) (by simpa using hlt)
    (first | refine s_p ?_ | refine s_c (by omega) ?_)
    refine Tryd.ld_int (by simpa using hc) ?_
    have htk : ls.take (i + 1) = ls.take i ++ [ls[i]] := by rw [List.take_succ_eq_append_getElem hlt]
    have bad : ¬ (0 ≤ ls[i] ∧ ls[i] < W) → opP Tryd.prog (Instr.build Tryd.t_Row #[]) fun t35 => opU Tryd.prog w' (Instr.storeAt Tryd.t_Row (.pointer (some ⟨b6, 0, none⟩)) t35) fun w16 =>
        opQ Tryd.prog w16 (cellSem Tryd.t_Row (.pointer (some ⟨b6, 0, none⟩))) fun r17 => K (.tuple #[r17, (Value.int .i64 2)]) w16 := fun hn => by
      refine p_build (cs := #[.int .i64 0, .slice none 0 0]) (by kernel_rfl) ?_
      refine Tryd.stB_Row B6 rfl rfl (by simp [Value.oneCell']) fun w6 x6 s6 B6 => ?_
      refine Tryd.ce_Row B6 rfl ?_
      refine h1 (fun hq => hn (hq.2 _ (List.getElem_mem hlt))) _ (E.but x6 (by intro k hk; have := e1.size; omega))
    (first | refine s_p ?_ | refine s_c (by omega) ?_)
    refine j_or (fun h0 => c_T (bad (by omega))) (fun h0 => ?_)
    intro K2 hK2; (first | refine s_p ?_ | refine s_c (by omega) ?_); refine Tryd.ldB_int B3 rfl ?_; (repeat (first | refine s_p ?_ | refine s_c (by omega) ?_)); refine hK2 _ _ ?_; clear hK2 K2
    refine c_if (fun h3 => bad (by omega)) (fun h3 => ?_)
    have hM := hMay.2.2.1
    have hidx : ls[i].toNat / 64 < (turnAll g ws (ls.take i)).length := by rw [turnAll_length]; omega
    obtain ⟨bw, cw, rfl, hbw, Bw, hcw, hset⟩ := hw.get hidx
    have hlen2 : ls[i] / 64 < (ws.length : Int) := by omega
    (first | refine s_p ?_ | refine s_c (by omega) ?_); refine Tryd.ldB_S_uint64 B8 rfl ?_; (repeat (first | refine s_p ?_ | refine s_c (by omega) ?_))
    rw [show 0 + (ls[i] / 64).toNat = ls[i].toNat / 64 by omega, show (ls[i] % 64).toNat = ls[i].toNat % 64 by omega]
    refine hf w'.drew bw _ cw _ _ _ _ Bw hcw fun _ w6 x6 s6 Bw6 => ?_
    have hne : ws ≠ [] := by intro h0; rw [h0] at hM; simp at hM; omega
    have hb8 := hg8 bw rfl hne
    (first | refine s_p ?_ | refine s_c (by omega) ?_)
    refine hK8 (i + 1) w6 ⟨hlt, ?_, (E.trans (Ext.drew _)).but x6 (by intro k hk; omega), Blk.but (w := w'.drew) B3 x6 (by omega), Blk.but (w := w'.drew) B6 x6 (by omega), Blk.but (w := w'.drew) B8 x6 (by omega), ?_⟩ (by omega)
    · rw [htk]; intro k hk
      rcases List.mem_append.1 hk with hk | hk
      · exact hgood k hk
      · rw [List.mem_singleton] at hk; subst hk; omega
    · rw [htk, turnAll_snoc]
      have := hset w6 _ Bw6
      unfold turnW
      rw [List.getD_eq_getElem?_getD, List.getElem?_eq_getElem hidx]
      exact this
  · have hi' : ls.take i = ls := List.take_of_length_le (by omega)
    rw [hi'] at hgood hw
    refine Tryd.ldB_Row B8 rfl ?_
    refine Tryd.stB_Row B6 rfl rfl (by simp [Value.oneCell']) fun w6 x6 s6 B6 => ?_
    refine Tryd.ce_Row B6 rfl ?_
    refine h2 hMay hgood _ _ (E.but x6 (by intro k hk; have := e1.size; omega)) ⟨p4, cap4, ?_, (hw.but x6 (by intro g hg hn hlt; omega)).mono E2.size⟩
    rw [turnAll_length]
end Go.Proofs
