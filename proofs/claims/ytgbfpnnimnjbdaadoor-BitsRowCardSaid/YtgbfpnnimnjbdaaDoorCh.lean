/-
  Contracts: the document's answer for layer 1 (package loanwordref01): List, Turn, Join, Read.
-/
import Derived.Test.YtgbfpnnimnjbdaaDoorCg
namespace Go.Proofs
open Go.Sh Go.BM
set_option maxRecDepth 100000

theorem g_T {c want : Bool} {A B : Prop} (h : c = want) (a : A) : gIf (.bool c) want A B := by subst h; simp only [gIf, if_pos]; exact a
theorem g_N {c want : Bool} {A B : Prop} (h : c ≠ want) (b : B) : gIf (.bool c) want A B := by simp only [gIf, if_neg h]; exact b

theorem c_ref01_List {w : World} {v : Value} {W : Int} {ws : List (BitVec 64)} {K : Value → World → Prop} (hr : RowV w v W ws) (hm : May W ws)
    (h : ∀ v' w', Ext w w' → w'.ownsRow w.heap.size Tryd.t_int 1 v' (bitsOf ws).length ((bitsOf ws).map fun k : Nat => Value.int .i64 (k : Int)) → K v' w') : oCall Tryd.prog Tryd.n_ref01_List #[v] w K := by
  refine Tryd.ok_ref01_List ?_
  unfold Tryd.F_ref01_List
  have hr0 := hr
  obtain ⟨p, cap, rfl, hS, hp, hcap⟩ := hr
  have l1 := hm.2.2.1; have l3 := hm.2.1; have l4 := hm.1
  refine w_box fun b1 w1 hb1 e1 s1 B1 => ?_
  refine l_intro (ι := Nat × Value) (fun i => [i.2, .int .i64 (i.1 : Int)]) (fun i w' => i.1 ≤ W.toNat ∧ Ext w w' ∧ Blk w' b1 [.int .i64 W, .slice p ws.length cap] Tryd.t_Row ∧
      w'.ownsRow w1.heap.size Tryd.t_int 1 i.2 ((List.range i.1).filter (bit ws)).length (((List.range i.1).filter (bit ws)).map fun k : Nat => Value.int .i64 (k : Int)))
    (fun i => W.toNat - i.1) (0, .slice none 0 0) rfl ⟨Nat.zero_le _, e1, B1, World.ownsRow_nil _ _ _ _⟩ ?_
  rintro ⟨i, v⟩ d w3 ⟨hi, E3, B1, hown⟩ K3 hK3
  simp only at hi hown
  simp only [List.getD_cons_zero, List.getD_cons_succ]
  (first | refine s_p ?_ | refine s_c (by omega) ?_); refine Tryd.ldB_int B1 rfl ?_; (first | refine s_p ?_ | refine s_c (by omega) ?_)
  refine c_if (fun hlt => ?_) (fun hge => ?_)
  · have hlt : i < W.toNat := by omega
    intro K4 hK4
    refine Tryd.ldB_Row B1 rfl ?_
    refine c_ref01_Is (hr0.ext E3) (by omega) (by omega) fun w4 e4 => ?_
    have B1 := B1.ext e4
    have E4 := E3.trans e4
    have hown := own_ext hown e4
    have hstep : ∀ b : Bool, bit ws i = b → (List.range (i + 1)).filter (bit ws) = (List.range i).filter (bit ws) ++ (if b then [i] else []) := fun b hb => by
      rw [List.range_succ, List.filter_append, List.filter_cons, hb]; rfl
    have hle : ((List.range i).filter (bit ws)).length ≤ i := by have := List.length_filter_le (bit ws) (List.range i); simpa using this
    refine c_b (fun hb => ?_) (fun hb => ?_)
    · refine w_lit (e := Tryd.t_int) (cs := [.int .i64 (i : Int)]) (by kernel_rfl) fun b2 w5 hb2 e5 s5 B2 => ?_
      have hown := own_ext hown e5
      have hob := hown.lt
      have B1 := B1.ext e5
      have E5 := E4.trans e5
      refine Tryd.ap_S_int hown (Sl.blk B2) (by simp) (by simp) (by simp [Value.oneCell']) (by omega) (by have := E5.size; have := e4.size; have := e5.size; have := B1.lt; omega) fun v6 w6 hown6 x6 hblk hnil => ?_
      have B1 := B1.but x6 (by intro hk; have := hob _ hk; have := e1.size; omega)
      have E6 : Ext w w6 := E5.but x6 (by intro k hk; have := hob _ hk; have := e1.size; omega)
      refine hK4 _ _ (fun _ => ?_)
      simp only [List.getD_cons_zero]
      (first | refine s_p ?_ | refine s_c (by omega) ?_)
      refine hK3 (i + 1, v6) _ ⟨hlt, E6, B1, ?_⟩ (by simp only; omega)
      simp only
      rw [hstep true hb, if_pos rfl, List.length_append, List.map_append]
      exact hown6
    · refine hK4 _ _ (fun _ => ?_)
      simp only [List.getD_cons_zero]
      (first | refine s_p ?_ | refine s_c (by omega) ?_)
      refine hK3 (i + 1, v) _ ⟨hlt, E4, B1, ?_⟩ (by simp only; omega)
      simp only
      rw [hstep false hb, if_neg (by decide), List.append_nil]; exact hown
  · have hi' : i = W.toNat := by omega
    subst hi'
    rw [← bitsOf_may hm] at hown
    refine h _ _ E3 ?_
    rcases hown with ⟨hl, h1 | ⟨g, cap', cur, h1, h2, h3⟩⟩
    · exact ⟨hl, .inl h1⟩
    · exact ⟨hl, .inr ⟨g, cap', cur, h1, Nat.le_trans e1.size h2, h3⟩⟩

def turnG (set : Bool) : BitVec 64 → BitVec 64 → BitVec 64 := if set then (fun x y => x ||| y) else (fun x y => x &&& ~~~ y)
theorem or_xor (x y : BitVec 64) : (x ||| y) ^^^ y = x &&& ~~~ y := by
  apply BitVec.eq_of_getLsbD_eq
  intro i hi
  rw [BitVec.getLsbD_xor, BitVec.getLsbD_or, BitVec.getLsbD_and, BitVec.getLsbD_not]
  cases x.getLsbD i <;> cases y.getLsbD i <;> simp [hi]

theorem c_ref01_Turn {w : World} {v : Value} {W : Int} {ws : List (BitVec 64)} {p1 : Option Addr} {cap1 : Nat} {ls : List Int} {set : Bool} {K : Value → World → Prop}
    (hr : RowV w v W ws) (hl : Sl w p1 (ls.map (Value.int .i64))) (hlen : ls.length < 9223372036854775807)
    (h1 : ¬ (May W ws ∧ AllIn W ls) → ∀ w', Ext w w' → K (.tuple #[row0, .int .i64 2]) w')
    (h2 : May W ws → AllIn W ls → ∀ v' w', Ext w w' → FreshRow w' w.heap.size v' W (turnAll (turnG set) ws ls) → K (.tuple #[v', .int .i64 0]) w') :
    oCall Tryd.prog Tryd.n_ref01_Turn #[v, .slice p1 ls.length cap1, .bool set] w K := by
  refine Tryd.ok_ref01_Turn ?_
  unfold Tryd.F_ref01_Turn
  have hr0 := hr
  obtain ⟨p, cap, rfl, hS, hp, hcap⟩ := hr
  refine w_box fun b3 w1 hb3 e1 s1 B3 => ?_
  refine Tryd.al_Row fun b6 w2 hb6 e2 s2 B6 => ?_
  have B3 := B3.ext e2
  have E2 : Ext w w2 := e1.trans e2
  refine Tryd.ldB_Row B3 rfl ?_
  refine c_ref01_May (hr0.ext E2) fun w3 e3 => ?_
  have B3 := B3.ext e3; have B6 := B6.ext e3
  have E3 := E2.trans e3
  have bad : ∀ w4, Ext w w4 → Blk w4 b6 [.int .i64 0, .slice none 0 0] Tryd.t_Row → ¬ (May W ws ∧ AllIn W ls) → opP Tryd.prog (Instr.build Tryd.t_Row #[]) fun t26 => opU Tryd.prog w4 (Instr.storeAt Tryd.t_Row (.pointer (some ⟨b6, 0, none⟩)) t26) fun w14 =>
      opQ Tryd.prog w14 (cellSem Tryd.t_Row (.pointer (some ⟨b6, 0, none⟩))) fun r15 => K (.tuple #[r15, (Value.int .i64 2)]) w14 := fun w4 E4 B6 hn => by
    refine p_build (cs := #[.int .i64 0, .slice none 0 0]) (by kernel_rfl) ?_
    refine Tryd.stB_Row B6 rfl rfl (by simp [Value.oneCell']) fun w6 x6 s6 B6 => ?_
    refine Tryd.ce_Row B6 rfl ?_
    exact h1 hn _ (E4.but x6 (by intro k hk; have := e1.size; omega))
  (first | refine s_p ?_ | refine s_c (by omega) ?_)
  refine c_b (fun hm => ?_) (fun hm => ?_)
  · exact bad _ E3 B6 (fun hn => by rw [mayB_true hn.1] at hm; cases hm)
  have hm : May W ws := by simpa [mayB] using hm
  have l1 := hm.2.2.1; have l3 := hm.2.1; have l4 := hm.1
  refine Tryd.ldB_Row B3 rfl ?_
  refine c_ref01_Own (hr0.ext E3) (by omega) fun v4 w4 e4 hf => ?_
  obtain ⟨p4, cap4, rfl, hw4⟩ := hf
  have B3 := B3.ext e4; have B6 := B6.ext e4
  refine Tryd.al_Row fun b8 w5 hb8 e5 s5 B8 => ?_
  have B3 := B3.ext e5; have B6 := B6.ext e5
  have E5 := (E3.trans e4).trans e5
  have hw5 := hw4.ext e5
  have hsz := E2.size; have hsz3 := e3.size; have hsz4 := e4.size
  refine Tryd.stB_Row B8 rfl rfl (by simp [Value.oneCell']) fun w6 x6 s6 B8' => ?_
  have hw6 := hw5.butT B8 (by decide) x6
  have B6 := B6.but x6 (by omega)
  have B3 := B3.but x6 (by omega)
  have E6 : Ext w w6 := E5.but x6 (by intro k hk; omega)
  refine l_intro (ι := Nat) (fun i => [.int .i64 i])
    (fun i w' => i ≤ ls.length ∧ AllIn W (ls.take i) ∧ Ext w w' ∧ Blk w' b3 [.int .i64 W, .slice p ws.length cap] Tryd.t_Row ∧ Blk w' b6 [.int .i64 0, .slice none 0 0] Tryd.t_Row ∧
      Blk w' b8 [.int .i64 W, .slice p4 ws.length cap4] Tryd.t_Row ∧ Words w' w3.heap.size p4 cap4 (turnAll (turnG set) ws (ls.take i)))
    (fun i => ls.length - i) 0 rfl ⟨Nat.zero_le _, by intro k hk; simp at hk, E6, B3, B6, B8', by simpa [turnAll] using hw6⟩ ?_
  rintro i d w' ⟨hi, hgood, E, B3, B6, B8, hw⟩ K8 hK8
  simp only [List.getD_cons_zero]
  (first | refine s_p ?_ | refine s_c (by omega) ?_); (first | refine s_p ?_ | refine s_c (by omega) ?_)
  refine c_if (fun hlt => ?_) (fun hge => ?_)
  · have hlt : i < ls.length := by omega
    obtain ⟨b1, off, rfl, hc⟩ := hl.at (i := i) (by simpa using hlt)
    rw [List.getElem_map] at hc
    have hc : w.cell? ⟨b1, off + ((i : Int)).toNat, none⟩ = some (.int .i64 ls[i]) := by simpa using hc
    have hb1 : b1 < w.heap.size := cell_lt hc
    have ED := E.trans (Ext.drew w')
    have B3 := B3.ext (Ext.drew w'); have B6 := B6.ext (Ext.drew w'); have B8 := B8.ext (Ext.drew w'); have hw := hw.ext (Ext.drew w')
    have htk : ls.take (i + 1) = ls.take i ++ [ls[i]] := by rw [List.take_succ_eq_append_getElem hlt]
    intro K13 hK13
    (first | refine s_p ?_ | refine s_c (by omega) ?_)
    refine Tryd.ld_int (cell_ext hc ED) ?_
    (first | refine s_p ?_ | refine s_c (by omega) ?_)
    refine j_or (fun h0 => c_T (bad _ ED B6 (fun hq => by have := hq.2 _ (List.getElem_mem hlt); omega))) (fun h0 => ?_)
    intro K2 hK2
    (first | refine s_p ?_ | refine s_c (by omega) ?_)
    refine Tryd.ld_int (cell_ext hc ED) ?_
    (first | refine s_p ?_ | refine s_c (by omega) ?_); refine Tryd.ldB_int B3 rfl ?_; (repeat (first | refine s_p ?_ | refine s_c (by omega) ?_))
    refine hK2 _ _ ?_; clear hK2 K2
    refine c_if (fun h3 => bad _ ED B6 (fun hq => by have := hq.2 _ (List.getElem_mem hlt); omega)) (fun h3 => ?_)
    have hidx : ls[i].toNat / 64 < (turnAll (turnG set) ws (ls.take i)).length := by rw [turnAll_length]; omega
    have ED := ED.trans (Ext.drew w'.drew)
    have B3 := B3.ext (Ext.drew w'.drew); have B6 := B6.ext (Ext.drew w'.drew); have B8 := B8.ext (Ext.drew w'.drew); have hw := hw.ext (Ext.drew w'.drew)
    obtain ⟨bw, cw, rfl, hbw, Bw, hcw, hset⟩ := hw.get hidx
    have hlen2 : ls[i] / 64 < (ws.length : Int) := by omega
    have hix : (ls[i] / 64).toNat = ls[i].toNat / 64 := by omega
    have hir : (ls[i] % 64).toNat = ls[i].toNat % 64 := by omega
    have h8w : b8 ≠ bw := by
      rintro rfl
      have := Bw.symm.trans B8; simp only [Option.some.injEq, Obj.cells.injEq] at this
      have := this.2.1; cases this
    (first | refine s_p ?_ | refine s_c (by omega) ?_); refine Tryd.ldB_S_uint64 B8 rfl ?_; (first | refine s_p ?_ | refine s_c (by omega) ?_)
    refine Tryd.ld_int (cell_ext hc ED) ?_
    (first | refine s_p ?_ | refine s_c (by omega) ?_); (first | refine s_p ?_ | refine s_c (by omega) ?_); refine Tryd.ldB_S_uint64 B8 rfl ?_; (first | refine s_p ?_ | refine s_c (by omega) ?_)
    refine Tryd.ld_int (cell_ext hc ED) ?_
    (first | refine s_p ?_ | refine s_c (by omega) ?_); (first | refine s_p ?_ | refine s_c (by omega) ?_)
    rw [hix, Nat.zero_add]
    refine Tryd.ldB_uint64 Bw hcw ?_
    (first | refine s_p ?_ | refine s_c (by omega) ?_)
    refine Tryd.ld_int (cell_ext hc ED) ?_
    (first | refine s_p ?_ | refine s_c (by omega) ?_)
    refine p_shl64 (by omega) (p_or64 ?_)
    rw [of64, hir]
    (first | refine s_p ?_ | refine s_c (by omega) ?_)
    rw [hix, Nat.zero_add]
    refine Tryd.st_uint64 Bw (lt_of_some hcw) rfl fun w7 x7 s7 Bw7 => ?_
    have E7 : Ext w w7 := ED.but x7 (by intro k hk; omega)
    have B3 := B3.but x7 (by omega); have B6 := B6.but x7 (by omega); have B8 := B8.but x7 h8w
    have hgood' : AllIn W (ls.take (i + 1)) := by
      rw [htk]; intro k hk
      rcases List.mem_append.1 hk with hk | hk
      · exact hgood k hk
      · rw [List.mem_singleton] at hk; subst hk; omega
    (first | refine s_p ?_ | refine s_c (by omega) ?_)
    refine c_b (fun hset' => ?_) (fun hset' => ?_)
    · have hset' : set = false := by simpa using hset'
      subst hset'
      have E8 := E7.trans (Ext.drew w7)
      have B3 := B3.ext (Ext.drew w7); have B6 := B6.ext (Ext.drew w7); have B8 := B8.ext (Ext.drew w7); have Bw8 := Bw7.ext (Ext.drew w7)
      (first | refine s_p ?_ | refine s_c (by omega) ?_); refine Tryd.ldB_S_uint64 B8 rfl ?_; (first | refine s_p ?_ | refine s_c (by omega) ?_)
      refine Tryd.ld_int (cell_ext hc E8) ?_
      (first | refine s_p ?_ | refine s_c (by omega) ?_); (first | refine s_p ?_ | refine s_c (by omega) ?_); refine Tryd.ldB_S_uint64 B8 rfl ?_; (first | refine s_p ?_ | refine s_c (by omega) ?_)
      refine Tryd.ld_int (cell_ext hc E8) ?_
      (first | refine s_p ?_ | refine s_c (by omega) ?_); (first | refine s_p ?_ | refine s_c (by omega) ?_)
      rw [hix, Nat.zero_add]
      refine Tryd.ldB_uint64 Bw8 (by rw [List.getElem?_set_self (lt_of_some hcw)]) ?_
      (first | refine s_p ?_ | refine s_c (by omega) ?_)
      refine Tryd.ld_int (cell_ext hc E8) ?_
      (first | refine s_p ?_ | refine s_c (by omega) ?_)
      refine p_shl64 (by omega) (p_xor64 ?_)
      rw [of64, hir, or_xor]
      (first | refine s_p ?_ | refine s_c (by omega) ?_)
      rw [hix, Nat.zero_add]
      refine Tryd.st_uint64 Bw8 (by rw [List.length_set]; exact lt_of_some hcw) rfl fun w9 x9 s9 Bw9 => ?_
      refine hK13 _ _ (fun _ => ?_)
      (first | refine s_p ?_ | refine s_c (by omega) ?_)
      refine hK8 (i + 1) w9 ⟨hlt, hgood', E8.but x9 (by intro k hk; omega), B3.but x9 (by omega), B6.but x9 (by omega), B8.but x9 h8w, ?_⟩ (by omega)
      rw [htk, turnAll_snoc]
      rw [List.set_set] at Bw9
      have := hset w9 _ Bw9
      unfold turnW
      rw [List.getD_eq_getElem?_getD, List.getElem?_eq_getElem hidx]
      exact this
    · have hset' : set = true := by simpa using hset'
      subst hset'
      refine hK13 _ _ (fun _ => ?_)
      (first | refine s_p ?_ | refine s_c (by omega) ?_)
      refine hK8 (i + 1) w7 ⟨hlt, hgood', E7, B3, B6, B8, ?_⟩ (by omega)
      rw [htk, turnAll_snoc]
      have := hset w7 _ Bw7
      unfold turnW
      rw [List.getD_eq_getElem?_getD, List.getElem?_eq_getElem hidx]
      exact this
  · have hi' : ls.take i = ls := List.take_of_length_le (by omega)
    rw [hi'] at hgood hw
    refine Tryd.ldB_Row B8 rfl ?_
    refine Tryd.stB_Row B6 rfl rfl (by simp [Value.oneCell']) fun w9 x9 s9 B9 => ?_
    refine Tryd.ce_Row B9 rfl ?_
    refine h2 hm hgood _ _ (E.but x9 (by intro k hk; omega)) ⟨p4, cap4, ?_, (hw.butT B6 (by decide) x9).mono (by omega)⟩
    rw [turnAll_length]

/-- what Or, And, Less make of two bits -/
def hB (how : Nat) (a b : Bool) : Bool := if how = 0 then (a || b) else if how = 1 then (a && b) else (a && !b)
def gW (how : Nat) : BitVec 64 → BitVec 64 → BitVec 64 := if how = 0 then (fun x y => x ||| y) else if how = 1 then (fun x y => x &&& y) else (fun x y => x &&& ~~~ y)
theorem gW_bit (how : Nat) (x y : BitVec 64) (j : Nat) (hj : j < 64) : (gW how x y).getLsbD j = hB how (x.getLsbD j) (y.getLsbD j) := by
  unfold gW hB
  split
  · exact or_bit x y j hj
  · split
    · exact and_bit x y j hj
    · exact less_bit x y j hj
theorem gW_zero (how : Nat) : gW how 0 0 = 0 := by unfold gW; split <;> (try split) <;> decide
theorem hB_zero (how : Nat) : hB how false false = false := by unfold hB; split <;> (try split) <;> rfl
def joinL (how : Nat) (ws vs : List (BitVec 64)) (k : Nat) : List Int := ((List.range k).filter fun j => hB how (bit ws j) (bit vs j)).map Int.ofNat
theorem join_all {how : Nat} {W : Int} {ws vs : List (BitVec 64)} (hm : May W ws) (hm' : May W vs) : turnAll (fun x y => x ||| y) (zeros W) (joinL how ws vs W.toNat) = List.zipWith (gW how) ws vs := by
  have hl : ws.length = vs.length := by have := hm.2.2.1; have := hm'.2.2.1; omega
  have hz : May W (zeros W) := may_zeros hm.1 hm.2.1
  have ha : AllIn W (joinL how ws vs W.toNat) := by
    intro k hk
    obtain ⟨m, hm1, rfl⟩ := List.mem_map.1 hk
    have h1 := List.mem_range.1 (List.mem_filter.1 hm1).1
    have h2 := hm.1
    exact ⟨Int.natCast_nonneg m, by show (m : Int) < W; omega⟩
  refine may_ext (may_turnAll (h := fun a b => a || b) or_bit (by simp) _ _ hz ha) (may_zip (gW_bit how) (gW_zero how) (hB_zero how) hm hm') fun k hk => ?_
  rw [bit_turnOr _ _ hz ha, bit_zip (gW_bit how) (gW_zero how) hl, zeros, bit_zeros, Bool.false_or]
  have hmem : ((k : Int) ∈ joinL how ws vs W.toNat) ↔ hB how (bit ws k) (bit vs k) = true := by
    constructor
    · intro h
      obtain ⟨m, hm1, hmk⟩ := List.mem_map.1 h
      have : m = k := Int.ofNat.inj hmk
      subst this; exact (List.mem_filter.1 hm1).2
    · intro h
      exact List.mem_map.2 ⟨k, List.mem_filter.2 ⟨List.mem_range.2 (by omega), h⟩, rfl⟩
  cases hb : hB how (bit ws k) (bit vs k) with
  | true => exact decide_eq_true (hmem.2 hb)
  | false => exact decide_eq_false (fun h => by rw [hmem.1 h] at hb; cases hb)

theorem c_ref01_Join {w : World} {va vb : Value} {W W2 : Int} {ws vs : List (BitVec 64)} {how : Nat} {K : Value → World → Prop} (hr : RowV w va W ws) (hq : RowV w vb W2 vs) (hhow : how < 3)
    (h1 : ¬ (May W ws ∧ May W2 vs ∧ W = W2) → ∀ w', Ext w w' → K (.tuple #[row0, .int .i64 2]) w')
    (h2 : May W ws → May W2 vs → W = W2 → ∀ v' w', Ext w w' → FreshRow w' w.heap.size v' W (List.zipWith (gW how) ws vs) → K (.tuple #[v', .int .i64 0]) w') :
    oCall Tryd.prog Tryd.n_ref01_Join #[va, vb, .int .i64 (how : Int)] w K := by
  refine Tryd.ok_ref01_Join ?_
  unfold Tryd.F_ref01_Join
  have hr0 := hr; have hq0 := hq
  obtain ⟨p, cap, rfl, hS, hp, hcap⟩ := hr
  obtain ⟨p', cap', rfl, hS', hp', hcap'⟩ := hq
  refine w_box fun b3 w1 hb3 e1 s1 B3 => ?_
  refine w_box fun b4 w2 hb4 e2 s2 B4 => ?_
  refine Tryd.al_Row fun b6 w3 hb6 e3 s3 B6 => ?_
  have B4 := B4.ext e3; have B3 := (B3.ext e2).ext e3
  have E3 := (e1.trans e2).trans e3
  refine Tryd.ldB_Row B3 rfl ?_
  refine Tryd.ldB_Row B4 rfl ?_
  refine c_ref01_Both (hr0.ext E3) (hq0.ext E3) fun w4 e4 => ?_
  have B3 := B3.ext e4; have B4 := B4.ext e4; have B6 := B6.ext e4
  have E4 := E3.trans e4
  (first | refine s_p ?_ | refine s_c (by omega) ?_)
  refine c_b (fun hm => ?_) (fun hm => ?_)
  · have hn : ¬ (May W ws ∧ May W2 vs ∧ W = W2) := fun hn => by rw [mayB_true hn.1, mayB_true hn.2.1, decide_eq_true hn.2.2] at hm; cases hm
    refine p_build (cs := #[.int .i64 0, .slice none 0 0]) (by kernel_rfl) ?_
    refine Tryd.stB_Row B6 rfl rfl (by simp [Value.oneCell']) fun w6 x6 s6 B6 => ?_
    refine Tryd.ce_Row B6 rfl ?_
    exact h1 hn _ (E4.but x6 (by intro k hk; have := e1.size; have := e2.size; omega))
  have hm3 : mayB W ws = true ∧ mayB W2 vs = true ∧ W = W2 := by simpa [and_assoc] using hm
  clear hm
  obtain ⟨hma, hmb, hw⟩ := hm3
  subst hw
  have hm := mayB_iff.1 hma; have hm' := mayB_iff.1 hmb
  have l1 := hm.2.2.1; have l2 := hm'.2.2.1; have l3 := hm.2.1; have l4 := hm.1
  (first | refine s_p ?_ | refine s_c (by omega) ?_); refine Tryd.ldB_int B3 rfl ?_
  refine c_ref01_None (by omega) (by omega) fun v5 w5 e5 hf => ?_
  obtain ⟨p5, cap5, rfl, hw5⟩ := hf
  have B3 := B3.ext e5; have B4 := B4.ext e5; have B6 := B6.ext e5
  refine Tryd.al_Row fun b8 w6 hb8 e6 s6 B8 => ?_
  have B3 := B3.ext e6; have B4 := B4.ext e6; have B6 := B6.ext e6
  have hw6 := hw5.ext e6
  have hsz := E4.size; have hsz4 := e4.size; have hsz5 := e5.size
  refine Tryd.stB_Row B8 rfl rfl (by simp [Value.oneCell']) fun w7 x7 s7 B8' => ?_
  have hw7 := hw6.butT B8 (by decide) x7
  have B3 := B3.but x7 (by omega); have B4 := B4.but x7 (by omega); have B6 := B6.but x7 (by omega)
  have E7 : Ext w w7 := ((E4.trans e5).trans e6).but x7 (by intro k hk; omega)
  have hzl : (zeros W).length = (W.toNat + 63) / 64 := by rw [zeros, List.length_replicate]
  refine l_intro (ι := Nat) (fun i => [.int .i64 i])
    (fun i w' => i ≤ W.toNat ∧ Ext w w' ∧ Blk w' b3 [.int .i64 W, .slice p ws.length cap] Tryd.t_Row ∧ Blk w' b4 [.int .i64 W, .slice p' vs.length cap'] Tryd.t_Row ∧ Blk w' b6 [.int .i64 0, .slice none 0 0] Tryd.t_Row ∧
      Blk w' b8 [.int .i64 W, .slice p5 (zeros W).length cap5] Tryd.t_Row ∧ Words w' w4.heap.size p5 cap5 (turnAll (fun x y => x ||| y) (zeros W) (joinL how ws vs i)))
    (fun i => W.toNat - i) 0 rfl ⟨Nat.zero_le _, E7, B3, B4, B6, B8', hw7⟩ ?_
  rintro i d w' ⟨hi, E, B3, B4, B6, B8, hw⟩ K8 hK8
  simp only [List.getD_cons_zero]
  (first | refine s_p ?_ | refine s_c (by omega) ?_); refine Tryd.ldB_int B3 rfl ?_; (first | refine s_p ?_ | refine s_c (by omega) ?_)
  refine c_if (fun hlt => ?_) (fun hge => ?_)
  · have hlt : i < W.toNat := by omega
    have E := E.trans (Ext.drew w')
    have B3 := B3.ext (Ext.drew w'); have B4 := B4.ext (Ext.drew w'); have B6 := B6.ext (Ext.drew w'); have B8 := B8.ext (Ext.drew w'); have hw := hw.ext (Ext.drew w')
    intro K14 hK14
    refine Tryd.ldB_Row B3 rfl ?_
    refine Tryd.ldB_Row B4 rfl ?_
    refine c_ref01_Is (hr0.ext E) (by omega) (by omega) fun w8 e8 => ⟨e8, ?_⟩
    have E := E.trans e8
    have B3 := B3.ext e8; have B4 := B4.ext e8; have B6 := B6.ext e8; have B8 := B8.ext e8; have hw := hw.ext e8
    refine c_ref01_Is (hq0.ext E) (by omega) (by omega) fun w9 e9 => ?_
    have E := E.trans e9
    have B3 := B3.ext e9; have B4 := B4.ext e9; have B6 := B6.ext e9; have B8 := B8.ext e9; have hw := hw.ext e9
    have hstep : ∀ b : Bool, hB how (bit ws i) (bit vs i) = b → joinL how ws vs (i + 1) = joinL how ws vs i ++ (if b then [(i : Int)] else []) := fun b hb => by
      rw [joinL, List.range_succ, List.filter_append, List.map_append, List.filter_cons, hb]; cases b <;> rfl
    have hN : hB how (bit ws i) (bit vs i) = false → K14 [] w9 := fun hb => by
      refine hK14 _ _ (fun _ => ?_)
      (first | refine s_p ?_ | refine s_c (by omega) ?_)
      refine hK8 (i + 1) w9 ⟨hlt, E, B3, B4, B6, B8, ?_⟩ (by omega)
      rw [hstep false hb, if_neg (by decide), List.append_nil]; exact hw
    have hY : hB how (bit ws i) (bit vs i) = true → opP Tryd.prog (Instr.fieldAt Tryd.t_Row (.pointer (some ⟨b8, 0, none⟩)) 1) fun t61 =>
        opQ Tryd.prog w9.drew (Instr.loadAt Tryd.t_S_uint64 t61) fun t62 =>
        opP Tryd.prog (bsem .quo Tryd.t_int true (.int .i64 (i : Int)) (Value.int .i64 64)) fun t64 =>
        opP Tryd.prog (Instr.fieldAt Tryd.t_Row (.pointer (some ⟨b8, 0, none⟩)) 1) fun t65 =>
        opQ Tryd.prog w9.drew (Instr.loadAt Tryd.t_S_uint64 t65) fun t66 =>
        opP Tryd.prog (bsem .quo Tryd.t_int true (.int .i64 (i : Int)) (Value.int .i64 64)) fun t68 =>
        opP Tryd.prog (Instr.indexAt Tryd.t_S_uint64 t66 t68) fun t69 =>
        opQ Tryd.prog w9.drew (Instr.loadAt Tryd.t_uint64 t69) fun t70 =>
        opP Tryd.prog (bsem .rem Tryd.t_int true (.int .i64 (i : Int)) (Value.int .i64 64)) fun t72 =>
        opP Tryd.prog (bsem .shl Tryd.t_uint64 true (Value.int .u64 1) t72) fun t73 =>
        opP Tryd.prog (bsem .or Tryd.t_uint64 false t70 t73) fun t74 =>
        opP Tryd.prog (Instr.indexAt Tryd.t_S_uint64 t62 t64) fun t75 =>
        opU Tryd.prog w9.drew (Instr.storeAt Tryd.t_uint64 t75 t74) fun w72 =>
        K14 [] w72 := fun hb => by
      have E := E.trans (Ext.drew w9)
      have B3 := B3.ext (Ext.drew w9); have B4 := B4.ext (Ext.drew w9); have B6 := B6.ext (Ext.drew w9); have B8 := B8.ext (Ext.drew w9); have hw := hw.ext (Ext.drew w9)
      have hidx : i / 64 < (turnAll (fun x y => x ||| y) (zeros W) (joinL how ws vs i)).length := by rw [turnAll_length, hzl]; omega
      obtain ⟨bw, cw, rfl, hbw, Bw, hcw, hset⟩ := hw.get hidx
      have h8w : b8 ≠ bw := by
        rintro rfl
        have := Bw.symm.trans B8; simp only [Option.some.injEq, Obj.cells.injEq] at this
        have := this.2.1; cases this
      have hix : ((i : Int) / 64).toNat = i / 64 := by omega
      (first | refine s_p ?_ | refine s_c (by omega) ?_); refine Tryd.ldB_S_uint64 B8 rfl ?_; (first | refine s_p ?_ | refine s_c (by omega) ?_); (first | refine s_p ?_ | refine s_c (by omega) ?_); refine Tryd.ldB_S_uint64 B8 rfl ?_; (first | refine s_p ?_ | refine s_c (by omega) ?_); (first | refine s_p ?_ | refine s_c (by omega) ?_)
      rw [hix, Nat.zero_add]
      refine Tryd.ldB_uint64 Bw hcw ?_
      (first | refine s_p ?_ | refine s_c (by omega) ?_)
      refine p_shl64 (by omega) (p_or64 ?_)
      rw [of64]
      (first | refine s_p ?_ | refine s_c (by omega) ?_)
      rw [hix, Nat.zero_add]
      refine Tryd.st_uint64 Bw (lt_of_some hcw) rfl fun w10 x10 s10 Bw10 => ?_
      refine hK14 _ _ (fun _ => ?_)
      (first | refine s_p ?_ | refine s_c (by omega) ?_)
      refine hK8 (i + 1) w10 ⟨hlt, E.but x10 (by intro k hk; omega), B3.but x10 (by omega), B4.but x10 (by omega), B6.but x10 (by omega), B8.but x10 h8w, ?_⟩ (by omega)
      rw [hstep true hb, if_pos rfl, turnAll_snoc]
      have := hset w10 _ Bw10
      unfold turnW
      rw [Int.toNat_natCast, List.getD_eq_getElem?_getD, List.getElem?_eq_getElem hidx]
      rw [show ((i : Int) % 64).toNat = i % 64 by omega] at this
      exact this
    clear hstep
    generalize bit ws i = x at hN hY ⊢
    generalize bit vs i = y at hN hY ⊢
    obtain rfl | rfl | rfl : how = 0 ∨ how = 1 ∨ how = 2 := by omega
    all_goals
      cases x <;> cases y <;>
      (repeat (first | (refine p_eql ?_) | (refine p_not ?_) | (refine g_T rfl ?_) | (refine g_N (by decide) ?_) | (refine k_pick ?_) | (intro K hK) | (refine hK _ _ (fun d => ?_)))) <;>
      first | exact c_T (hY rfl) | exact c_F (hN rfl)
  · have hi' : i = W.toNat := by omega
    subst hi'
    rw [join_all hm hm'] at hw
    refine Tryd.ldB_Row B8 rfl ?_
    refine Tryd.stB_Row B6 rfl rfl (by simp [Value.oneCell']) fun w9 x9 s9 B9 => ?_
    refine Tryd.ce_Row B9 rfl ?_
    refine h2 hm hm' rfl _ _ (E.but x9 (by intro k hk; omega)) ⟨p5, cap5, ?_, (hw.butT B6 (by decide) x9).mono (by omega)⟩
    rw [List.length_zipWith, hzl, show min ws.length vs.length = (W.toNat + 63) / 64 by omega]
end Go.Proofs
