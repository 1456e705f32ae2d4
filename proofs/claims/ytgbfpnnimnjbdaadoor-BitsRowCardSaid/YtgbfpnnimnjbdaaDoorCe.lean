/-
  Contracts: rows of bits (package bits): First, Has.
-/
import Derived.Test.YtgbfpnnimnjbdaaDoorCd
import Derived.Test.YtgbfpnnimnjbdaaDoorBq
import Derived.Test.YtgbfpnnimnjbdaaDoorShC
namespace Go.Proofs
open Go.Sh Go.BM
set_option maxRecDepth 100000

theorem Words.butT {w w' : World} {b n : Nat} {c : List Value} {T : TypeId} {p : Option Addr} {cap : Nat} {ws : List (BitVec 64)} (h : Words w n p cap ws) (B : Blk w b c T) (hT : T ≠ Tryd.t_uint64) (e : ExtBut (· = b) w w') :
    Words w' n p cap ws :=
  ⟨h.1, h.2.1, h.2.2.imp id fun ⟨b', c', h1, h2, h3, h4⟩ => ⟨b', c', h1, h2, h3.but e (fun hb => by
    subst hb
    have := h3.symm.trans B; simp only [Option.some.injEq, Obj.cells.injEq] at this
    exact hT this.2.1.symm), h4⟩⟩
theorem FreshRow.butT {w w' : World} {b n : Nat} {c : List Value} {T : TypeId} {v : Value} {W : Int} {ws : List (BitVec 64)} (h : FreshRow w n v W ws) (B : Blk w b c T) (hT : T ≠ Tryd.t_uint64) (e : ExtBut (· = b) w w') :
    FreshRow w' n v W ws := by
  obtain ⟨p, cap, h1, h⟩ := h; exact ⟨p, cap, h1, h.butT B hT e⟩
/-- the bits that the one row has and the other lacks -/
def lackL (W : Int) (ws vs : List (BitVec 64)) : List Nat := (List.range W.toNat).filter fun k => bit vs k && !bit ws k
theorem lack_each {W : Int} {ws vs : List (BitVec 64)} (h : May W ws) (h' : May W vs) : eachL W (List.zipWith (fun x y => x &&& ~~~ y) vs ws) = lackL W ws vs := by
  have hl : vs.length = ws.length := by have := h.2.2.1; have := h'.2.2.1; omega
  have hz : (0 : BitVec 64) &&& ~~~ 0 = 0 := by decide
  have hm := may_zip (g := fun x y => x &&& ~~~ y) (h := fun a b => a && !b) less_bit hz rfl h' h
  rw [eachL_may hm, bitsOf_may hm, lackL]
  apply List.filter_congr
  intro k _
  exact bit_zip (h := fun a b => a && !b) less_bit hz hl k
def firstV (l : List Nat) : Value := .tuple #[.int .i64 ((l.headD 0 : Nat) : Int), .bool (!l.isEmpty), err 0]

theorem c_bits_First {w : World} {va vb : Value} {W W2 : Int} {ws vs : List (BitVec 64)} {K : Value → World → Prop} (hT : Tab w)
    (hr : RowV w va W ws) (hq : RowV w vb W2 vs)
    (h1 : ¬ (May W ws ∧ May W2 vs ∧ W = W2) → ∀ w', Ext w w' → K (.tuple #[.int .i64 0, .bool false, err 2]) w')
    (h2 : May W ws → May W2 vs → W = W2 → ∀ w', Ext w w' → K (firstV (lackL W ws vs)) w') : oCall Tryd.prog Tryd.n_bits_First #[va, vb] w K := by
  refine Tryd.ok_bits_First ?_
  unfold Tryd.F_bits_First
  have hr0 := hr; have hq0 := hq
  obtain ⟨p, cap, rfl, hS, hp, hcap⟩ := hr
  obtain ⟨p', cap', rfl, hS', hp', hcap'⟩ := hq
  refine w_box fun b2 w1 hb2 e1 s1 B2 => ⟨NC.of_ext e1, ?_⟩
  refine w_box fun b3 w2 hb3 e2 s2 B3 => ⟨NC.of_ext e2, ?_⟩
  refine Tryd.al_int fun b4 w3 hb4 e3 s3 B4 => ⟨NC.of_ext e3, ?_⟩
  refine Tryd.al_bool fun b5 w4 hb5 e4 s4 B5 => ⟨NC.of_ext e4, ?_⟩
  refine Tryd.al_Errno fun b6 w5 hb6 e5 s5 B6 => ⟨NC.of_ext e5, ?_⟩
  have B2 := (((B2.ext e2).ext e3).ext e4).ext e5; have B3 := ((B3.ext e3).ext e4).ext e5; have B4 := (B4.ext e4).ext e5; have B5 := B5.ext e5
  have E5 := (((e1.trans e2).trans e3).trans e4).trans e5
  refine Tryd.ldB_Row B3 rfl ?_
  refine Tryd.ldB_Row B2 rfl ?_
  refine c_bits_Less (hq0.ext E5) (hr0.ext E5) (fun hn w6 e6 => ⟨NC.of_ext e6, ?_⟩) (fun hm hm' hw v6 w6 e6 hf => ⟨NC.of_ext e6, ?_⟩)
  · have B4 := B4.ext e6; have B5 := B5.ext e6; have B6 := B6.ext e6
    have hsz := e6.size
    (repeat (first | refine s_p ?_ | refine s_c (by omega) ?_))
    refine Tryd.al_Row fun b7 w7 hb7 e7 s7 B7 => ⟨NC.of_ext e7, ?_⟩
    have B4 := B4.ext e7; have B5 := B5.ext e7; have B6 := B6.ext e7
    refine Tryd.stB_Row B7 rfl rfl (by simp [Value.oneCell']) fun w8 x8 s8 B7' => ⟨NC.of_b B7 x8, ?_⟩
    have B4 := B4.but x8 (by omega); have B5 := B5.but x8 (by omega); have B6 := B6.but x8 (by omega)
    refine Tryd.st_Errno B6 (by simp) rfl fun w9 x9 s9 B6' => ⟨NC.of_b B6 x9, ?_⟩
    have B4 := B4.but x9 (by omega); have B5 := B5.but x9 (by omega)
    have E9 : Ext w w9 := (((E5.trans e6).trans e7).but x8 (by intro k hk; omega)).but x9 (by intro k hk; omega)
    refine Tryd.ldB_Errno B6' rfl ?_
    (first | refine s_p ?_ | refine s_c (by omega) ?_)
    refine c_T ?_
    have B4 := Blk.ext B4 (Ext.drew w9); have B5 := Blk.ext B5 (Ext.drew w9); have B6 := Blk.ext B6' (Ext.drew w9)
    refine Tryd.ldB_Errno B6 rfl ?_
    refine Tryd.st_int B4 (by simp) rfl fun w10 x10 s10 B4' => ⟨NC.of_b B4 x10, ?_⟩
    have e10 := Ext.of_same B4 x10 B4'
    refine ⟨e10, ?_⟩
    have B5 := B5.ext e10; have B6 := B6.ext e10
    refine Tryd.st_bool B5 (by simp) rfl fun w11 x11 s11 B5' => ⟨NC.of_b B5 x11, ?_⟩
    have e11 := Ext.of_same B5 x11 B5'
    refine ⟨e11, ?_⟩
    have B4 := B4'.ext e11; have B6 := B6.ext e11
    refine Tryd.st_Errno B6 (by simp) rfl fun w12 x12 s12 B6' => ⟨NC.of_b B6 x12, ?_⟩
    have B4 := B4.but x12 (by omega); have B5 := B5'.but x12 (by omega)
    intro w13 sh
    refine Tryd.ce_int (B4.shuts sh) ?_
    refine Tryd.ce_bool (B5.shuts sh) ?_
    refine Tryd.ce_Errno (B6'.shuts sh) ?_
    refine h1 (fun hq => hn ⟨hq.2.1, hq.1, hq.2.2.symm⟩) _ (Ext.shut ?_ sh)
    exact (((E9.trans (Ext.drew w9)).trans e10).trans e11).but x12 (by intro k hk; omega)
  · subst hw
    have B4 := B4.ext e6; have B5 := B5.ext e6; have B6 := B6.ext e6
    have hsz := e6.size
    obtain ⟨p3, cap3, rfl⟩ := hf.shape
    (repeat (first | refine s_p ?_ | refine s_c (by omega) ?_))
    refine Tryd.al_Row fun b7 w7 hb7 e7 s7 B7 => ⟨NC.of_ext e7, ?_⟩
    have B4 := B4.ext e7; have B5 := B5.ext e7; have B6 := B6.ext e7
    have hf := hf.ext e7
    refine Tryd.stB_Row B7 rfl rfl (by simp [Value.oneCell']) fun w8 x8 s8 B7' => ⟨NC.of_b B7 x8, ?_⟩
    have B4 := B4.but x8 (by omega); have B5 := B5.but x8 (by omega); have B6 := B6.but x8 (by omega)
    have hf := hf.butT B7 (by decide) x8
    refine Tryd.st_Errno B6 (by simp) rfl fun w9 x9 s9 B6' => ⟨NC.of_b B6 x9, ?_⟩
    have B4 := B4.but x9 (by omega); have B5 := B5.but x9 (by omega); have B7 := B7'.but x9 (by omega)
    have E9 : Ext w w9 := (((E5.trans e6).trans e7).but x8 (by intro k hk; omega)).but x9 (by intro k hk; omega)
    refine Tryd.ldB_Errno B6' rfl ?_
    (first | refine s_p ?_ | refine s_c (by omega) ?_)
    refine c_F ?_
    refine Tryd.ldB_Row B7 rfl ?_
    have hf := hf.butT B6 (by decide) x9
    have hT9 := hT.ext E9
    refine c_bits_Each hT9 hf.row fun g w10 e10 hI => ⟨NC.of_ext e10, ?_⟩
    have B4 := B4.ext e10; have B5 := B5.ext e10; have B6 := B6'.ext e10
    have E10 := E9.trans e10
    rw [lack_each hm' hm] at hI
    have hsz9 := E9.size
    have h0 : 0 < w.heap.size := cell_lt (hT 0 (by decide))
    refine r_first _ (fun b => b = b4 ∨ b = b5 ∨ b = b6)
      (fun W => Ext w W ∧ Blk W b4 [.int .i64 0] Tryd.t_int ∧ Blk W b5 [.bool false] Tryd.t_bool ∧ Blk W b6 [.int .i64 0] Tryd.t_Errno)
      (fun W => Ext w W ∧ Blk W b4 [.int .i64 (((lackL W2 ws vs).headD 0 : Nat) : Int)] Tryd.t_int ∧ Blk W b5 [.bool true] Tryd.t_bool ∧ Blk W b6 [.int .i64 0] Tryd.t_Errno)
      ?_ (hI.2 _ _ ?_ (Ext.refl _)) ?_ ?_ ?_ ⟨E10, B4, B5, B6⟩ ?_ ?_ ?_
    · rintro b (rfl | rfl | rfl)
      · exact B4.nb
      · exact B5.nb
      · exact B6.nb
    · rintro b hb
      omega
    · intro x hx
      obtain ⟨k, _, rfl⟩ := List.mem_map.1 hx; rfl
    · rintro W W' ⟨h1, h2, h3, h4⟩ e
      exact ⟨h1.nl E10.size e, h2.nl e, h3.nl e, h4.nl e⟩
    · rintro W W' ⟨h1, h2, h3, h4⟩ e
      exact ⟨h1.nl E10.size e, h2.nl e, h3.nl e, h4.nl e⟩
    · rintro x r W hxs ⟨hE, B4, B5, B6⟩ KR hKR
      refine ⟨Ext.refl _, fun w14 nl => ?_⟩
      have hE := hE.nl E10.size nl; have B4 := B4.nl nl; have B5 := B5.nl nl; have B6 := B6.nl nl
      cases hl : lackL W2 ws vs with
      | nil => rw [hl] at hxs; cases hxs
      | cons k l =>
        rw [hl] at hxs; cases hxs
        simp only [List.getD_cons_zero]
        refine Tryd.st_int B4 (by simp) rfl fun w15 x15 s15 B4' => ⟨NC.of_b B4 x15, ?_⟩
        have B5 := B5.but x15 (by omega); have B6 := B6.but x15 (by omega)
        refine Tryd.st_bool B5 (by simp) rfl fun w16 x16 s16 B5' => ⟨NC.of_b B5 x16, ?_⟩
        have B4 := B4'.but x16 (by omega); have B6 := B6.but x16 (by omega)
        refine Tryd.st_Errno B6 (by simp) rfl fun w17 x17 s17 B6' => ⟨NC.of_b B6 x17, ?_⟩
        have B4 := B4.but x17 (by omega); have B5 := B5'.but x17 (by omega)
        refine ⟨((x15.mono (by rintro k _ rfl; exact .inl rfl)).trans (x16.mono (by rintro k _ rfl; exact .inr (.inl rfl)))).trans (x17.mono (by rintro k _ rfl; exact .inr (.inr rfl))), ?_⟩
        refine hKR _ ⟨((hE.but x15 (by intro k hk; omega)).but x16 (by intro k hk; omega)).but x17 (by intro k hk; omega), ?_, B5, B6'⟩
        rw [hl]; exact B4
    · rintro hxs W ⟨hE, B4, B5, B6⟩
      refine Tryd.st_int B4 (by simp) rfl fun w15 x15 s15 B4' => ⟨NC.of_b B4 x15, ?_⟩
      have B5 := B5.but x15 (by omega); have B6 := B6.but x15 (by omega)
      refine Tryd.st_bool B5 (by simp) rfl fun w16 x16 s16 B5' => ⟨NC.of_b B5 x16, ?_⟩
      have B4 := B4'.but x16 (by omega); have B6 := B6.but x16 (by omega)
      refine Tryd.st_Errno B6 (by simp) rfl fun w17 x17 s17 B6' => ⟨NC.of_b B6 x17, ?_⟩
      have B4 := B4.but x17 (by omega); have B5 := B5'.but x17 (by omega)
      have hE := ((hE.but x15 (by intro k hk; omega)).but x16 (by intro k hk; omega)).but x17 (by intro k hk; omega)
      intro w18 sh
      refine Tryd.ce_int (B4.shuts sh) ?_
      refine Tryd.ce_bool (B5.shuts sh) ?_
      refine Tryd.ce_Errno (B6'.shuts sh) ?_
      have hk := h2 hm' hm rfl _ (Ext.shut hE sh)
      have hl : lackL W2 ws vs = [] := List.map_eq_nil_iff.1 hxs
      rw [hl] at hk; exact hk
    · rintro x r hxs W ⟨hE, B4, B5, B6⟩
      intro w18 sh
      refine Tryd.ce_int (B4.shuts sh) ?_
      refine Tryd.ce_bool (B5.shuts sh) ?_
      refine Tryd.ce_Errno (B6.shuts sh) ?_
      have hk := h2 hm' hm rfl _ (Ext.shut hE sh)
      cases hl : lackL W2 ws vs with
      | nil => rw [hl] at hxs; cases hxs
      | cons k l => rw [hl] at hk; exact hk

theorem c_bits_Has {w : World} {va vb : Value} {W W2 : Int} {ws vs : List (BitVec 64)} {K : Value → World → Prop} (hT : Tab w)
    (hr : RowV w va W ws) (hq : RowV w vb W2 vs)
    (h1 : ¬ (May W ws ∧ May W2 vs ∧ W = W2) → ∀ w', Ext w w' → K (.tuple #[.bool false, err 2]) w')
    (h2 : May W ws → May W2 vs → W = W2 → ∀ w', Ext w w' → K (.tuple #[.bool (lackL W ws vs).isEmpty, err 0]) w') : oCall Tryd.prog Tryd.n_bits_Has #[va, vb] w K := by
  refine Tryd.ok_bits_Has ?_
  unfold Tryd.F_bits_Has
  have hr0 := hr; have hq0 := hq
  obtain ⟨p, cap, rfl, hS, hp, hcap⟩ := hr
  obtain ⟨p', cap', rfl, hS', hp', hcap'⟩ := hq
  refine w_box fun b2 w1 hb2 e1 s1 B2 => ?_
  refine w_box fun b3 w2 hb3 e2 s2 B3 => ?_
  have B2 := B2.ext e2
  have E2 := e1.trans e2
  refine Tryd.ldB_Row B2 rfl ?_
  refine Tryd.ldB_Row B3 rfl ?_
  refine c_bits_First (hT.ext E2) (hr0.ext E2) (hq0.ext E2) (fun hn w3 e3 => ?_) (fun hm hm' hw w3 e3 => ?_)
  · (repeat (first | refine s_p ?_ | refine s_c (by omega) ?_))
    refine j_and (fun _ => ?_) (fun hn => by cases hn)
    exact h1 hn _ (E2.trans e3)
  · unfold firstV
    (repeat (first | refine s_p ?_ | refine s_c (by omega) ?_))
    refine j_and (fun hn => absurd rfl hn) (fun _ => ?_)
    intro K3 hK3
    (first | refine s_p ?_ | refine s_c (by omega) ?_)
    refine hK3 _ _ ?_
    rw [Bool.not_not]
    exact h2 hm hm' hw _ (E2.trans e3)
end Go.Proofs
