/-
  Contracts: rows of bits (package bits): Count, Each.
-/
import Derived.Test.YtgbfpnnimnjbdaaDoorCc
import Derived.Test.YtgbfpnnimnjbdaaDoorBp
import Derived.Test.YtgbfpnnimnjbdaaDoorShG
namespace Go.Proofs
open Go.Sh Go.BM
set_option maxRecDepth 100000

/-- what Count and Each tell of a row -/
noncomputable def eachL (W : Int) (ws : List (BitVec 64)) : List Nat := if mayB W ws then bitsOf ws else []
theorem eachL_may {W : Int} {ws : List (BitVec 64)} (h : May W ws) : eachL W ws = bitsOf ws := by simp [eachL, mayB_true h]
theorem eachL_not {W : Int} {ws : List (BitVec 64)} (h : ¬ May W ws) : eachL W ws = [] := by simp [eachL, mayB_false h]

theorem c_bits_Count {w : World} {v : Value} {W : Int} {ws : List (BitVec 64)} {K : Value → World → Prop} (hr : RowV w v W ws)
    (h : ∀ w', Ext w w' → K (.int .i64 ((eachL W ws).length : Int)) w') : oCall Tryd.prog Tryd.n_bits_Count #[v] w K := by
  refine Tryd.ok_bits_Count ?_
  unfold Tryd.F_bits_Count
  have hr0 := hr
  obtain ⟨p, cap, rfl, hS, hp, hcap⟩ := hr
  refine w_box fun b w1 hb e1 s1 B => ?_
  intro K2 hK2
  refine Tryd.ldB_Row B rfl ?_
  refine c_bits_May (hr0.ext e1) fun w2 e2 => ?_
  have B := B.ext e2
  have E := e1.trans e2
  refine c_b (fun hm => ?_) (fun hm => ?_)
  · have hm := mayB_iff.1 hm
    rw [eachL_may hm] at h
    have hM := hm.2.2.1; have hW := hm.2.1
    (first | refine s_p ?_ | refine s_c (by omega) ?_); refine Tryd.ldB_S_uint64 B rfl ?_; (first | refine s_p ?_ | refine s_c (by omega) ?_)
    refine l_intro (ι := Nat) (fun i => [.int .i64 ((bitsFrom 0 (ws.take i)).length : Int), .int .i64 i])
      (fun i w' => i ≤ ws.length ∧ Ext w w') (fun i => ws.length - i) 0 rfl ⟨Nat.zero_le _, E⟩ ?_
    rintro i d w' ⟨hi, E⟩ K3 hK3
    simp only [List.getD_cons_zero, List.getD_cons_succ]
    (first | refine s_p ?_ | refine s_c (by omega) ?_)
    refine c_if (fun hlt => ?_) (fun hge => ?_)
    · have hlt : i < ws.length := by omega
      obtain ⟨b1, off, rfl, hc⟩ := (hS.ext E).at (i := i) (by simpa using hlt)
      (first | refine s_p ?_ | refine s_c (by omega) ?_)
      refine Tryd.ld_uint64 (v := u64 ws[i]) (by simpa using hc) ?_
      refine c_OnesCount64 ?_
      have h1 := bitsFrom_le (ws.take i) 0
      have h2 := wbits_le ws[i]
      have h3 : (ws.take i).length ≤ ws.length := by rw [List.length_take]; omega
      (repeat (first | refine s_p ?_ | refine s_c (by omega) ?_))
      have h4 := bitsFrom_take hlt 0
      have h5 : ((bitsFrom 0 (ws.take i)).length : Int) + ((wbits ws[i]).length : Int) = ((bitsFrom 0 (ws.take (i + 1))).length : Int) := by
        rw [h4, List.length_append, List.length_map]; omega
      rw [h5]
      exact hK3 (i + 1) w' ⟨hlt, E⟩ (by omega)
    · refine hK2 _ _ (fun _ => ?_)
      simp only [List.getD_cons_zero]
      rw [List.take_of_length_le (by omega)]
      exact h _ E
  · rw [eachL_not (fun hn => by rw [mayB_true hn] at hm; cases hm)] at h
    refine hK2 _ _ (fun _ => ?_)
    exact h _ E

/-- one number, as yield takes it -/
abbrev one1 (k : Nat) : List Value := [.int .i64 (k : Int)]
/-- a function value that ranges over xs, whatever the rounds write (not blocks n to m, nor the table) -/
def Iters (n m : Nat) (w : World) (g : Value) (xs : List (List Value)) : Prop :=
  (∃ gf cap, g = .func (.func gf) #[] cap) ∧ ∀ (S : Nat → Prop) (w2 : World), (∀ b, S b → (b < n ∨ m ≤ b) ∧ b ≠ 0) → Ext w w2 → IterC Tryd.prog g w2 xs S
theorem Iters.ext {n m : Nat} {w w' : World} {g : Value} {xs : List (List Value)} (h : Iters n m w g xs) (e : Ext w w') : Iters n m w' g xs := ⟨h.1, fun S w2 hS e2 => h.2 S w2 hS (e.trans e2)⟩

theorem drop_get {α : Type} {l : List α} {k : Nat} {x : α} {r : List α} (h : l.drop k = x :: r) : l[k]? = some x ∧ l.drop (k + 1) = r := by
  constructor
  · have : (l.drop k)[0]? = some x := by rw [h]; rfl
    rwa [List.getElem?_drop, Nat.add_zero] at this
  · rw [← List.drop_drop, h]; rfl

/-- .. the same, of what stays: a function value that ranges over xs where these blocks lie as they lay -/
def ItersG (q : Gh) (g : Value) (xs : List (List Value)) : Prop :=
  (∃ gf cap, g = .func (.func gf) #[] cap) ∧ ∀ (S : Nat → Prop) (w2 : World), (∀ b, S b → (∀ o, ¬ q b o) ∧ b ≠ 0) → Holds q w2 → Tab w2 → IterC Tryd.prog g w2 xs S
theorem Words.gh {w : World} {n : Nat} {p : Option Addr} {cap : Nat} {ws : List (BitVec 64)} (h : Words w n p cap ws) :
    ∃ s : Gh, Holds s w ∧ (∀ b o, s b o → n ≤ b) ∧ NoBook s ∧ ∀ w2, Holds s w2 → Words w2 n p cap ws ∧ ∀ g, p = some ⟨g, 0, none⟩ → ws ≠ [] → ∃ o, s g o := by
  rcases h.2.2 with rfl | ⟨b, c, rfl, hb, B, hc⟩
  · exact ⟨nothing, fun _ _ h => h.elim, fun _ _ h => h.elim, inferInstance, fun _ _ => ⟨⟨h.1, h.2.1, .inl rfl⟩, fun _ _ hn => absurd rfl hn⟩⟩
  · refine ⟨one b c Tryd.t_uint64, one_holds B, by rintro _ _ ⟨rfl, _⟩; exact hb, inferInstance, fun w2 k => ⟨⟨h.1, h.2.1, .inr ⟨b, c, rfl, hb, one_blk w2 k, hc⟩⟩, fun g hg _ => ?_⟩⟩
    cases hg; exact ⟨_, rfl, rfl⟩

theorem c_bits_EachG {w : World} {v : Value} {W : Int} {ws : List (BitVec 64)} {K : Value → World → Prop} (hr : RowV w v W ws)
    (h : ∀ g q w', Ext w w' → New w q w' → NoBook q → ItersG q g ((eachL W ws).map one1) → K g w') : oCall Tryd.prog Tryd.n_bits_Each #[v] w K := by
  refine Tryd.ok_bits_Each ?_
  unfold Tryd.F_bits_Each
  have hr0 := hr
  obtain ⟨p, cap, rfl, hS, hp, hcap⟩ := hr
  refine w_box fun b1 w1 hb1 e1 s1 B1 => ?_
  refine Tryd.ldB_Row B1 rfl ?_
  refine c_bits_Own (hr0.ext e1) (fun hm w2 e2 => ?_) (fun hm v2 w2 e2 hf => ?_)
  · have B1 := B1.ext e2
    (repeat (first | refine s_p ?_ | refine s_c (by omega) ?_))
    refine Tryd.al_Errno fun b3 w3 hb3 e3 s3 B3 => ?_
    have B1 := B1.ext e3
    have hs := e2.size
    refine Tryd.stB_Row B1 rfl rfl (by simp [Value.oneCell']) fun w4 x4 s4 B1 => ?_
    have B3 := B3.but x4 (by omega)
    refine Tryd.st_Errno B3 (by simp) rfl fun w5 x5 s5 B3 => ?_
    (first | refine s_p ?_ | refine s_c (by omega) ?_)
    rw [eachL_not hm] at h
    refine h _ (one _ _ _) _ ((((e1.trans e2).trans e3).but x4 (by intro k hk; omega)).but x5 (by intro k hk; omega)) (New.one B3 (by have := e1.size; omega)) inferInstance ⟨⟨_, _, rfl⟩, fun S w6 _ h6 _ => ?_⟩
    have B3 := one_blk w6 h6
    refine ⟨_, _, rfl, by kernel_rfl, fun l W1 J Jx hW hl hlt hJ hJx hround hJ0 => ?_⟩
    refine Calls.mono (Tryd.ok_bits_Each_1 (t0 := .func (.yield l) #[] #[]) (t1 := .pointer (some ⟨b3, 0, none⟩)) (t2 := .pointer (some ⟨b1, 0, none⟩)) (K := fun _ W' => J 0 W' ∨ Jx W') ?_) (fun e W' hh => by obtain ⟨v, he, hk⟩ := hh; exact ⟨⟨v, he⟩, hk⟩)
    unfold Tryd.F_bits_Each_1
    refine Tryd.ldB_Errno (B3.ext hW) rfl ?_
    (first | refine s_p ?_ | refine s_c (by omega) ?_)
    exact c_T (.inl hJ0)
  · have B1 := B1.ext e2
    obtain ⟨p2, cap2, rfl, hw2⟩ := hf
    (repeat (first | refine s_p ?_ | refine s_c (by omega) ?_))
    refine Tryd.al_Errno fun b3 w3 hb3 e3 s3 B3 => ?_
    have B1 := B1.ext e3
    have hs := e2.size; have hs1 := e1.size
    have hw2 := hw2.ext e3
    refine Tryd.stB_Row B1 rfl rfl (by simp [Value.oneCell']) fun w4 x4 s4 B1 => ?_
    have B3 := B3.but x4 (by omega)
    have hw2 := hw2.but x4 (fun g _ h1 h2 => by omega)
    have hg3 : ∀ g, p2 = some ⟨g, 0, none⟩ → ws ≠ [] → g ≠ b3 := by
      intro g hg hne hgb
      rcases hw2.2.2 with h | ⟨b, c, h1, _, h3, _⟩
      · exact absurd h hne
      · rw [hg] at h1; cases h1; subst hgb
        have := h3.symm.trans B3; simp only [Option.some.injEq, Obj.cells.injEq] at this
        have := this.2.1; cases this
    refine Tryd.st_Errno B3 (by simp) rfl fun w5 x5 s5 B3 => ?_
    have B1 := B1.but x5 (by omega)
    have hw5 : Words w5 w1.heap.size p2 cap2 ws := by
      rcases hw2.2.2 with h | ⟨b, c, q1, q2, q3, q4⟩
      · exact ⟨hw2.1, hw2.2.1, .inl h⟩
      · by_cases hne : ws = []
        · exact ⟨hw2.1, hw2.2.1, .inl hne⟩
        · exact ⟨hw2.1, hw2.2.1, .inr ⟨b, c, q1, q2, q3.but x5 (by have := hg3 b q1 hne; omega), q4⟩⟩
    (first | refine s_p ?_ | refine s_c (by omega) ?_)
    rw [eachL_may hm] at h
    have hE5 : Ext w w5 := (((e1.trans e2).trans e3).but x4 (by intro k hk; omega)).but x5 (by intro k hk; omega)
    obtain ⟨sw, hsw1, hsw2, nbw, hsw⟩ := hw5.gh
    refine h _ (((one _ _ _).or (one _ _ _)).or sw) _ hE5 ⟨((one_holds B1).or (one_holds B3)).or hsw1, fun b o hb => ?_⟩ inferInstance ⟨⟨_, _, rfl⟩, fun S w6 hSb h6 hT6 => ?_⟩
    · rcases hb with (hb | hb) | hb
      · rw [hb.1]; omega
      · rw [hb.1]; omega
      · have := hsw2 b o hb; omega
    have B1 : Blk w6 b1 [.int .i64 W, .slice p2 ws.length cap2] Tryd.t_Row := one_blk w6 (fun b o h => h6 b o (.inl (.inl h)))
    have B3 : Blk w6 b3 [err 0] Tryd.t_Errno := one_blk w6 (fun b o h => h6 b o (.inl (.inr h)))
    obtain ⟨hw6, hdom⟩ := hsw w6 (fun b o h => h6 b o (.inr h))
    have hS1 : ¬ S b1 := fun hb => (hSb _ hb).1 _ (.inl (.inl ⟨rfl, rfl⟩))
    have hS3 : ¬ S b3 := fun hb => (hSb _ hb).1 _ (.inl (.inr ⟨rfl, rfl⟩))
    have hS0 : ¬ S 0 := fun hb => (hSb _ hb).2 rfl
    refine ⟨_, _, rfl, by kernel_rfl, fun l W1 J Jx hW hl hlt hJ hJx hround hJ0 => ?_⟩
    have hb1l := B1.lt
    have hb3l := B3.lt
    have h0l : 0 < w6.heap.size := by omega
    generalize hxs : (bitsOf ws).map one1 = xs at hround
    refine Calls.mono (Tryd.ok_bits_Each_1 (t0 := .func (.yield l) #[] #[]) (t1 := .pointer (some ⟨b3, 0, none⟩)) (t2 := .pointer (some ⟨b1, 0, none⟩)) (K := fun _ W' => J xs.length W' ∨ Jx W') ?_) (fun e W' hh => by obtain ⟨v, he, hk⟩ := hh; exact ⟨⟨v, he⟩, hk⟩)
    unfold Tryd.F_bits_Each_1
    have B1 := B1.ext hW; have B3 := B3.ext hW
    have hT := hT6.ext hW
    have hw := hw6.ext hW
    refine Tryd.ldB_Errno B3 rfl ?_
    (first | refine s_p ?_ | refine s_c (by omega) ?_)
    refine c_F ?_
    have hM := hm.2.2.1; have hW3 := hm.2.1
    (first | refine s_p ?_ | refine s_c (by omega) ?_); refine Tryd.ldB_S_uint64 B1 rfl ?_; (first | refine s_p ?_ | refine s_c (by omega) ?_)
    have keep : ∀ {Wa Wb : World}, ExtBut (fun b => S b ∨ b = l) Wa Wb → w6.heap.size ≤ Wa.heap.size →
        Blk Wa b1 [.int .i64 W, .slice p2 ws.length cap2] Tryd.t_Row ∧ Tab Wa ∧ Words Wa w1.heap.size p2 cap2 ws → ws ≠ [] →
        Blk Wb b1 [.int .i64 W, .slice p2 ws.length cap2] Tryd.t_Row ∧ Tab Wb ∧ Words Wb w1.heap.size p2 cap2 ws := by
      rintro Wa Wb x hsz ⟨k1, k2, k3⟩ hne
      refine ⟨k1.but x ?_, k2.but x ?_, k3.but x ?_⟩
      · rintro (hn | hn)
        · exact hS1 hn
        · omega
      · rintro (hn | hn)
        · exact hS0 hn
        · omega
      · intro g hg h1 h2
        obtain ⟨o, ho⟩ := hdom g hg hne
        rintro (hn | hn)
        · exact (hSb _ hn).1 o (.inr ho)
        · have := h6.lt (.inr ho); omega
    refine l_intro (ι := Nat) (fun i => [.int .i64 i])
      (fun i w' => i ≤ ws.length ∧ w6.heap.size ≤ w'.heap.size ∧ (Blk w' b1 [.int .i64 W, .slice p2 ws.length cap2] Tryd.t_Row ∧ Tab w' ∧ Words w' w1.heap.size p2 cap2 ws) ∧
        ∃ k, xs.drop k = (bitsFrom i (ws.drop i)).map one1 ∧ k ≤ xs.length ∧ J k w')
      (fun i => ws.length - i) 0 rfl ⟨Nat.zero_le _, hW.size, ⟨B1, hT, hw⟩, 0, by rw [← hxs]; rfl, Nat.zero_le _, hJ0⟩ ?_
    rintro i d w7 ⟨hi, hsz, hk, k, hdrop, hkl, hJk⟩ K8 hK8
    simp only [List.getD_cons_zero]
    (first | refine s_p ?_ | refine s_c (by omega) ?_)
    refine c_if (fun hlt => ?_) (fun hge => ?_)
    · have hlt : i < ws.length := by omega
      obtain ⟨bw, cw, hpw, hbw, Bw, hcw, _⟩ := hk.2.2.get hlt
      subst hpw
      have hne : ws ≠ [] := by intro h0; rw [h0] at hlt; simp at hlt
      (first | refine s_p ?_ | refine s_c (by omega) ?_)
      rw [show 0 + ((i : Int)).toNat = i by omega]
      refine Tryd.ldB_uint64 Bw hcw ?_
      rw [bitsFrom_drop hlt, List.map_append, List.map_map] at hdrop
      refine l_intro (ι := BitVec 64) (fun x => [u64 x])
        (fun x w' => w6.heap.size ≤ w'.heap.size ∧ (Blk w' b1 [.int .i64 W, .slice (some ⟨bw, 0, none⟩) ws.length cap2] Tryd.t_Row ∧ Tab w' ∧ Words w' w1.heap.size (some ⟨bw, 0, none⟩) cap2 ws) ∧
          ∃ k, xs.drop k = (wbits x).map (one1 ∘ (64 * i + ·)) ++ (bitsFrom (i + 1) (ws.drop (i + 1))).map one1 ∧ k ≤ xs.length ∧ J k w')
        (fun x => (wbits x).length) ws[i] rfl ⟨hsz, hk, k, hdrop, hkl, hJk⟩ ?_
      clear hdrop hkl hJk hsz hk Bw hcw k
      rintro x d w8 ⟨hsz, hk, k, hdrop, hkl, hJk⟩ K9 hK9
      simp only [List.getD_cons_zero]
      refine p_neq ?_
      refine c_if (fun hx => ?_) (fun hx => ?_)
      · have hx : x ≠ 0#64 := by rintro rfl; exact hx rfl
        obtain ⟨t, ht, hlow, hwb⟩ := low_bit hx
        (first | refine s_p ?_ | refine s_c (by omega) ?_)
        refine c_TrailingZeros64 hk.2.1 hx ht hlow ?_
        (first | refine s_p ?_ | refine s_c (by omega) ?_)
        refine v_yield ?_
        rw [hwb, List.map_cons, List.cons_append] at hdrop
        have hd := drop_get hdrop
        have hkk : k < xs.length := (List.getElem?_eq_some_iff.1 hd.1).1
        refine YieldC.mono (hround k _ w8 hd.1 hJk) ?_
        rintro e w9 ⟨bb, rfl, x9, hJb⟩
        refine ⟨_, rfl, ?_⟩
        (first | refine s_p ?_ | refine s_c (by omega) ?_)
        refine c_b (fun hbb => ?_) (fun hbb => ?_)
        · have hbb : bb = false := by simpa using hbb
          subst hbb
          exact .inr hJb
        · have hbb : bb = true := by simpa using hbb
          subst hbb
          (first | refine s_p ?_ | refine s_c (by omega) ?_)
          refine p_and64 ?_
          rw [of64]
          refine hK9 _ _ ⟨Nat.le_trans hsz x9.size, keep x9 hsz hk hne, k + 1, ?_, hkk, hJb⟩ ?_
          · exact hd.2
          · rw [hwb]; exact Nat.lt_succ_self _
      · have hx : x = 0#64 := BitVec.eq_of_toNat_eq (by have : (0#64).toNat = 0 := rfl; omega)
        subst hx
        (repeat (first | refine s_p ?_ | refine s_c (by omega) ?_))
        rw [wbits_zero, List.map_nil, List.nil_append] at hdrop
        exact hK8 (i + 1) w8 ⟨hlt, hsz, hk, k, hdrop, hkl, hJk⟩ (by omega)
    · have hi' : i = ws.length := by omega
      subst hi'
      rw [List.drop_length] at hdrop
      have : k = xs.length := by
        have h1 : (xs.drop k).length = 0 := by rw [hdrop]; rfl
        rw [List.length_drop] at h1; omega
      subst this
      exact .inl hJk
theorem c_bits_Each {w : World} {v : Value} {W : Int} {ws : List (BitVec 64)} {K : Value → World → Prop} (hT : Tab w) (hr : RowV w v W ws)
    (h : ∀ g w', Ext w w' → Iters w.heap.size w'.heap.size w' g ((eachL W ws).map one1) → K g w') : oCall Tryd.prog Tryd.n_bits_Each #[v] w K :=
  c_bits_EachG hr fun g q w' e n _ hI => h g w' e ⟨hI.1, fun S w2 hS e2 => hI.2 S w2 (fun b hb => ⟨fun o ho => by
    have := n.fresh b o ho; have := n.holds.lt ho; have := (hS b hb).1; omega, (hS b hb).2⟩) (n.holds.ext e2) ((hT.ext e).ext e2)⟩
end Go.Proofs
