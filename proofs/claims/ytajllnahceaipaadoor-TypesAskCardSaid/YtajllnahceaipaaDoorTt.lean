/-
  The law TypesAsk.
-/
import Derived.Test.YtajllnahceaipaaDoorTs
namespace Go.Proofs
open Go.Sh
set_option maxRecDepth 100000
set_option linter.unusedSimpArgs false

/-- a pair of a row, to be read -/
theorem pair_at {w : World} {p : Option Addr} {l : List (Int × Int)} (h : Sl w p (cons2 l)) {i : Nat} (hi : i < l.length) :
    ∃ b off, p = some ⟨b, off, none⟩ ∧ ∀ j v, ([.int .i64 l[i].1, .int .i64 l[i].2] : List Value)[j]? = some v → w.cell? ⟨b, off + i * 2 + j, none⟩ = some v := by
  have hx : ∀ (l : List (Int × Int)) (i : Nat) (hi : i < l.length) (j : Nat) (v : Value), ([.int .i64 l[i].1, .int .i64 l[i].2] : List Value)[j]? = some v → (cons2 l)[i * 2 + j]? = some v := by
    intro l
    induction l with
    | nil => intro i hi; cases hi
    | cons p l ih =>
      intro i hi j v hj
      rw [show cons2 (p :: l) = [.int .i64 p.1, .int .i64 p.2] ++ cons2 l from rfl]
      cases i with
      | zero =>
        have hj2 : j < 2 := (List.getElem?_eq_some_iff.1 hj).1
        rw [Nat.zero_mul, Nat.zero_add, List.getElem?_append_left (by simpa using hj2)]
        exact hj
      | succ i =>
        rw [List.getElem?_append_right (by simp; omega)]
        have := ih i (by simpa using hi) j v hj
        rw [← this]; congr 1; simp; omega
  have h0 := hx l i hi 0 _ rfl
  obtain ⟨b, off, rfl, _⟩ := h _ _ h0
  refine ⟨b, off, rfl, fun j v hj => ?_⟩
  obtain ⟨b', off', hp, hc⟩ := h _ _ (hx l i hi j v hj)
  cases hp
  rw [← hc, Nat.add_assoc]
/-- an element of a row of one's own is written over -/
theorem _root_.Go.Sh.StX.stRow {P : Program} {X : Nat → Prop} {w0 w : World} {r : Gh} {L : List Asr} {e t : TypeId} {sz n cap b i : Nat} {xs : List Value} {f : Asr → List Asr} {cs : Array Value} {K : World → Prop} (S : StX X w0 r w L)
    [h : RowAt (.slice (some ⟨b, 0, none⟩) n cap) L e sz n xs f] [z : SzT P t sz] (hi : i < n) (k : ∀ w', StX X w0 r w' (f (.row (.slice (some ⟨b, 0, none⟩) n cap) e sz n (xs.take (i * sz) ++ cs.toList ++ xs.drop (i * sz + sz)))) → K w')
    (hcs : cs.size = sz := by rfl) (h1 : ∀ u ∈ cs.toList, u.oneCell' = true := by simp [Value.oneCell']) : opU P w (Instr.storeAt t (.pointer (some ⟨b, i * sz, none⟩)) (.agg cs)) K := by
  obtain ⟨pp, qq, h2, h3⟩ := h.h
  have hr := S.has (.row (.slice (some ⟨b, 0, none⟩) n cap) e sz n xs) (by rw [h2]; simp)
  rcases own_blk hr with ⟨h0, _⟩ | ⟨g, cap', c, hv, hb, B, hn, hm, hc, ht⟩
  · cases h0
  cases hv
  have hle : i * sz + sz ≤ n * sz := by rw [← Nat.succ_mul]; exact Nat.mul_le_mul_right _ hi
  have hle2 : n * sz ≤ cap * sz := Nat.mul_le_mul_right _ hn
  refine w_store (v := .agg cs) (by rw [show (Value.agg cs).cells.size = sz from hcs]; exact z.h) B (by rw [show (Value.agg cs).cells.size = sz from hcs]; omega) h1 fun w' x _ B' => k w' ?_
  rw [show (Value.agg cs).cells.size = sz from hcs, show (Value.agg cs).cells = cs from rfl] at B'
  rw [h3]
  rw [h2] at S
  refine S.turn (x := .row (.slice (some ⟨b, 0, none⟩) n cap) e sz n xs) (y := .row (.slice (some ⟨b, 0, none⟩) n cap) e sz n (xs.take (i * sz) ++ cs.toList ++ xs.drop (i * sz + sz))) ⟨x.os, x.tape, x.output, x.size, fun k hk hn => x.block k hk fun he => hn (by subst he; rfl)⟩ ?_ fun k hk => .inl hk
  have hcl : cs.toList.length = sz := by simpa using hcs
  have := own_of_blk (base := 0) (size := sz) (n := n) (cap := cap) (Nat.zero_le _) B' hn hm (by simp only [List.length_append, List.length_take, List.length_drop, hcl, hc]; omega)
  have he : (c.take (i * sz) ++ cs.toList ++ c.drop (i * sz + sz)).take (n * sz) = xs.take (i * sz) ++ cs.toList ++ xs.drop (i * sz + sz) := by
    rw [← ht, List.take_take, Nat.min_eq_left (by omega), List.take_append, List.take_of_length_le (by simp only [List.length_append, List.length_take, hcl, hc]; omega), List.drop_take]
    congr 2
    simp only [List.length_append, List.length_take, hcl, hc]
    omega
  rw [he] at this
  exact this
/-- a row of one's own that is not empty begins at the head of its block -/
theorem _root_.Go.Sh.StX.row0 {X : Nat → Prop} {w0 w : World} {r : Gh} {L : List Asr} {e : TypeId} {sz n cap : Nat} {p : Option Addr} {xs : List Value} {f : Asr → List Asr} (S : StX X w0 r w L)
    (_ : True) [h : RowAt (.slice p n cap) L e sz n xs f] (hn : n ≠ 0) : ∃ b, p = some ⟨b, 0, none⟩ := by
  obtain ⟨b, cap', c, hv, _⟩ := S.rowCell (.slice p n cap) hn
  cases hv
  exact ⟨b, rfl⟩
/-- the pairs from i on stay as they were when the one at i is written over -/
theorem cons2_set : ∀ (m : List (Int × Int)) (i : Nat) (x y : Int), i < m.length → (cons2 m).take (i * 2) ++ [.int .i64 x, .int .i64 y] ++ (cons2 m).drop (i * 2 + 2) = cons2 (m.set i (x, y)) := by
  intro m
  induction m with
  | nil => intro i x y h; cases h
  | cons p m ih =>
    intro i x y h
    cases i with
    | zero => rfl
    | succ i =>
      have := ih i x y (by simpa using h)
      rw [show cons2 (p :: m) = .int .i64 p.1 :: .int .i64 p.2 :: cons2 m from rfl, show (i + 1) * 2 = i * 2 + 1 + 1 by omega, List.set_cons_succ, show cons2 (p :: m.set i (x, y)) = .int .i64 p.1 :: .int .i64 p.2 :: cons2 (m.set i (x, y)) from rfl, ← this]
      simp [show i * 2 + 1 + 1 + 2 = (i * 2 + 2) + 1 + 1 by omega]
theorem j_borX {w : World} {A : (List Value → World → Prop) → Prop} {Z : Value → World → Prop} {b : Bool} (hA : b = false → ∀ K : List Value → World → Prop, (∀ c w', Ext w w' → K [.bool c] w') → A K) (hZ : ∀ c w', Ext w w' → Z (.bool c) w') :
    sJoin (fun K => gIf (.bool b) false (A K) (K [undef] w)) fun s _ w' => oPick (.bool b) (.bool true) (s.getD 0 undef) fun t => Z t w' := by
  intro K hK
  cases b with
  | true => exact hK _ _ fun _ => ⟨true, rfl, by simpa using hZ true w (.refl w)⟩
  | false => exact hA rfl K fun c w' e => hK _ _ fun _ => ⟨false, rfl, by simpa using hZ c w' e⟩
theorem c_law06_TypesAsk {a b : TyD} {w : World} {r : Gh} {va vb : Value} {K : Value → World → Prop} (hr : Holds r w) (ha : TyG r va a) (hb : TyG r vb b)
    (h : ∀ w', Ext w w' → K (.bool true) w') : oCall Tryd.prog Tryd.n_law06_TypesAsk #[va, vb] w K := by
  refine Tryd.ok_law06_TypesAsk ?_
  unfold Tryd.F_law06_TypesAsk
  have ha0 := ha; have hb0 := hb
  obtain ⟨p, cap, rfl, _⟩ := ha
  obtain ⟨q, cap', rfl, _⟩ := hb
  have S := St.start hr
  refine S.box fun b2 w1 S => ?_
  refine S.box fun b3 w2 S => ?_
  (repeat (first | refine s_p ?_ | refine s_c (by omega) ?_ | refine S.ld ?_ | refine S.ldB ?_ | refine S.ce ?_ | refine S.ceB ?_ | refine s_q ?_ | refine s_qc (by omega) ?_ | refine n_some ?_ | rw [List.getD_cons_zero] | rw [List.getD_cons_succ]))
  refine c_law06_typeFits 60 (by decide) (by decide) (by decide) S.holds ha0 fun x w3 e3 => ?_
  have S := S.go e3
  (repeat (first | refine s_p ?_ | refine s_c (by omega) ?_ | refine S.ld ?_ | refine S.ldB ?_ | refine S.ce ?_ | refine S.ceB ?_ | refine s_q ?_ | refine s_qc (by omega) ?_ | refine n_some ?_ | rw [List.getD_cons_zero] | rw [List.getD_cons_succ]))
  refine j_borX (fun _ K2 hK2 => ?_) fun y w4 e4 => ?_
  · (repeat (first | refine s_p ?_ | refine s_c (by omega) ?_ | refine S.ld ?_ | refine S.ldB ?_ | refine S.ce ?_ | refine S.ceB ?_ | refine s_q ?_ | refine s_qc (by omega) ?_ | refine n_some ?_ | rw [List.getD_cons_zero] | rw [List.getD_cons_succ]))
    refine c_law06_typeFits 60 (by decide) (by decide) (by decide) S.holds hb0 fun x w3 e3 => ?_
    (first | refine s_p ?_ | refine s_c (by omega) ?_)
    exact hK2 _ _ e3
  have S := S.go e4
  refine c_b (fun _ => ?_) (fun _ => ?_)
  · exact c_law06_awake fun w5 e5 => h _ (S.go e5).ext
  (repeat (first | refine s_p ?_ | refine s_c (by omega) ?_ | refine S.ld ?_ | refine S.ldB ?_ | refine S.ce ?_ | refine S.ceB ?_ | refine s_q ?_ | refine s_qc (by omega) ?_ | refine n_some ?_ | rw [List.getD_cons_zero] | rw [List.getD_cons_succ]))
  refine c_types_Asks S.holds ha0 hb0 fun v5 w5 e5 o5 => ?_
  have S := S.take e5 o5
  obtain ⟨p5, cap5, rfl, hp5, hc5, _, _⟩ := S.rowS v5
  (repeat (first | refine s_p ?_ | refine s_c (by omega) ?_ | refine S.ld ?_ | refine S.ldB ?_ | refine S.ce ?_ | refine S.ceB ?_ | refine s_q ?_ | refine s_qc (by omega) ?_ | refine n_some ?_ | rw [List.getD_cons_zero] | rw [List.getD_cons_succ]))
  refine c_types_Asks S.holds ha0 hb0 fun v6 w6 e6 o6 => ?_
  have S := S.take e6 o6
  obtain ⟨p6, cap6, rfl, hp6, hc6, _, _⟩ := S.rowS v6
  (repeat (first | refine s_p ?_ | refine s_c (by omega) ?_ | refine S.ld ?_ | refine S.ldB ?_ | refine S.ce ?_ | refine S.ceB ?_ | refine s_q ?_ | refine s_qc (by omega) ?_ | refine n_some ?_ | rw [List.getD_cons_zero] | rw [List.getD_cons_succ]))
  refine c_ref06_Asks S.holds ha0 hb0 fun v7 w7 e7 o7 => ?_
  have S := S.take e7 o7
  obtain ⟨p7, cap7, rfl, hp7, hc7, _, _⟩ := S.rowS v7
  have hlen := asksT_len (a := a) (b := b)
  generalize asksT a b = R at *
  obtain ⟨l, e⟩ := R
  simp only at S hlen o5 o6 o7 hc5 hc6 hc7 ⊢
  (repeat (first | refine s_p ?_ | refine s_c (by omega) ?_ | refine S.ld ?_ | refine S.ldB ?_ | refine S.ce ?_ | refine S.ceB ?_ | refine s_q ?_ | refine s_qc (by omega) ?_ | refine n_some ?_ | rw [List.getD_cons_zero] | rw [List.getD_cons_succ]))
  refine j_borH (c := false) (fun _ K2 hK2 => ?_) ?_
  · (repeat (first | refine s_p ?_ | refine s_c (by omega) ?_ | refine S.ld ?_ | refine S.ldB ?_ | refine S.ce ?_ | refine S.ceB ?_ | refine s_q ?_ | refine s_qc (by omega) ?_ | refine n_some ?_ | rw [List.getD_cons_zero] | rw [List.getD_cons_succ]))
    simpa using hK2
  refine j_borH (c := false) (fun _ K2 hK2 => ?_) ?_
  · (repeat (first | refine s_p ?_ | refine s_c (by omega) ?_ | refine S.ld ?_ | refine S.ldB ?_ | refine S.ce ?_ | refine S.ceB ?_ | refine s_q ?_ | refine s_qc (by omega) ?_ | refine n_some ?_ | rw [List.getD_cons_zero] | rw [List.getD_cons_succ]))
    simpa using hK2
  refine j_borH (c := false) (fun _ K2 hK2 => ?_) ?_
  · (repeat (first | refine s_p ?_ | refine s_c (by omega) ?_ | refine S.ld ?_ | refine S.ldB ?_ | refine S.ce ?_ | refine S.ceB ?_ | refine s_q ?_ | refine s_qc (by omega) ?_ | refine n_some ?_ | rw [List.getD_cons_zero] | rw [List.getD_cons_succ]))
    simpa using hK2
  refine c_f (by simp) ?_
  refine l_intro (ι := Nat × List (Int × Int)) (fun i => [.int .i64 i.1])
    (fun i w' => i.1 ≤ l.length ∧ i.2.length = l.length ∧ (∀ k, i.1 ≤ k → i.2[k]? = l[k]?) ∧ StX noX w r w' [.row (.slice p7 l.length cap7) 35 2 l.length (cons2 l), .row (.slice p6 l.length cap6) 35 2 l.length (cons2 l), .row (.slice p5 l.length cap5) 35 2 l.length (cons2 i.2),
      .cell b3 (Value.agg #[.int .u8 b.k, .bool b.m, .int .i64 b.re, .int .i64 b.st, .slice q b.of.length cap']).cells.toList 25, .cell b2 (Value.agg #[.int .u8 a.k, .bool a.m, .int .i64 a.re, .int .i64 a.st, .slice p a.of.length cap]).cells.toList 25])
    (fun i => l.length - i.1) (0, l) rfl ⟨Nat.zero_le _, rfl, fun _ _ => rfl, S⟩ ?_
  clear S
  rintro ⟨i, m⟩ d w8 ⟨hi, hm, hmk, S⟩ K6 hK6
  simp only at hi hm hmk S ⊢
  rw [List.getD_cons_zero]
  (repeat (first | refine s_p ?_ | refine s_c (by omega) ?_ | refine S.ld ?_ | refine S.ldB ?_ | refine S.ce ?_ | refine S.ceB ?_ | refine s_q ?_ | refine s_qc (by omega) ?_ | refine n_some ?_ | rw [List.getD_cons_zero] | rw [List.getD_cons_succ]))
  refine c_b (fun hlt => ?_) (fun hge => ?_)
  · have hlt : i < l.length := by simpa using hlt
    have S := S.go (Ext.drew _)
    have hmi : m[i]? = l[i]? := hmk i (Nat.le_refl _)
    have hmi' : m[i]'(by omega) = l[i] := by
      rw [List.getElem?_eq_getElem (by omega), List.getElem?_eq_getElem hlt] at hmi
      exact Option.some.inj hmi
    obtain ⟨b5, rfl⟩ := S.row0 (p := p5) (n := l.length) (cap := cap5) trivial (by omega)
    obtain ⟨_, _, hv, _, _, _, h5⟩ := S.rowS (.slice (some ⟨b5, 0, none⟩) l.length cap5)
    cases hv
    obtain ⟨_, _, hv, _, _, _, h7⟩ := S.rowS (.slice p7 l.length cap7)
    cases hv
    obtain ⟨_, _, hv, h5⟩ := pair_at h5 (i := i) (by omega)
    cases hv
    obtain ⟨b7, o7, rfl, k7⟩ := pair_at h7 hlt
    rw [hmi'] at h5
    refine s_c (by omega) ?_
    refine s_ldN (n := 2) rfl (fun j v hj => by rw [Int.toNat_natCast]; exact h5 j v hj) ?_
    refine s_c (by omega) ?_
    refine s_ldN (n := 2) rfl (fun j v hj => by rw [Int.toNat_natCast]; exact k7 j v hj) ?_
    refine s_q ?_
    refine c_f (by simp) ?_
    refine p_build (cs := #[.int .i64 (-9), .int .i64 0]) (by kernel_rfl) ?_
    refine s_c (by omega) ?_
    rw [Int.toNat_natCast, Nat.zero_add]
    refine S.stRow (cap := cap5) hlt fun w9 S => ?_
    refine s_c (by omega) ?_
    rw [show ((i : Int) + 1) = ((i + 1 : Nat) : Int) by omega]
    rw [cons2_set m i _ _ (by omega)] at S
    refine hK6 (i + 1, m.set i (-9, 0)) _ ⟨hlt, by simpa using hm, fun k hk => ?_, S⟩ (by simp only; omega)
    rw [List.getElem?_set_ne (by omega)]
    exact hmk k (by omega)
  refine l_intro (ι := Nat) (fun i => [.int .i64 i])
    (fun i w' => i ≤ l.length ∧ StX noX w r w' [.row (.slice p7 l.length cap7) 35 2 l.length (cons2 l), .row (.slice p6 l.length cap6) 35 2 l.length (cons2 l), .row (.slice p5 l.length cap5) 35 2 l.length (cons2 m),
      .cell b3 (Value.agg #[.int .u8 b.k, .bool b.m, .int .i64 b.re, .int .i64 b.st, .slice q b.of.length cap']).cells.toList 25, .cell b2 (Value.agg #[.int .u8 a.k, .bool a.m, .int .i64 a.re, .int .i64 a.st, .slice p a.of.length cap]).cells.toList 25])
    (fun i => l.length - i) 0 rfl ⟨Nat.zero_le _, S⟩ ?_
  clear S hi hmk hge
  rintro i d w8 ⟨hi, S⟩ K6 hK6
  rw [List.getD_cons_zero]
  (repeat (first | refine s_p ?_ | refine s_c (by omega) ?_ | refine S.ld ?_ | refine S.ldB ?_ | refine S.ce ?_ | refine S.ceB ?_ | refine s_q ?_ | refine s_qc (by omega) ?_ | refine n_some ?_ | rw [List.getD_cons_zero] | rw [List.getD_cons_succ]))
  refine c_b (fun hlt => ?_) (fun hge => ?_)
  · have hlt : i < l.length := by simpa using hlt
    have S := S.go (Ext.drew _)
    obtain ⟨_, _, hv, _, _, _, h6⟩ := S.rowS (.slice p6 l.length cap6)
    cases hv
    obtain ⟨_, _, hv, _, _, _, h7⟩ := S.rowS (.slice p7 l.length cap7)
    cases hv
    obtain ⟨b6, o6, rfl, k6⟩ := pair_at h6 hlt
    obtain ⟨b7, o7, rfl, k7⟩ := pair_at h7 hlt
    refine s_c (by omega) ?_
    refine s_ldN (n := 2) rfl (fun j v hj => by rw [Int.toNat_natCast]; exact k6 j v hj) ?_
    refine s_c (by omega) ?_
    refine s_ldN (n := 2) rfl (fun j v hj => by rw [Int.toNat_natCast]; exact k7 j v hj) ?_
    refine s_q ?_
    refine c_f (by simp) ?_
    refine s_c (by omega) ?_
    rw [show ((i : Int) + 1) = ((i + 1 : Nat) : Int) by omega]
    exact hK6 (i + 1) _ ⟨hlt, S⟩ (by omega)
  exact c_law06_awake fun w5 e5 => h _ (S.go e5).ext
end Go.Proofs
