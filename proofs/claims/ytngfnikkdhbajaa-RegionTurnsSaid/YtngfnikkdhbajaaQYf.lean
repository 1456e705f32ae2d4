/-
  loanwordlaw13.RegionTurns: whatever the type, the regions: the law returns true.
  Openings: what arguments that are types, programs, lists of numbers tell.
  loanwordlaw13.RegionTurns: whatever the input, the law returns true and the input reads as it did.
-/
import Derived.Test.YtngfnikkdhbajaaQYe
import Derived.Test.YtngfnikkdhbajaaQYc
import Derived.Test.YtngfnikkdhbajaaRows
import Derived.WalkKit

section
namespace Go.Proofs

open Go.Sh

set_option maxRecDepth 100000

set_option linter.unusedSimpArgs false

set_option linter.unusedVariables false

theorem spoilt2 {X : Nat → Prop} {w0 w w' : World} {r q s : Gh} {L : List Asr} (S : StX X w0 r w L) (e : ExtBut (Gh.dom s) w w') (hs : ∀ b o, s b o → r b o) (ha : Above w0 s) (hq : ∀ b o, q b o → r b o) (hd : Dis s q) : StX X w0 q w' L :=
  S.but e (fun b o hb => ⟨hq b o hb, fun ⟨o', ho⟩ => hd b o' o ho hb⟩) (fun b ⟨o, ho⟩ => ha b o ho) (fun x hx k hk ⟨o, ho⟩ => (S.mine x hx k hk).2 o (hs k o ho))
set_option maxHeartbeats 4000000 in
theorem c_law13_RegionTurns {t : TyD} {l : List Int} {p : Option Addr} {cap : Nat} {w : World} {r : Gh} {v : Value} {K : Value → World → Prop} (hr : Holds r w) (ht : TyG r v t) (hl : Ob r fun w => Sl w p (ints l)) (hcap : l.length ≤ cap) (hp : p = none → cap = 0)
    (h : ∀ w', Ext w w' → K (.bool true) w') : oCall Try.prog Try.n_law13_RegionTurns #[v, .slice p l.length cap] w K := by
  refine Try.ok_law13_RegionTurns ?_
  unfold Try.F_law13_RegionTurns
  have ht0 := ht
  obtain ⟨pt, capt, rfl, _⟩ := ht
  have S := St.start hr
  refine S.box fun b2 w1 S => ?_
  have S : StX noX w r w1 [.cell b2 (tyL t pt capt) 25] := S
  refine S.ldB (b := b2) ?_ rfl
  refine c_law13_typeFits 60 (by decide) (by decide) (by decide) S.holds ht0 fun x w3 e3 => ?_
  have S := S.go e3
  (first | refine s_p ?_ | refine s_c (by omega) ?_)
  refine j_borH (c := decide (600 < l.length)) (fun _ K2 hK2 => ?_) ?_
  · (repeat (first | refine s_p ?_ | refine s_c (by omega) ?_ | refine S.ld ?_ | refine S.ldB ?_ | refine S.ce ?_ | refine S.ceB ?_ | refine s_q ?_ | refine s_qc (by omega) ?_ | refine n_some ?_ | rw [List.getD_cons_zero] | rw [List.getD_cons_succ]))
    rw [show decide ((600 : Int) < (l.length : Int)) = decide (600 < l.length) from decide_eq_decide.2 (by omega)]
    exact hK2
  refine c_b (fun _ => ?_) (fun hc => ?_)
  · exact c_law13_awake fun w5 e5 => h _ (S.go e5).ext
  have hlen : l.length ≤ 600 := by
    simp only [Bool.or_eq_false_iff, decide_eq_false_iff_not] at hc
    omega
  clear hc
  have S := S.ownNil 3 1
  refine S.ap (S.at hl) (fun v30 w30 S => ?_) (by omega) (by rw [ints_len]; omega) hp (ints_ones _)
  refine S.lit (e := 3) (cs := [.int .i64 77]) (by kernel_rfl) fun b31 w31 S => ?_
  refine S.ap (Sl.blk (S.blk b31)) (fun v32 w32 S => ?_) (by omega)
  have S := S.go (Ext.drew _)
  obtain ⟨b33, cap33, c33, rfl, hc33, hcl33, htk33, S⟩ := S.rowCell v32 (by omega)
  have S := (S.frzAt b33).drop b31
  have hown : Ob (one b33 c33 3) fun w => Sl w (some ⟨b33, 0, none⟩) (ints l ++ [.int .i64 77]) := fun w' k => by
    have := (Sl.blk (one_blk w' k)).take ((0 + l.length + 1) * 1)
    rw [htk33] at this
    exact this
  have hown1 : Ob (one b33 c33 3) fun w => Sl w (some ⟨b33, 0, none⟩) (ints l) := hown.mono fun w' k i v hv => k i v (by rw [List.getElem?_append_left (List.getElem?_eq_some_iff.1 hv).1]; exact hv)
  generalize hO : one b33 c33 3 = ow at S hown hown1
  -- turned twice
  obtain ⟨T, e, hTe⟩ : ∃ T e, turnT t l = (T, e) := ⟨_, _, rfl⟩
  have callT : ∀ {q : Gh} {w9 : World} {M : List Asr} {K9 : Value → World → Prop} [Le r q] [Le ow q], StX noX w q w9 M → (∀ px cx sx w', StX noX w (q.or sx) w' M → Dis sx q → Above w sx → TyG sx (tyV T px cx) T → ChnG sx (tyV T px cx) T → K9 (.tuple #[tyV T px cx, .int .i64 e]) w') →
      oCall Try.prog Try.n_region_Turn #[tyV t pt capt, .slice (some ⟨b33, 0, none⟩) l.length cap33] w9 K9 := by
    intro q w9 M K9 l1 l2 S hk
    refine c_region_Turn S.holds ht0.up hown1.up (by omega) fun vx sx w' e' n' hx hcx => ?_
    rw [hTe] at hx hcx ⊢
    obtain ⟨S, d, a⟩ := S.tell e' n'
    obtain ⟨px, cx, rfl, _⟩ := id hx
    exact hk px cx sx w' S d a hx hcx
  refine j_intro (fun s w' => ∃ b6 px cx sx, s = [.pointer (some ⟨b6, 0, none⟩), .int .i64 e] ∧ StX noX w ((r.or ow).or sx) w' [.cell b6 (tyL T px cx) 25, .cell b2 (tyL t pt capt) 25] ∧ Dis sx (r.or ow) ∧ Above w sx ∧ TyG sx (tyV T px cx) T ∧ ChnG sx (tyV T px cx) T) (fun K11 hK11 => ?_) ?_
  · refine S.ldB (b := b2) ?_ rfl
    (first | refine s_p ?_ | refine s_c (by omega) ?_)
    (first | refine s_p ?_ | refine s_c (by omega) ?_)
    rw [Int.toNat_natCast]
    refine And.intro ?_ ?_
    · refine callT S fun px cx sx w9 S d a hx hcx => ?_
      (first | refine s_p ?_ | refine s_c (by omega) ?_)
      (first | refine s_p ?_ | refine s_c (by omega) ?_)
      refine S.alU fun b6 w10 S => ?_
      refine S.stB (b := b6) fun w11 S => ?_
      exact hK11 _ _ ⟨b6, px, cx, sx, rfl, S, d, a, hx, hcx⟩
    · refine S.alU fun b6 w10 S => ?_
      refine callT S fun px cx sx w9 S d a hx hcx => ?_
      (first | refine s_p ?_ | refine s_c (by omega) ?_)
      (first | refine s_p ?_ | refine s_c (by omega) ?_)
      refine S.stB (b := b6) fun w11 S => ?_
      exact hK11 _ _ ⟨b6, px, cx, sx, rfl, S, d, a, hx, hcx⟩
  clear S
  rintro _ w12 ⟨b6, px, cx, sx, rfl, S, dx, ax, hx, hcx⟩ d12
  have S := S.go (Ext.drew _)
  refine j_intro (fun s w' => ∃ b8 py cy sy, s = [.pointer (some ⟨b8, 0, none⟩)] ∧ StX noX w (((r.or ow).or sx).or sy) w' [.cell b8 (tyL T py cy) 25, .cell b6 (tyL T px cx) 25, .cell b2 (tyL t pt capt) 25] ∧ Dis sy ((r.or ow).or sx) ∧ TyG sy (tyV T py cy) T) (fun K25 hK25 => ?_) ?_
  · refine S.ldB (b := b2) ?_ rfl
    (first | refine s_p ?_ | refine s_c (by omega) ?_)
    (first | refine s_p ?_ | refine s_c (by omega) ?_)
    rw [Int.toNat_natCast]
    refine And.intro ?_ ?_
    · refine callT S fun py cy sy w9 S d a hy hcy => ?_
      (first | refine s_p ?_ | refine s_c (by omega) ?_)
      (first | refine s_p ?_ | refine s_c (by omega) ?_)
      refine S.alU fun b8 w10 S => ?_
      refine S.stB (b := b8) fun w11 S => ?_
      exact hK25 _ _ ⟨b8, py, cy, sy, rfl, S, d, hy⟩
    · refine S.alU fun b8 w10 S => ?_
      refine callT S fun py cy sy w9 S d a hy hcy => ?_
      (first | refine s_p ?_ | refine s_c (by omega) ?_)
      (first | refine s_p ?_ | refine s_c (by omega) ?_)
      refine S.stB (b := b8) fun w11 S => ?_
      exact hK25 _ _ ⟨b8, py, cy, sy, rfl, S, d, hy⟩
  clear S
  rintro _ w13 ⟨b8, py, cy, sy, rfl, S, dy, hy⟩ d13
  simp only [List.getD_cons_zero, List.getD_cons_succ]
  refine S.ldB (b := b2) ?_ rfl
  refine c_ref13_Turn hl t.ht (Nat.le_refl _) S.holds ht0.up fun vz sz w14 e14 n14 hz => ?_
  rw [hTe] at hz ⊢
  obtain ⟨S, dz, az⟩ := S.tell e14 n14
  obtain ⟨pz, cz, rfl, _⟩ := id hz
  have hfew := hcx.few
  (first | refine s_p ?_ | refine s_c (by omega) ?_)
  (first | refine s_p ?_ | refine s_c (by omega) ?_)
  refine S.al fun b10 w15 S => ?_
  refine S.stB (b := b10) fun w16 S => ?_
  (first | refine s_p ?_ | refine s_c (by omega) ?_)
  rw [show decide (e ≠ e) = false by simp]
  refine j_borE (c := false) (fun _ K2 hK2 => ?_) fun w17 e17 => ?_
  · refine S.ldB (b := b6) ?_ rfl
    refine S.ldB (b := b10) ?_ rfl
    refine c_ref07_SameType _ T (Nat.le_refl _) hfew S.holds hx.up hz.up fun w18 e18 => ?_
    (first | refine s_p ?_ | refine s_c (by omega) ?_)
    exact hK2 _ e18
  have S := S.go e17
  refine c_f rfl ?_
  refine S.ldB (b := b6) ?_ rfl
  refine c_law13_spoil hcx hx (S.holds.le (h := inferInstance)) fun w18 e18 => ?_
  have S := spoilt2 (q := ((r.or ow).or sy).or sz) (s := sx) S e18 (fun b o hb => .inl (.inl (.inr hb))) ax (fun b o hb => hb.elim (fun hb => hb.elim (fun hb => .inl (.inl (.inl hb))) fun hb => .inl (.inr hb)) fun hb => .inr hb)
    ((dx.or (fun b o o' h1 h2 => dy b o' o h2 (.inr h1))).or (fun b o o' h1 h2 => dz b o' o h2 (.inl (.inr h1))))
  refine l_intro (ι := Nat) (fun i => [.int .i64 (i : Nat)]) (fun i w' => i ≤ l.length ∧ StX noX w _ w' _) (fun i => l.length - i) 0 rfl ⟨Nat.zero_le _, S⟩ ?_
  clear S
  rintro i d w43 ⟨hi, S⟩ K6 hK6
  rw [List.getD_cons_zero]
  (first | refine s_p ?_ | refine s_c (by omega) ?_)
  (first | refine s_p ?_ | refine s_c (by omega) ?_)
  refine c_if (fun hlt => ?_) (fun hge => ?_)
  · have hlt : i < l.length := by omega
    obtain ⟨bq1, oq1, hq0, hq1⟩ := ints_at (S.at hown1) hlt
    cases hq0
    obtain ⟨bq2, oq2, rfl, hq2⟩ := ints_at (S.at hl) hlt
    have S := S.go (Ext.drew _)
    (first | refine s_p ?_ | refine s_c (by omega) ?_)
    refine s_ld1 (cell_ext (by simpa using hq1) (Ext.drew _)) ?_
    (first | refine s_p ?_ | refine s_c (by omega) ?_)
    refine s_ld1 (cell_ext (by simpa using hq2) (Ext.drew _)) ?_
    (first | refine s_p ?_ | refine s_c (by omega) ?_)
    refine c_f (by simp) ?_
    (first | refine s_p ?_ | refine s_c (by omega) ?_)
    rw [show ((i : Int) + 1) = ((i + 1 : Nat) : Int) by omega]
    exact hK6 (i + 1) _ ⟨hlt, S⟩ (by omega)
  clear hge hi
  -- erased
  obtain ⟨U, f, hUf⟩ : ∃ U f, eraseT t = (U, f) := ⟨_, _, rfl⟩
  refine S.ldB (b := b2) ?_ rfl
  refine c_region_Erase S.holds ht0.up fun vx2 sx2 w44 e44 n44 hx2 hcx2 => ?_
  rw [hUf] at hx2 hcx2 ⊢
  obtain ⟨S, dx2, ax2⟩ := S.tell e44 n44
  obtain ⟨px2, cx2, rfl, _⟩ := id hx2
  have hfew2 := hcx2.few
  (first | refine s_p ?_ | refine s_c (by omega) ?_)
  (first | refine s_p ?_ | refine s_c (by omega) ?_)
  refine S.al fun b13 w45 S => ?_
  refine S.stB (b := b13) fun w46 S => ?_
  refine S.ldB (b := b2) ?_ rfl
  refine c_region_Erase S.holds ht0.up fun vy2 sy2 w47 e47 n47 hy2 hcy2 => ?_
  rw [hUf] at hy2 hcy2 ⊢
  obtain ⟨S, dy2, ay2⟩ := S.tell e47 n47
  obtain ⟨py2, cy2, rfl, _⟩ := id hy2
  (first | refine s_p ?_ | refine s_c (by omega) ?_)
  (first | refine s_p ?_ | refine s_c (by omega) ?_)
  refine S.al fun b14 w48 S => ?_
  refine S.stB (b := b14) fun w49 S => ?_
  refine S.ldB (b := b2) ?_ rfl
  refine c_ref06_Is S.holds ht0.up fun w50 e50 => ?_
  have S := S.go e50
  (first | refine s_p ?_ | refine s_c (by omega) ?_)
  cases hB : isB t with
  | false =>
    have hE : eraseT t = (zeroD, 2) := by rw [eraseT, hB]; rfl
    rw [hE] at hUf
    cases hUf
    refine c_t rfl ?_
    (first | refine s_p ?_ | refine s_c (by omega) ?_)
    refine j_bandE (c := true) (fun _ K2 hK2 => ?_) fun w51 e51 => ?_
    · refine S.ldB (b := b13) ?_ rfl
      refine p_build (cs := #[.int .u8 0, .bool false, .int .i64 0, .int .i64 0, .slice none 0 0]) (by kernel_rfl) ?_
      refine c_ref07_SameType _ zeroD (Nat.le_refl _) hfew2 S.holds hx2.up (ty_leaf (r := nothing)).up fun w52 e52 => hK2 _ e52
    have S := S.go e51
    refine j_bandE (c := true) (fun _ K2 hK2 => c_law13_awake fun w52 e52 => hK2 _ e52) fun w53 e53 => ?_
    exact h _ (S.go e53).ext
  | true =>
    have hE : eraseT t = (t.mapR fBare, 0) := by rw [eraseT, hB]; rfl
    rw [hE] at hUf
    cases hUf
    refine c_f rfl ?_
    refine S.ldB (b := b2) ?_ rfl
    refine c_ref13_Erase t.ht (Nat.le_refl _) hB S.holds ht0.up fun vz2 sz2 w51 e51 n51 hz2 => ?_
    obtain ⟨S, dz2, az2⟩ := S.tell e51 n51
    obtain ⟨pz2, cz2, rfl, _⟩ := id hz2
    refine S.al fun b16 w52 S => ?_
    refine S.stB (b := b16) fun w53 S => ?_
    (first | refine s_p ?_ | refine s_c (by omega) ?_)
    refine j_borE (c := false) (fun _ K2 hK2 => ?_) fun w54 e54 => ?_
    · refine S.ldB (b := b13) ?_ rfl
      refine S.ldB (b := b16) ?_ rfl
      refine c_ref07_SameType _ (t.mapR fBare) (Nat.le_refl _) hfew2 S.holds hx2.up hz2.up fun w55 e55 => ?_
      (first | refine s_p ?_ | refine s_c (by omega) ?_)
      exact hK2 _ e55
    have S := S.go e54
    refine c_f rfl ?_
    refine S.ldB (b := b13) ?_ rfl
    refine c_law13_spoil hcx2 hx2 (S.holds.le (h := inferInstance)) fun w55 e55 => ?_
    have S := spoilt2 (q := (((((r.or ow).or sy).or sz).or sy2)).or sz2) (s := sx2) S e55 (fun b o hb => .inl (.inl (.inr hb))) ax2 (fun b o hb => hb.elim (fun hb => hb.elim (fun hb => .inl (.inl (.inl hb))) fun hb => .inl (.inr hb)) fun hb => .inr hb)
      ((dx2.or (fun b o o' h1 h2 => dy2 b o' o h2 (.inr h1))).or (fun b o o' h1 h2 => dz2 b o' o h2 (.inl (.inr h1))))
    obtain ⟨bq1, oq1, hq0, hq1⟩ := (S.at hown).at (i := l.length) (by simp [ints_len])
    cases hq0
    (first | refine s_p ?_ | refine s_c (by omega) ?_)
    (first | refine s_p ?_ | refine s_c (by omega) ?_)
    refine s_ld1 (v := .int .i64 77) ?_ ?_
    · rw [Int.toNat_natCast]
      rw [hq1]
      simp [List.getElem_append_right, ints_len]
    (first | refine s_p ?_ | refine s_c (by omega) ?_)
    refine j_bandE (c := true) (fun _ K2 hK2 => ?_) fun w56 e56 => ?_
    · refine S.ldB (b := b8) ?_ rfl
      refine S.ldB (b := b10) ?_ rfl
      refine c_ref07_SameType _ T (Nat.le_refl _) hfew S.holds hy.up hz.up fun w57 e57 => hK2 _ e57
    have S := S.go e56
    refine j_bandE (c := true) (fun _ K2 hK2 => ?_) fun w57 e57 => ?_
    · refine S.ldB (b := b14) ?_ rfl
      refine S.ldB (b := b16) ?_ rfl
      refine c_ref07_SameType _ (t.mapR fBare) (Nat.le_refl _) hfew2 S.holds hy2.up hz2.up fun w58 e58 => hK2 _ e58
    have S := S.go e57
    refine j_bandE (c := true) (fun _ K2 hK2 => c_law13_awake fun w59 e59 => hK2 _ e59) fun w60 e60 => ?_
    exact h _ (S.go e60).ext
end Go.Proofs
end

section
namespace Go.Proofs.Ytngfnikkdhbajaa.openG

open Go.Sh Go.ChangeShapes Go.WideShapes Go.ChangeAt Go.RowKit

set_option maxRecDepth 100000

set_option linter.unusedSimpArgs false

set_option linter.unusedVariables false

theorem own : ownKnob Try.prog.godebug = none := by kernel_rfl
theorem laidOut : laidOutB Try.prog = true := by kernel_rfl
theorem rowed : mapsRowed Try.prog = true := by kernel_rfl
theorem full : ((List.range Try.prog.types.size).all fun t => match Try.prog.underlying t with | some (.slice e) => decide (0 < Try.prog.cellsOf e) | _ => true) = true := by kernel_rfl
theorem uInt : Try.prog.underlying 3 = some (.int .i64) := by kernel_rfl
theorem uBool : Try.prog.underlying 4 = some .bool := by kernel_rfl
theorem uTk : Try.prog.underlying 22 = some (.int .u8) := by kernel_rfl
theorem sTy : Try.prog.underlying 23 = some (.slice 25) ∧ Try.prog.cellsOf 25 = 5 := ⟨by kernel_rfl, by kernel_rfl⟩
theorem sIn : Try.prog.underlying 26 = some (.slice 3) ∧ Try.prog.cellsOf 3 = 1 := ⟨by kernel_rfl, by kernel_rfl⟩
theorem aTy : ∃ fs, Try.prog.underlying 25 = some (.struct fs) ∧ fs.toList.map (·.type) = [22, 4, 3, 3, 23] := struct_of (by kernel_rfl)
theorem plainTy : plainS Try.prog [25, 22, 4, 3, 23] = true := by kernel_rfl
theorem plainIn : plainS Try.prog [26, 3] = true := by kernel_rfl
theorem sl_of {α : Type} {f : α → Dat} {G : α → Prop} {d : Dat} {T e : TypeId} {n : Nat} (u : Try.prog.underlying T = some (.slice e) ∧ Try.prog.cellsOf e = n) (h : d.ok Try.prog T) (hf : ∀ x : Dat, SizeOf.sizeOf x < SizeOf.sizeOf d → x.ok Try.prog e → ∃ t, x = f t ∧ G t) :
    ∃ l : List α, d = .sl n (l.map f) ∧ l.length ≤ maxLen ∧ ∀ t ∈ l, G t := by
  obtain ⟨es, rfl, hl, hk⟩ := dat_sl u.1 h
  obtain ⟨l, rfl, hg⟩ := list_map (f := f) (G := G) es fun x hx => hf x (by
    have := List.sizeOf_lt_of_mem hx
    simp only [Dat.sl.sizeOf_spec]; omega) (hk x hx)
  exact ⟨l, by rw [u.2], by simpa using hl, hg⟩
theorem ty_of : ∀ (n : Nat) (d : Dat), SizeOf.sizeOf d ≤ n → d.ok Try.prog 25 → ∃ t : TyD, d = t.dat := by
  intro n
  induction n with
  | zero => intro d h _; cases d <;> simp at h
  | succ n ih =>
    intro d hs h
    obtain ⟨ds, rfl, e0⟩ := dat_agg aTy h
    obtain ⟨d0, ds, rfl, h0, e1⟩ := okF_cons e0
    obtain ⟨d1, ds, rfl, h1, e2⟩ := okF_cons e1
    obtain ⟨d2, ds, rfl, h2, e3⟩ := okF_cons e2
    obtain ⟨d3, ds, rfl, h3, e4⟩ := okF_cons e3
    obtain ⟨d4, ds, rfl, h4, e5⟩ := okF_cons e4
    obtain rfl := okF_nil e5
    obtain ⟨k, rfl, _⟩ := dat_int uTk h0
    obtain ⟨m, rfl⟩ := dat_bool uBool h1
    obtain ⟨re, rfl, _⟩ := dat_int uInt h2
    obtain ⟨st, rfl, _⟩ := dat_int uInt h3
    obtain ⟨l, rfl, _, _⟩ := sl_of (f := TyD.dat) (G := fun _ => True) sTy h4 fun x hx hk => by
      obtain ⟨t, ht⟩ := ih x (by
        simp only [Dat.agg.sizeOf_spec, List.cons.sizeOf_spec] at hs
        omega) hk
      exact ⟨t, ht, trivial⟩
    exact ⟨.mk k m re st l, by rw [TyD.dat, TyD.dats_map]⟩
section

variable {H : Type} {enc : TypeId × Value → H} {W : World} {base : Nat} {v : Value} {d : DataW H} {p : List MemPlace}

theorem ty_open (hv : Value.okWide Try.prog W .any base 25 v) (h : DataW.Trod enc Try.prog W 0 (fun _ => true) true 25 v d p) : ∃ t : TyD, TyG (all W) v t := by
  obtain ⟨fs, hu, _⟩ := aTy
  obtain ⟨cs, rfl, hsz⟩ := okWide_struct hu hv
  obtain ⟨fuel, hf⟩ := h
  obtain ⟨d, hr, hd⟩ := rep_of_trod plainTy fuel 25 _ _ (by simp) hf
  obtain ⟨t, rfl⟩ := ty_of _ d (Nat.le_refl _) hd
  exact ⟨t, by simpa [Value.cells] using TyG.of_rep hr⟩
theorem ints_open (hv : Value.okWide Try.prog W .any base 26 v) (h : DataW.Trod enc Try.prog W 0 (fun _ => true) true 26 v d p) :
    ∃ q cap l, v = .slice q (List.length l) cap ∧ (q = none → cap = 0) ∧ l.length ≤ cap ∧ (Ob (all W) fun w => Sl w q (ints l)) := by
  obtain ⟨a0, len, cap, rfl⟩ := Go.WideShapes.okWide_slice sIn.1 hv
  obtain ⟨fuel, hf⟩ := h
  obtain ⟨d, hr, hd⟩ := rep_of_trod plainIn fuel 26 _ _ (by simp) hf
  obtain ⟨l, rfl, _, _⟩ := sl_of (f := Dat.int .i64) (G := fun _ => True) sIn hd fun x _ hk => by
    obtain ⟨n, hn, _⟩ := dat_int uInt hk
    exact ⟨n, hn, trivial⟩
  obtain ⟨q, cap', hq, h1, h2, h3⟩ := ints_of_rep (k := .i64) (f := id) (l := l) hr
  have hq : [Value.slice a0 len cap] = [.slice q l.length cap'] := hq
  injection hq with hq
  exact ⟨q, cap', l, hq, h1, h2, h3⟩
end

/-- a world for the witnesses: the settled one -/
noncomputable def laidWorld (os : Os) : World := World.holding Try.prog os ⟨#[], #[], []⟩
end Go.Proofs.Ytngfnikkdhbajaa.openG
end

section
namespace Go.Proofs.Ytngfnikkdhbajaa.regionTurns

open Go.Sh Go.ChangeShapes Go.WideShapes Go.ChangeAt Go.RowKit openG

set_option maxRecDepth 100000

set_option linter.unusedVariables false

theorem contract (H : Type) (enc : TypeId × Value → H) (W : World) (base : Nat) (args : Array Value) (ds gs : List (DataW H)) (before : List MemPlace)
    (hval : ∀ (j : Nat) t v, Try.f3.params[j]? = some t → args[j]? = some v → Value.okWide Try.prog W .any base t v)
    (hW : DataW.Whole enc Try.prog Try.f3.params.toList Rows.regionTurnsSpec.vars false W args.toList ds gs before) :
    Calls Try.prog 3 args W fun e W' => ∃ v, e = .returned v ∧ Rows.regionTurnsSpec.post enc Try.prog Try.f3 false true false false W args v W' := by
  have hW' := hW
  obtain ⟨p, q, hA, hV, rfl, hfz, hnd⟩ := hW
  rw [show Try.f3.params.toList = [25, 26] by kernel_rfl] at hA
  obtain ⟨v0, vs0, d0, ds0, p0, q100, hargs, rfl, rfl, h0, r0⟩ := trodAll_cons hA
  obtain ⟨v1, vs1, d1, ds1, p1, q101, rfl, rfl, rfl, h1, r1⟩ := trodAll_cons r0
  obtain ⟨rfl, rfl, rfl⟩ := trodAll_nil r1
  obtain rfl : args = #[v0, v1] := by cases args; simp_all
  obtain ⟨rfl, rfl⟩ := trodVars_none hV
  obtain ⟨t0, ht0⟩ := ty_open (hval 0 25 v0 (by kernel_rfl) rfl) h0
  obtain ⟨q1, cap1, l1, rfl, hn1, hc1, hl1⟩ := ints_open (hval 1 26 v1 (by kernel_rfl) rfl) h1
  refine Calls.mono (c_law13_RegionTurns (K := fun v W' => v = .bool true ∧ Ext W W') (all_holds W) ht0 hl1 hc1 hn1 fun w' e => ⟨rfl, e⟩) ?_
  rintro e W' ⟨v, he, rfl, hE⟩
  exact ⟨_, he, post_told laidOut rowed full (by rw [show Try.f3.params.toList = [25, 26] by kernel_rfl]; decide) rfl (by kernel_rfl) uBool hW' rfl hE⟩
def wit : Array Value := #[.agg #[.int .u8 0, .bool false, .int .i64 0, .int .i64 0, .slice none 0 0], .slice none 0 0]
theorem reads (os : Os) {H : Type} (enc : TypeId × Value → H) : ∃ ds places, DataW.whole enc Try.prog ((laidWorld os).forCall (fun _ _ => 0) ⟨#[], wit, []⟩).memory Try.f3.params.toList Rows.regionTurnsSpec.vars false wit.toList 8 = some (ds, [], places) :=
  ⟨[.agg [.lit (.int .u8 0), .lit (.bool false), .lit (.int .i64 0), .lit (.int .i64 0), .nil], .nil], [], by kernel_rfl⟩
theorem laid_met (os : Os) : laidMet Try.prog Rows.regionTurnsRow.laid ((laidWorld os).forCall (fun _ _ => 0) ⟨#[], wit, []⟩).memory :=
  laidMet_of_run' 8 (by kernel_rfl) (by kernel_rfl)
theorem lifted (os : Os) (started : os.Started) (H : Type) (enc : TypeId × Value → H) (F : Stop.Interp) :
    ReturnsInHanded {} Try.checked os 3 .any ((OpenSpec.ofChange Rows.regionTurnsSpec).preRow enc Try.prog Try.f3 Rows.regionTurnsRow.domain false Rows.regionTurnsRow.laid) (((OpenSpec.ofChange Rows.regionTurnsSpec).at F).post enc Try.prog Try.f3 false true false false) := by
  obtain ⟨ds, places, hx⟩ := reads os enc
  refine returnsInHanded_of_row (C := Try.checked) (s := OpenSpec.ofChange Rows.regionTurnsSpec) own started (by kernel_rfl) Try.func3
    (witness_row_at (enc := enc) (C := Try.checked) false (laidWorld os) wit rfl (by kernel_rfl) (by kernel_rfl) (by kernel_rfl)
      (OpenSpec.preRow_of_cond 8 hx (by kernel_rfl) (fun k hk => by cases hk) (by kernel_rfl) (laid_met os))) ?_
  intro W base args ds gs before hval hW _ _ _ hL _ _
  exact contract H enc W base args ds gs before hval hW
theorem said : Rows.RegionTurnsSaid :=
  OpenClaim.holds_of_cond 3 Try.f3 rfl rfl rfl rfl rfl rfl rfl ⟨rfl, rfl, rfl, rfl, rfl⟩ rfl rfl rfl rfl rfl (by kernel_rfl) Try.func3 (by kernel_rfl)
    (of_decide_eq_true (by kernel_rfl)) (by unfold Func.isWrapper; first | (rw [if_pos (by decide +kernel)]; kernel_rfl) | (rw [if_neg (by decide +kernel)]; exact ⟨rfl, rfl⟩))
    (fun os started H enc _ F => by rw [OpenClaim.pre_eq_preRow]; exact lifted os started H enc F)
end Go.Proofs.Ytngfnikkdhbajaa.regionTurns
end
