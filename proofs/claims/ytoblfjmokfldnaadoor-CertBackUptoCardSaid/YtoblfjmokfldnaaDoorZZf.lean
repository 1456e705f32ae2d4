/-
  Contracts: what the laws of certificates lean on: fits, over, held.
  Contracts: what the laws of certificates lean on: over, held.
  Contracts: the document's reader of certificates: one, number.
  Contracts: the document's reader of certificates: lists of rows.
  Contracts: cert.Heads.
  Contracts: strings.Clone; slices.Contains of heads; cert.Fn.
  Contracts: cert.Fn.
  Contracts: the document's reader of certificates: whole, Read, Heads.
  Contracts: the document's Fn of certificates.
  Contracts: awake, of the certificates.
  The law CertGoes.
  The law CertParts.
  The law CertReads.
  A law's end: the answer is true, the input reads as it did.
  Whatever an argument reads as, it is a datum: one theorem for all types of numbers, texts, structs and slices.
  Data that are of a type, taken apart; what slices of data tell.
  Openings of the certificates' laws: certificates, heads, texts; the table.
  loanwordlaw20.CertReads: the card: whatever the input, the law returns true and the input reads as it did.
  The law CertBack.
-/
import Derived.Test.YtoblfjmokfldnaaDoorZZe
import Derived.Test.YtoblfjmokfldnaaDoorZZd
import Derived.Lib.BufferWrite
import Derived.Lib.UnsafeStr
import Derived.Test.YtoblfjmokfldnaaDoorZZa
import Derived.ChangeSame
import Derived.ChangeStays
import Derived.ReadAgain
import Derived.ProofKit
import Derived.OpenShut
import Derived.Deep.DeepHandedRow
import Derived.Lib.LaidTab
import Derived.Lib.SmallJoins
import Derived.Test.YtoblfjmokfldnaaDoorZZb
import Derived.ChangeArms
import Derived.DataReads
import Derived.Test.YtoblfjmokfldnaaDoorZZc
import Derived.Test.YtoblfjmokfldnaaDoorCards
import Derived.Test.YtoblfjmokfldnaaDoorTie
import Derived.WalkKit

section
namespace Go.Proofs

open Go.Sh Go.BM

set_option maxRecDepth 100000

set_option linter.unusedSimpArgs false

set_option linter.unusedVariables false

section

variable {w0 w : World} {r : Gh} {L : List Asr} {v va vb vc : Value} {c d e : List FnD} {K : Value → World → Prop} {l : List RowD}

theorem c_law20_listFits (hr : Holds r w) (hv : RwsG r v l) (h : ∀ (b : Bool) w', Ext w w' → (b = true → l.length ≤ 1500 ∧ ∀ x ∈ l, x.2.length ≤ 100) → K (.bool b) w') : oCall Tryd.prog Tryd.n_law20_listFits #[v] w K := by
  refine Tryd.ok_law20_listFits ?_
  unfold Tryd.F_law20_listFits
  have hv0 := hv
  obtain ⟨p, cap, rfl, hp, hc⟩ := hv.shape
  refine l_intro (ι := Nat) (fun i => [.int .i64 i]) (fun i w' => i ≤ l.length ∧ (l.length ≤ 1500 → ∀ x ∈ l.take i, x.2.length ≤ 100) ∧ St w r w' [])
    (fun i => l.length - i) 0 rfl ⟨Nat.zero_le _, fun _ x hx => by simp at hx, St.start hr⟩ ?_
  rintro i d w2 ⟨hi, hno, S⟩ K2 hK2
  simp only [List.getD_cons_zero]
  (first | refine s_p ?_ | refine s_c (by omega) ?_); (first | refine s_p ?_ | refine s_c (by omega) ?_)
  refine j_bandH (c := decide ((l.length : Int) ≤ 1500)) (fun _ K6 hK6 => by (repeat (first | refine s_p ?_ | refine s_c (by omega) ?_ | refine S.ld ?_ | refine S.ldB ?_ | refine S.ce ?_ | refine S.ceB ?_ | refine s_q ?_ | refine s_qc (by omega) ?_ | refine n_some ?_ | rw [List.getD_cons_zero] | rw [List.getD_cons_succ])); exact hK6) ?_
  refine c_b (fun hb => ?_) (fun hb => ?_)
  · have hb : i < l.length ∧ l.length ≤ 1500 := by simp at hb; omega
    obtain ⟨b, off, cap', n1, q1, c2, e, hR, hcell⟩ := rws_at hv0 hb.1
    cases e
    (first | refine s_p ?_ | refine s_c (by omega) ?_); (first | refine s_p ?_ | refine s_c (by omega) ?_)
    refine S.rd (a := ⟨b, off + i * 2 + 1, none⟩) (hcell 1 _ rfl) ?_
    (first | refine s_p ?_ | refine s_c (by omega) ?_); (first | refine s_p ?_ | refine s_c (by omega) ?_)
    obtain ⟨q', c', he, _⟩ := hR
    simp only [List.cons.injEq, Value.slice.injEq, and_true, true_and] at he
    refine c_if (fun hgt => ?_) (fun hle => ?_)
    · exact h false _ S.ext (fun h => by cases h)
    · (first | refine s_p ?_ | refine s_c (by omega) ?_)
      refine hK2 (i + 1) _ ⟨hb.1, fun hl x hx => ?_, S⟩ (by omega)
      rw [snoc_take hb.1] at hx
      rcases List.mem_append.1 hx with hx | hx
      · exact hno hl x hx
      · simp only [List.mem_singleton] at hx
        subst hx
        have := he.2.1
        omega
  · (first | refine s_p ?_ | refine s_c (by omega) ?_); (first | refine s_p ?_ | refine s_c (by omega) ?_)
    refine h _ _ S.ext fun hle => ?_
    have hle : l.length ≤ 1500 := by simp at hle; omega
    have hin : i = l.length := by simp at hb; omega
    refine ⟨hle, ?_⟩
    rw [hin, List.take_length] at hno
    exact hno hle
theorem c_law20_fits (hr : Holds r w) (hv : CertG r v c) (hl : c.length ≤ Go.maxLen) (h : ∀ (b : Bool) w', Ext w w' → (b = true → CSm c) → K (.bool b) w') : oCall Tryd.prog Tryd.n_law20_fits #[v] w K := by
  refine Tryd.ok_law20_fits ?_
  unfold Tryd.F_law20_fits
  obtain ⟨u, rfl, hu⟩ := hv
  have hu0 := hu
  obtain ⟨p, cap, rfl, hp, hc⟩ := hu.shape
  have S := St.start hr
  refine S.box fun b1 w1 S => ?_
  have S : St w r w1 (.cell b1 [.slice p c.length cap] 24 :: []) := S
  refine l_intro (ι := Nat × Nat) (fun i => [.int .i64 i.1, .int .i64 i.2]) (fun i w' => i.2 ≤ c.length ∧ (c.length ≤ 60 → i.1 ≤ 4500 * i.2) ∧ (c.length ≤ 60 ∨ i = (0, 0)) ∧ (c.length ≤ 60 → ∀ f ∈ c.take i.2, FnSm f) ∧ St w r w' (.cell b1 [.slice p c.length cap] 24 :: []))
    (fun i => c.length - i.2) (0, 0) rfl ⟨Nat.zero_le _, fun _ => Nat.zero_le _, .inr rfl, fun _ x hx => by simp at hx, S⟩ ?_
  repeat clear S
  rintro ⟨n, i⟩ d w2 ⟨hi, hn, h60, hno, S⟩ K2 hK2
  simp only at hi hn hno ⊢
  simp only [List.getD_cons_zero, List.getD_cons_succ]
  (repeat (first | refine s_p ?_ | refine s_c (by omega) ?_ | refine S.ld ?_ | refine S.ldB ?_ | refine S.ce ?_ | refine S.ceB ?_ | refine s_q ?_ | refine s_qc (by omega) ?_ | refine n_some ?_ | rw [List.getD_cons_zero] | rw [List.getD_cons_succ]))
  refine j_bandH (c := decide ((c.length : Int) ≤ 60)) (fun _ K6 hK6 => by (repeat (first | refine s_p ?_ | refine s_c (by omega) ?_ | refine S.ld ?_ | refine S.ldB ?_ | refine S.ce ?_ | refine S.ceB ?_ | refine s_q ?_ | refine s_qc (by omega) ?_ | refine n_some ?_ | rw [List.getD_cons_zero] | rw [List.getD_cons_succ])); exact hK6) ?_
  refine c_b (fun hb => ?_) (fun hb => ?_)
  · have hb : i < c.length ∧ c.length ≤ 60 := by simp at hb; omega
    obtain ⟨b, off, cap', p1, n1, c1, p2, n2, c2, p3, n3, c3, e, g1, g2, g3, hcell⟩ := fns_at hu0 hb.1
    cases e
    obtain rfl := g1.len
    obtain rfl := g2.len
    obtain rfl := g3.len
    (repeat (first | refine s_p ?_ | refine s_c (by omega) ?_ | refine S.ld ?_ | refine S.ldB ?_ | refine S.ce ?_ | refine S.ceB ?_ | refine s_q ?_ | refine s_qc (by omega) ?_ | refine n_some ?_ | rw [List.getD_cons_zero] | rw [List.getD_cons_succ]))
    refine s_ldN (n := 3) rfl (fun j u hj => S.at (hcell j u hj)) ?_
    refine S.al fun b5 w3 S => ?_
    refine S.stB fun w4 S => ?_
    have S : St w r w4 (.cell b5 [.slice p1 c[i].rows.length c1, .slice p2 c[i].ranges.length c2, .slice p3 c[i].moves.length c3] 50 :: .cell b1 [.slice (some ⟨b, off, none⟩) c.length cap] 24 :: []) := S
    (repeat (first | refine s_p ?_ | refine s_c (by omega) ?_ | refine S.ld ?_ | refine S.ldB ?_ | refine S.ce ?_ | refine S.ceB ?_ | refine s_q ?_ | refine s_qc (by omega) ?_ | refine n_some ?_ | rw [List.getD_cons_zero] | rw [List.getD_cons_succ]))
    refine c_law20_listFits S.holds g1 fun x1 w5 e5 f1 => ?_
    have S := S.go e5
    (first | refine s_p ?_ | refine s_c (by omega) ?_)
    refine j_orX (R := fun x w' => (x = false → x1 = true ∧ (c[i].ranges.length ≤ 1500 ∧ ∀ y ∈ c[i].ranges, y.2.length ≤ 100)) ∧ St w r w' (.cell b5 [.slice p1 c[i].rows.length c1, .slice p2 c[i].ranges.length c2, .slice p3 c[i].moves.length c3] 50 :: .cell b1 [.slice (some ⟨b, off, none⟩) c.length cap] 24 :: []))
      (fun _ => ⟨(fun h => by cases h), S⟩) (fun hx1 K6 hK6 => ?_) (fun x2 w6 hS => ?_)
    · (repeat (first | refine s_p ?_ | refine s_c (by omega) ?_ | refine S.ld ?_ | refine S.ldB ?_ | refine S.ce ?_ | refine S.ceB ?_ | refine s_q ?_ | refine s_qc (by omega) ?_ | refine n_some ?_ | rw [List.getD_cons_zero] | rw [List.getD_cons_succ]))
      refine c_law20_listFits S.holds g2 fun x w5 e5 f2 => ?_
      have S := S.go e5
      (first | refine s_p ?_ | refine s_c (by omega) ?_)
      exact hK6 _ _ ⟨fun hx => ⟨by simpa using hx1, f2 (by simpa using hx)⟩, S⟩
    obtain ⟨f2, S⟩ := hS
    refine j_orX (R := fun x w' => (x = false → x2 = false ∧ (c[i].moves.length ≤ 1500 ∧ ∀ y ∈ c[i].moves, y.2.length ≤ 100)) ∧ St w r w' (.cell b5 [.slice p1 c[i].rows.length c1, .slice p2 c[i].ranges.length c2, .slice p3 c[i].moves.length c3] 50 :: .cell b1 [.slice (some ⟨b, off, none⟩) c.length cap] 24 :: []))
      (fun _ => ⟨(fun h => by cases h), S⟩) (fun hx2 K6 hK6 => ?_) (fun x3 w7 hS => ?_)
    · (repeat (first | refine s_p ?_ | refine s_c (by omega) ?_ | refine S.ld ?_ | refine S.ldB ?_ | refine S.ce ?_ | refine S.ceB ?_ | refine s_q ?_ | refine s_qc (by omega) ?_ | refine n_some ?_ | rw [List.getD_cons_zero] | rw [List.getD_cons_succ]))
      refine c_law20_listFits S.holds g3 fun x w5 e5 f3 => ?_
      have S := S.go e5
      (first | refine s_p ?_ | refine s_c (by omega) ?_)
      exact hK6 _ _ ⟨fun hx => ⟨hx2, f3 (by simpa using hx)⟩, S⟩
    obtain ⟨f3, S⟩ := hS
    refine c_b (fun hb3 => ?_) (fun hb3 => ?_)
    · exact h false _ S.ext (fun h => by cases h)
    obtain ⟨h2, m1, m2⟩ := f3 hb3
    obtain ⟨h1, r1, r2⟩ := f2 h2
    obtain ⟨s1, s2⟩ := f1 h1
    have hn' := hn hb.2
    (repeat (first | refine s_p ?_ | refine s_c (by omega) ?_ | refine S.ld ?_ | refine S.ldB ?_ | refine S.ce ?_ | refine S.ceB ?_ | refine s_q ?_ | refine s_qc (by omega) ?_ | refine n_some ?_ | rw [List.getD_cons_zero] | rw [List.getD_cons_succ]))
    refine hK2 (n + (c[i].rows.length + c[i].ranges.length + c[i].moves.length), i + 1) _ ⟨hb.1, fun _ => by simp only; omega, .inl hb.2, fun h60 f hf => ?_, S.tl⟩ (by simp only; omega)
    simp only at hf
    rw [snoc_take hb.1] at hf
    rcases List.mem_append.1 hf with hf | hf
    · exact hno h60 f hf
    · simp only [List.mem_singleton] at hf
      subst hf
      exact ⟨⟨by omega, fun x hx => by have := s2 x hx; omega⟩, ⟨by omega, fun x hx => by have := r2 x hx; omega⟩, ⟨by omega, fun x hx => by have := m2 x hx; omega⟩⟩
  · (repeat (first | refine s_p ?_ | refine s_c (by omega) ?_ | refine S.ld ?_ | refine S.ldB ?_ | refine S.ce ?_ | refine S.ceB ?_ | refine s_q ?_ | refine s_qc (by omega) ?_ | refine n_some ?_ | rw [List.getD_cons_zero] | rw [List.getD_cons_succ]))
    refine j_bandH (c := decide ((n : Int) ≤ 3000)) (fun _ K6 hK6 => by (repeat (first | refine s_p ?_ | refine s_c (by omega) ?_ | refine S.ld ?_ | refine S.ldB ?_ | refine S.ce ?_ | refine S.ceB ?_ | refine s_q ?_ | refine s_qc (by omega) ?_ | refine n_some ?_ | rw [List.getD_cons_zero] | rw [List.getD_cons_succ])); exact hK6) ?_
    refine h _ _ S.ext fun hle => ?_
    have hle : c.length ≤ 60 := by simp at hle; omega
    have hin : i = c.length := by simp at hb; omega
    rw [hin, List.take_length] at hno
    exact ⟨by omega, hno hle⟩
end

end Go.Proofs
end

section
namespace Go.Proofs

open Go.Sh Go.BM

set_option maxRecDepth 100000

set_option linter.unusedSimpArgs false

set_option linter.unusedVariables false

/-- words that have been written over are words still -/
def Wordy (sw : Gh) (w : World) : Prop := ∀ (g : Nat) (ys : List Value) (n : Nat), sw g (.cells ys.toArray Tryd.t_uint64 (0, 0)) → (∀ k, k < n → ∃ y, ys[k]? = some (u64 y)) →
  ∃ zs : List Value, Blk w g zs Tryd.t_uint64 ∧ ∀ k, k < n → ∃ y, zs[k]? = some (u64 y)
theorem Wordy.of {sw : Gh} {w : World} (h : Holds sw w) : Wordy sw w := fun g ys n hg hy => ⟨ys, h g _ hg, hy⟩
theorem Wordy.go {sw : Gh} {w w' : World} (h : Wordy sw w) (e : Ext w w') : Wordy sw w' := fun g ys n hg hy => by
  obtain ⟨zs, B, hz⟩ := h g ys n hg hy
  exact ⟨zs, B.ext e, hz⟩
theorem Wordy.set {sw : Gh} {w w' : World} (h : Wordy sw w) {g : Nat} {zs : List Value} {k : Nat} {y : BitVec 64} (B : Blk w g zs Tryd.t_uint64) (hk : k < zs.length) (e : ExtBut (· = g) w w') (B' : Blk w' g (zs.set k (u64 y)) Tryd.t_uint64) : Wordy sw w' := fun g2 ys n hg hy => by
  obtain ⟨zs2, B2, hz⟩ := h g2 ys n hg hy
  by_cases hgg : g2 = g
  · subst hgg
    have : zs2 = zs := by
      have := B2.symm.trans B
      simp only [Option.some.injEq, Obj.cells.injEq] at this
      exact List.toArray_inj this.1
    subst this
    refine ⟨_, B', fun j hj => ?_⟩
    by_cases hjk : k = j
    · subst hjk; exact ⟨y, by simp [hk]⟩
    · obtain ⟨y', hy'⟩ := hz j hj
      exact ⟨y', by rw [List.getElem?_set_ne hjk]; exact hy'⟩
  · exact ⟨zs2, B2.but e hgg, hz⟩
/-- the blocks of these -/
abbrev blks (sw : Gh) : Nat → Prop := fun b => ∃ o, sw b o
section

variable {w0 w : World} {r q sh sw : Gh} {L : List Asr} {v va vb vc : Value} {c d e : List FnD} {K : Value → World → Prop} {l : List RowD}

/-- what stays, and the words that turn -/
structure Ovr (q sw : Gh) (w0 w : World) : Prop where
  x : ExtBut (blks sw) w0 w
  holds : Holds q w
  wordy : Wordy sw w
theorem Ovr.go {w' : World} (h : Ovr q sw w0 w) (e : Ext w w') : Ovr q sw w0 w' := ⟨h.x.trans (.of_ext e), h.holds.ext e, h.wordy.go e⟩
theorem c_law20_over (O : Ovr q sw w0 w) (hd : Dis q sw) (hv : SlG 2 q (OwC sw) v l) (hs : RwSm l) (h : ∀ w', Ovr q sw w0 w' → K (.tuple #[]) w') : oCall Tryd.prog Tryd.n_law20_over #[v] w K := by
  refine Tryd.ok_law20_over ?_
  unfold Tryd.F_law20_over
  have hl := hs.1
  have hv0 := hv
  obtain ⟨p, cap, rfl, hp, hc⟩ := hv.shape
  refine l_intro (ι := Nat) (fun i => [.int .i64 i]) (fun i w' => i ≤ l.length ∧ Ovr q sw w0 w') (fun i => l.length - i) 0 rfl ⟨Nat.zero_le _, O⟩ ?_
  clear O
  rintro i d w2 ⟨hi, O⟩ K2 hK2
  simp only [List.getD_cons_zero]
  (first | refine s_p ?_ | refine s_c (by omega) ?_); (first | refine s_p ?_ | refine s_c (by omega) ?_)
  refine c_if (fun hlt => ?_) (fun hge => h _ O)
  have hlt : i < l.length := by omega
  obtain ⟨b, off, cc, rfl, hcl, hR, hcell⟩ := SlG.get (by decide) hv0 hlt
  obtain ⟨p2, cap2, rfl, hp2, hc2, hcase⟩ := hR
  have hx := hs.2 _ (List.getElem_mem hlt)
  refine l_intro (ι := Nat) (fun i => [.int .i64 i]) (fun k w' => k ≤ l[i].2.length ∧ Ovr q sw w0 w') (fun k => l[i].2.length - k) 0 rfl ⟨Nat.zero_le _, O⟩ ?_
  clear O
  rintro k d w3 ⟨hk, O⟩ K3 hK3
  simp only [List.getD_cons_zero]
  (first | refine s_p ?_ | refine s_c (by omega) ?_); (first | refine s_p ?_ | refine s_c (by omega) ?_)
  refine s_ld1 (hcell 1 _ rfl _ O.holds) ?_
  (first | refine s_p ?_ | refine s_c (by omega) ?_); (first | refine s_p ?_ | refine s_c (by omega) ?_)
  refine c_if (fun hkl => ?_) (fun hge => ?_)
  · have hkl : k < l[i].2.length := by omega
    rcases hcase with h0 | ⟨g, ys, rfl, hg, hy⟩
    · rw [h0] at hkl; simp at hkl
    have O := O.go (Ext.drew _)
    (first | refine s_p ?_ | refine s_c (by omega) ?_); (first | refine s_p ?_ | refine s_c (by omega) ?_)
    refine s_ld1 (hcell 1 _ rfl _ O.holds) ?_
    (first | refine s_p ?_ | refine s_c (by omega) ?_); (first | refine s_p ?_ | refine s_c (by omega) ?_)
    refine s_ld1 (hcell 1 _ rfl _ O.holds) ?_
    (first | refine s_p ?_ | refine s_c (by omega) ?_)
    obtain ⟨zs, B, hz⟩ := O.wordy g ys l[i].2.length hg fun k hk => by
      have : (ys.take l[i].2.length)[k]? = some (u64 l[i].2[k]) := by rw [hy, List.getElem?_map, List.getElem?_eq_getElem hk]; rfl
      rw [List.getElem?_take, if_pos hk] at this
      exact ⟨_, this⟩
    obtain ⟨y, hy'⟩ := hz k hkl
    have hkz : k < zs.length := (List.getElem?_eq_some_iff.1 hy').1
    refine s_ld1 (v := u64 y) (by rw [B.cell, Nat.zero_add, Int.toNat_natCast]; exact hy') ?_
    (first | refine s_p ?_ | refine s_c (by omega) ?_); (first | refine s_p ?_ | refine s_c (by omega) ?_)
    rw [Int.toNat_natCast, Nat.zero_add]
    refine w_store1 SzT.h B hkz rfl fun w4 x4 _ B4 => ?_
    have O : Ovr q sw w0 w4 := ⟨O.x.trans (x4.mono fun k _ hk => ⟨_, hk ▸ hg⟩), O.holds.but x4 fun b o hb hbg => hd b o _ hb (hbg ▸ hg), O.wordy.set B hkz x4 B4⟩
    (first | refine s_p ?_ | refine s_c (by omega) ?_)
    exact hK3 (k + 1) _ ⟨hkl, O⟩ (by omega)
  · (first | refine s_p ?_ | refine s_c (by omega) ?_)
    exact hK2 (i + 1) _ ⟨hlt, O⟩ (by omega)
/-- both are the certificate that it must be; the one is written over -/
theorem c_law20_held (hr : Holds q w) (hw : Holds sw w) (hd : Dis q sw) (ha : CertG (q.or sw) va c) (hao : FnsO q sw (match va with | .agg cs => cs.getD 0 undef | _ => undef) c) (hb : CertG q vb d) (hc : CertG q vc e) (hs : CSm c) (hs2 : CSm d)
    (h : ∀ w', ExtBut (blks sw) w w' → Holds q w' → K (.bool (eqC c e && eqC d e)) w') : oCall Tryd.prog Tryd.n_law20_held #[va, vb, vc] w K := by
  refine Tryd.ok_law20_held ?_
  unfold Tryd.F_law20_held
  have ha0 := ha
  have hb0 := hb
  have hc0 := hc
  obtain ⟨x, rfl, hx⟩ := ha
  obtain ⟨y, rfl, hy⟩ := hb
  obtain ⟨z, rfl, hz⟩ := hc
  have hao : FnsO q sw x c := hao
  obtain ⟨p1, c1, rfl, _⟩ := hx.shape
  obtain ⟨p2, c2, rfl, _⟩ := hy.shape
  obtain ⟨p3, c3, rfl, _⟩ := hz.shape
  have hl := hs.1
  have S := St.start (hr.or hw)
  refine S.boxM fun b3 w1 hb3 _ S => ?_
  have z1 := S.x.size
  refine S.boxM fun b4 w2 hb4 _ S => ?_
  have z2 := S.x.size
  refine S.boxM fun b5 w3 hb5 _ S => ?_
  have S : St w (q.or sw) w3 (.cell b5 [.slice p3 e.length c3] 24 :: .cell b4 [.slice p2 d.length c2] 24 :: .cell b3 [.slice p1 c.length c1] 24 :: []) := S
  (repeat (first | refine s_p ?_ | refine s_c (by omega) ?_ | refine S.ld ?_ | refine S.ldB ?_ | refine S.ce ?_ | refine S.ceB ?_ | refine s_q ?_ | refine s_qc (by omega) ?_ | refine n_some ?_ | rw [List.getD_cons_zero] | rw [List.getD_cons_succ]))
  refine c_ref20_Equal S.holds ha0 hc0.up hs fun w4 e4 => ?_
  have S := S.go e4
  (first | refine s_p ?_ | refine s_c (by omega) ?_)
  refine c_b (fun hq => ?_) (fun hq => ?_)
  · rw [show eqC c e = false by simpa using hq, Bool.false_and] at h
    exact h _ (.of_ext S.ext) (S.holds.le (h := inferInstance))
  have hq : eqC c e = true := by simpa using hq
  rw [hq, Bool.true_and] at h
  have S := S.frz.frz.frz
  obtain ⟨q2, hq2⟩ : ∃ q2, q2 = ((q.or (one b5 [.slice p3 e.length c3] 24)).or (one b4 [.slice p2 d.length c2] 24)).or (one b3 [.slice p1 c.length c1] 24) := ⟨_, rfl⟩
  have lq : Le q q2 := by rw [hq2]; infer_instance
  have l5 : Le (one b5 [.slice p3 e.length c3] 24) q2 := by rw [hq2]; infer_instance
  have l4 : Le (one b4 [.slice p2 d.length c2] 24) q2 := by rw [hq2]; infer_instance
  have l3 : Le (one b3 [.slice p1 c.length c1] 24) q2 := by rw [hq2]; infer_instance
  have O : Ovr q2 sw w w4 := ⟨.of_ext S.ext, by rw [hq2]; exact S.holds.le (h := inferInstance), .of (S.holds.le (h := inferInstance))⟩
  have hd2 : Dis q2 sw := by
    rw [hq2]
    intro b o o' hb hsw
    have hlt := hw.lt hsw
    rcases hb with ((hb | ⟨rfl, _⟩) | ⟨rfl, _⟩) | ⟨rfl, _⟩
    · exact hd b o o' hb hsw
    all_goals omega
  have rd : ∀ {w' : World} {b : Nat} {u : Value} {Kp : Value → Prop}, Ovr q2 sw w w' → Le (one b [u] 24) q2 → Kp u → opQ Tryd.prog w' (Instr.loadAt 22 (.pointer (some ⟨b, 0, none⟩))) Kp := fun O le hk =>
    s_ld1 (((one_blk.up (l := le)) _ O.holds).cell 0) hk
  clear hq2
  refine l_intro (ι := Nat) (fun i => [.int .i64 i]) (fun i w' => i ≤ c.length ∧ Ovr q2 sw w w') (fun i => c.length - i) 0 rfl ⟨Nat.zero_le _, O⟩ ?_
  clear O
  rintro i d' w5 ⟨hi, O⟩ K2 hK2
  simp only [List.getD_cons_zero]
  (first | refine s_p ?_ | refine s_c (by omega) ?_)
  refine rd O l3 ?_
  (first | refine s_p ?_ | refine s_c (by omega) ?_); (first | refine s_p ?_ | refine s_c (by omega) ?_)
  refine c_if (fun hlt => ?_) (fun hge => ?_)
  · have hlt : i < c.length := by omega
    obtain ⟨b, off, cc, rfl, hcl, hR, hcell⟩ := SlG.get (by decide) hao hlt
    obtain ⟨u1, u2, u3, rfl, g1, g2, g3⟩ := hR
    obtain ⟨s1, s2, s3⟩ := hs.2 _ (List.getElem_mem hlt)
    obtain ⟨m1, k1, rfl, _⟩ := g1.shape
    obtain ⟨m2, k2, rfl, _⟩ := g2.shape
    obtain ⟨m3, k3, rfl, _⟩ := g3.shape
    (first | refine s_p ?_ | refine s_c (by omega) ?_)
    refine rd O l3 ?_
    (first | refine s_p ?_ | refine s_c (by omega) ?_); (first | refine s_p ?_ | refine s_c (by omega) ?_)
    refine s_ld1 (hcell 0 _ rfl _ (O.holds.le (h := lq))) ?_
    refine c_law20_over O hd2 (SlG.cells g1) s1 fun w6 O => ?_
    (first | refine s_p ?_ | refine s_c (by omega) ?_)
    refine rd O l3 ?_
    (first | refine s_p ?_ | refine s_c (by omega) ?_); (first | refine s_p ?_ | refine s_c (by omega) ?_)
    refine s_ld1 (hcell 1 _ rfl _ (O.holds.le (h := lq))) ?_
    refine c_law20_over O hd2 (SlG.cells g2) s2 fun w7 O => ?_
    (first | refine s_p ?_ | refine s_c (by omega) ?_)
    refine rd O l3 ?_
    (first | refine s_p ?_ | refine s_c (by omega) ?_); (first | refine s_p ?_ | refine s_c (by omega) ?_)
    refine s_ld1 (hcell 2 _ rfl _ (O.holds.le (h := lq))) ?_
    refine c_law20_over O hd2 (SlG.cells g3) s3 fun w8 O => ?_
    (first | refine s_p ?_ | refine s_c (by omega) ?_)
    exact hK2 (i + 1) _ ⟨hlt, O⟩ (by omega)
  · refine s_ldN (c := [.slice p2 d.length c2]) (n := 1) rfl (fun j u hj => by
      have B := (one_blk.up (l := l4)) _ O.holds
      rw [Nat.zero_add, B.cell]; exact hj) ?_
    refine s_ldN (c := [.slice p3 e.length c3]) (n := 1) rfl (fun j u hj => by
      have B := (one_blk.up (l := l5)) _ O.holds
      rw [Nat.zero_add, B.cell]; exact hj) ?_
    refine c_ref20_Equal (O.holds.le (h := lq)) hb0 hc0 hs2 fun w6 e6 => ?_
    have O := O.go e6
    exact h _ O.x (O.holds.le (h := lq))
end

end Go.Proofs
end

section
namespace Go.Proofs

open Go.Sh Go.BM

set_option maxRecDepth 100000

set_option linter.unusedSimpArgs false

set_option linter.unusedVariables false

abbrev rrC (rb : Nat) (s : List UInt8) (a : Nat) (stk lo : Bool) : Asr := .cell rb [.string (bs s), .int .i64 (a : Int), .bool stk, .bool lo] 104
abbrev rrP (rb : Nat) : Value := .pointer (some ⟨rb, 0, none⟩)
/-- a reader that may be stuck already -/
def rs {α : Type} (stk : Bool) (G : Gr α) (s : List UInt8) (a : Nat) : Rd' α := if stk then (a, none) else rd G s a
section

variable {X : Nat → Prop} {w0 w : World} {r : Gh} {L : List Asr} {rb a : Nat} {s : List UInt8} {stk lo : Bool} {K : Value → World → Prop}

theorem c_rr_one {l h' : Nat} (S : StX X w0 r w (rrC rb s a stk lo :: L)) (hs : s.length ≤ 1000000000)
    (h : ∀ v w', v ≤ h' → v < 256 → a < s.length → stk = false → rd (oneG l h') s a = (a + 1, some v) → StX X w0 r w' (rrC rb s (a + 1) false lo :: L) → K (.int .i64 (v : Nat)) w')
    (hk : ∀ w', rs stk (oneG l h') s a = (a, none) → StX X w0 r w' (rrC rb s a true lo :: L) → K (.int .i64 0) w') :
    oCall Tryd.prog Tryd.n_ref20_reader_one #[rrP rb, .int .i64 (l : Nat), .int .i64 (h' : Nat)] w K := by
  refine Tryd.ok_ref20_reader_one ?_
  unfold Tryd.F_ref20_reader_one
  unfold rs at hk
  rw [rd_one] at h hk
  have S := S.go (Ext.drew _)
  (repeat (first | refine s_p ?_ | refine s_c (by omega) ?_ | refine S.ld ?_ | refine S.ldB ?_ | refine S.ce ?_ | refine S.ceB ?_ | refine s_q ?_ | refine s_qc (by omega) ?_ | refine n_some ?_ | rw [List.getD_cons_zero] | rw [List.getD_cons_succ]))
  refine j_borH (c := decide ((s.length : Int) ≤ a)) (fun hb K3 hK3 => ?_) ?_
  · (repeat (first | refine s_p ?_ | refine s_c (by omega) ?_ | refine S.ld ?_ | refine S.ldB ?_ | refine S.ce ?_ | refine S.ceB ?_ | refine s_q ?_ | refine s_qc (by omega) ?_ | refine n_some ?_ | rw [List.getD_cons_zero] | rw [List.getD_cons_succ]))
    exact hK3
  refine j_borH (c := decide (byteAt s a < l)) (fun hb K3 hK3 => ?_) ?_
  · have hb : ¬ (s.length : Int) ≤ a := by simp only [Bool.or_eq_false_iff, decide_eq_false_iff_not] at hb; exact hb.2
    have hbt := byteAt_lt s (a : Int).toNat
    (repeat (first | refine s_p ?_ | refine s_c (by omega) ?_ | refine S.ld ?_ | refine S.ldB ?_ | refine S.ce ?_ | refine S.ceB ?_ | refine s_q ?_ | refine s_qc (by omega) ?_ | refine n_some ?_ | rw [List.getD_cons_zero] | rw [List.getD_cons_succ]))
    rw [Int.toNat_natCast]
    exact hK3
  refine j_borH (c := decide ((h' : Int) < byteAt s a)) (fun hb K3 hK3 => ?_) ?_
  · have hb : ¬ (s.length : Int) ≤ a := by simp only [Bool.or_eq_false_iff, decide_eq_false_iff_not] at hb; exact hb.1.2
    have hbt := byteAt_lt s (a : Int).toNat
    (repeat (first | refine s_p ?_ | refine s_c (by omega) ?_ | refine S.ld ?_ | refine S.ldB ?_ | refine S.ce ?_ | refine S.ceB ?_ | refine s_q ?_ | refine s_qc (by omega) ?_ | refine n_some ?_ | rw [List.getD_cons_zero] | rw [List.getD_cons_succ]))
    rw [Int.toNat_natCast]
    exact hK3
  refine c_b (fun hc => ?_) (fun hc => ?_)
  · (repeat (first | refine s_p ?_ | refine s_c (by omega) ?_ | refine S.ld ?_ | refine S.ldB ?_ | refine S.ce ?_ | refine S.ceB ?_ | refine s_q ?_ | refine s_qc (by omega) ?_ | refine n_some ?_ | rw [List.getD_cons_zero] | rw [List.getD_cons_succ]))
    refine S.st fun w3 S => ?_
    refine hk _ ?_ S
    cases stk with
    | true => rfl
    | false =>
      simp only [Bool.false_or] at hc
      rw [if_neg (by simp), if_pos hc]
  · have hc0 := hc
    simp only [Bool.or_eq_false_iff, decide_eq_false_iff_not] at hc
    obtain ⟨⟨⟨hst, h1⟩, h2⟩, h3⟩ := hc
    subst hst
    rw [if_neg (by simp only [Bool.or_eq_true, decide_eq_true_eq]; omega)] at h
    (repeat (first | refine s_p ?_ | refine s_c (by omega) ?_ | refine S.ld ?_ | refine S.ldB ?_ | refine S.ce ?_ | refine S.ceB ?_ | refine s_q ?_ | refine s_qc (by omega) ?_ | refine n_some ?_ | rw [List.getD_cons_zero] | rw [List.getD_cons_succ]))
    refine S.st fun w3 S => ?_
    have S := S.go (Ext.drew _)
    have hbt := byteAt_lt s ((a : Int) + 1 - 1).toNat
    (repeat (first | refine s_p ?_ | refine s_c (by omega) ?_ | refine S.ld ?_ | refine S.ldB ?_ | refine S.ce ?_ | refine S.ceB ?_ | refine s_q ?_ | refine s_qc (by omega) ?_ | refine n_some ?_ | rw [List.getD_cons_zero] | rw [List.getD_cons_succ]))
    have := byteAt_lt s a
    have e : ((a : Int) + 1 - 1).toNat = a := by omega
    rw [e]
    have hlt := (s.getD a 0).toNat_lt
    exact h (s.getD a 0).toNat _ (by unfold byteAt at this h3; omega) (by omega) (by omega) rfl rfl S
/-- of what it tells stuck only that it is no great number -/
theorem c_rr_number {most : Nat} (hm : most < 65536) (S : StX X w0 r w (rrC rb s a stk lo :: L)) (hs : s.length ≤ 1000000000)
    (h : ∀ v b w', v ≤ most → b ≤ s.length → stk = false → rd (numG most) s a = (b, some v) → StX X w0 r w' (rrC rb s b false lo :: L) → K (.int .i64 (v : Nat)) w')
    (hk : ∀ (x : Nat) b w', x ≤ 65536 → rs stk (numG most) s a = (b, none) → StX X w0 r w' (rrC rb s b true lo :: L) → K (.int .i64 (x : Nat)) w') :
    oCall Tryd.prog Tryd.n_ref20_reader_number #[rrP rb, .int .i64 0, .int .i64 (most : Nat)] w K := by
  refine Tryd.ok_ref20_reader_number ?_
  unfold Tryd.F_ref20_reader_number
  (first | refine s_p ?_ | refine s_c (by omega) ?_)
  refine s_c (by omega) ?_
  rw [show (most : Int) / 256 = ((most / 256 : Nat) : Int) by omega]
  have tail : ∀ (x b : Nat) (stk2 : Bool) (w1 : World), x < 256 → StX X w0 r w1 (rrC rb s b stk2 lo :: L) →
      (stk2 = false → x ≤ most / 256 ∧ stk = false ∧ rd (numG most) s a = bd (rd (oneG 0 (if x = most / 256 then most % 256 else 255)) s b) fun y c => (c, some (256 * x + y))) →
      (stk2 = true → rs stk (numG most) s a = (b, none)) →
      (sJoin (fun K2 =>
 opP Tryd.prog (bsem .quo 3 true (Value.int .i64 0) (Value.int .i64 256)) fun t18 =>
 opP Tryd.prog (bsem .eql 3 false (Value.int .i64 (x : Nat)) t18) fun t19 =>
 oCond t19 (opP Tryd.prog (bsem .rem 3 true (Value.int .i64 0) (Value.int .i64 256)) fun t21 =>
 K2 [t21] w1) (K2 [(Value.int .i64 0)] w1)) (fun s3 _d4 w5 =>
 sJoin (fun K6 =>
 opP Tryd.prog (bsem .quo 3 true (Value.int .i64 (most : Nat)) (Value.int .i64 256)) fun t24 =>
 opP Tryd.prog (bsem .eql 3 false (Value.int .i64 (x : Nat)) t24) fun t25 =>
 oCond t25 (opP Tryd.prog (bsem .rem 3 true (Value.int .i64 (most : Nat)) (Value.int .i64 256)) fun t27 =>
 K6 [t27] w5) (K6 [(Value.int .i64 255)] w5)) (fun s7 _d8 w9 =>
 opP Tryd.prog (bsem .mul 3 true (Value.int .i64 256) (Value.int .i64 (x : Nat))) fun t29 =>
 oCall Tryd.prog Tryd.n_ref20_reader_one #[rrP rb, (s3.getD 0 undef), (s7.getD 0 undef)] w9 fun t33 w10 =>
 opP Tryd.prog (bsem .add 3 false t29 t33) fun t34 =>
 K t34 w10))) := by
    intro x b stk2 w1 hx S hgo hst
    refine j_intro (fun v w' => v = [.int .i64 ((0 : Nat) : Int)] ∧ w1 = w') (fun K2 hK2 => ?_) ?_
    · (first | refine s_p ?_ | refine s_c (by omega) ?_); (first | refine s_p ?_ | refine s_c (by omega) ?_)
      refine c_if (fun he => ?_) (fun hn => ?_)
      · (first | refine s_p ?_ | refine s_c (by omega) ?_)
        exact hK2 _ _ ⟨rfl, rfl⟩
      · exact hK2 _ _ ⟨rfl, rfl⟩
    rintro _ _ ⟨rfl, rfl⟩ d5
    refine j_intro (fun v w' => v = [.int .i64 ((if x = most / 256 then most % 256 else 255 : Nat) : Int)] ∧ w1 = w') (fun K2 hK2 => ?_) ?_
    · refine s_c (by omega) ?_
      (first | refine s_p ?_ | refine s_c (by omega) ?_)
      refine c_if (fun he => ?_) (fun hn => ?_)
      · refine s_c (by omega) ?_
        refine hK2 _ _ ⟨?_, rfl⟩
        rw [if_pos (by omega)]; rfl
      · refine hK2 _ _ ⟨?_, rfl⟩
        rw [if_neg (by omega)]; rfl
    rintro _ _ ⟨rfl, rfl⟩ d9
    rw [List.getD_cons_zero, List.getD_cons_zero]
    refine s_c (by omega) ?_
    refine c_rr_one S hs (fun y w3 hy hy2 hlt hs2 e2 S => ?_) (fun w3 e2 S => ?_)
    · obtain ⟨h1, h2, h3⟩ := hgo hs2
      rw [e2] at h3
      simp only [bd] at h3
      refine s_c (by omega) ?_
      rw [show (256 : Int) * (x : Nat) + (y : Nat) = ((256 * x + y : Nat) : Int) by omega]
      refine h _ _ _ ?_ (by omega) h2 h3 S
      split at hy <;> omega
    · refine s_c (by omega) ?_
      rw [show (256 : Int) * (x : Nat) + 0 = ((256 * x : Nat) : Int) by omega]
      refine hk _ b _ (by omega) ?_ S
      cases stk2 with
      | true => exact hst rfl
      | false =>
        obtain ⟨h1, h2, h3⟩ := hgo rfl
        rw [rs, if_neg (by simp)] at e2
        rw [rs, h2, if_neg (by simp), h3, e2]; rfl
  have hn : rd (numG most) s a = bd (rd (oneG 0 (most / 256)) s a) fun x b => bd (rd (oneG 0 (if x = most / 256 then most % 256 else 255)) s b) fun y c => (c, some (256 * x + y)) := by
    rw [numG, rd_bind]; congr 1; funext x b; rw [rd_bind]; rfl
  refine c_rr_one (l := 0) S hs (fun x w1 hx hx2 hlt hs1 e1 S => ?_) (fun w1 e1 S => ?_)
  · exact tail x (a + 1) false w1 hx2 S (fun _ => ⟨hx, hs1, by rw [hn, e1]; rfl⟩) (fun h => by cases h)
  · refine tail 0 a true w1 (by omega) S (fun h => by cases h) fun _ => ?_
    cases stk with
    | true => rfl
    | false =>
      rw [rs, if_neg (by simp)] at e1 ⊢
      rw [hn, e1]; rfl
end

end Go.Proofs
end

section
namespace Go.Proofs

open Go.Sh Go.BM

set_option maxRecDepth 100000

set_option linter.unusedSimpArgs false

set_option linter.unusedVariables false

/-! ### Rows, byte by byte -/

section

variable {st : Bool} {w k a : Nat} {s : List UInt8}

theorem rd_rowF : rd (rowG st w) s a =
    match (List.range (min ((w + 7) / 8) (s.length - a))).find? (fun j => st && badAt w j (s.getD (a + j) 0)) with
    | some j => (a + j, none)
    | none => if (w + 7) / 8 ≤ s.length - a then (a + (w + 7) / 8, some (rowT w s a)) else (a + (s.length - a), none) := by
  rw [rd, rowG, run_rep, List.length_drop, rowT_eq]
  have : (fun j => st && badAt w (0 + j) ((s.drop a).getD j 0)) = fun j => st && badAt w j (s.getD (a + j) 0) := by
    funext j
    rw [Nat.zero_add, List.getD_eq_getElem?_getD, List.getElem?_drop, List.getD_eq_getElem?_getD]
  rw [this] <;> rfl
theorem row_bad (hk : k < (w + 7) / 8) (hlt : a + k < s.length) (hno : ∀ j, j < k → (st && badAt w j (s.getD (a + j) 0)) = false) (hb : (st && badAt w k (s.getD (a + k) 0)) = true) : rd (rowG st w) s a = (a + k, none) := by
  rw [rd_rowF, find_range (i := k) (by omega) hb hno]
theorem row_short (hk : k < (w + 7) / 8) (hend : a + k = s.length) (hno : ∀ j, j < k → (st && badAt w j (s.getD (a + j) 0)) = false) : rd (rowG st w) s a = (a + k, none) := by
  rw [rd_rowF, find_none fun j hj => hno j (by omega)]
  simp only
  rw [if_neg (by omega), show a + (s.length - a) = a + k by omega]
theorem row_done (hle : a + (w + 7) / 8 ≤ s.length) (hno : ∀ j, j < (w + 7) / 8 → (st && badAt w j (s.getD (a + j) 0)) = false) : rd (rowG st w) s a = (a + (w + 7) / 8, some (rowT w s a)) := by
  rw [rd_rowF, find_none fun j hj => hno j (by omega)]
  simp only
  rw [if_pos (by omega)]
theorem rowT_get (hk : k < (rowT w s a).length) : (rowT w s a)[k] = s.getD (a + k) 0 := by
  have h : ∀ (l : List UInt8) (e : l = (s.drop a).take ((w + 7) / 8)) (hk : k < l.length), l[k] = s.getD (a + k) 0 := by
    rintro _ rfl hk
    rw [List.getElem_take, List.getElem_drop, List.getD_eq_getElem?_getD]
    rw [List.length_take, List.length_drop] at hk
    rw [List.getElem?_eq_getElem (by omega)]; rfl
  exact h _ rowT_eq hk
theorem rowT_len : (rowT w s a).length = min ((w + 7) / 8) (s.length - a) := by rw [rowT_eq, List.length_take, List.length_drop]
/-- a bit of its bytes -/
theorem rowT_bit {j : Nat} (hk : k < (w + 7) / 8) (hlt : a + k < s.length) (hj : j < 8) : sbit (bs (rowT w s a)) (8 * k + j) = (s.getD (a + k) 0).toBitVec.getLsbD (7 - j) := by
  have hk' : k < (rowT w s a).length := by rw [rowT_len]; omega
  rw [sbit_at (by rw [bs_size]; exact hk') hj, ← rowT_get hk']
  rfl
end

/-- the words that are laid when so many bits have been looked at -/
def wAt (w : Nat) (t : List UInt8) (m : Nat) : List (BitVec 64) := turnAll (fun x y => x ||| y) (zeros (w : Int)) (sL (bs t) (min m w))
theorem wAt_len (w : Nat) (t : List UInt8) (m : Nat) : (wAt w t m).length = (w + 63) / 64 := by
  rw [wAt, turnAll_length, zeros, List.length_replicate, Int.toNat_natCast]
theorem wAt_zero (w : Nat) (t : List UInt8) : wAt w t 0 = zeros (w : Int) := by rw [wAt, Nat.zero_min]; rfl
theorem wAt_end {w : Nat} {t : List UInt8} {m : Nat} (h : w ≤ m) : wAt w t m = wordsOf w t := by
  rw [wAt, Nat.min_eq_right h, wordsOf, zeros, Int.toNat_natCast]
theorem wAt_no {w : Nat} {t : List UInt8} {m : Nat} (h : w ≤ m ∨ sbit (bs t) m = false) : wAt w t (m + 1) = wAt w t m := by
  rcases Nat.lt_or_ge m w with hm | hm
  · have hb := h.resolve_left (by omega)
    rw [wAt, wAt, Nat.min_eq_left (by omega), Nat.min_eq_left (by omega), sL_succ, hb]; rfl
  · rw [wAt, wAt, Nat.min_eq_right (by omega), Nat.min_eq_right hm]
theorem wAt_set {w : Nat} {t : List UInt8} {m : Nat} (h : m < w) (hb : sbit (bs t) m = true) : wAt w t (m + 1) = turnW (fun x y => x ||| y) (wAt w t m) (m : Int) := by
  rw [wAt, wAt, Nat.min_eq_left (by omega), Nat.min_eq_left (by omega), sL_succ, hb, if_pos rfl, turnAll_snoc]
/-- the cell of words, if there are any -/
def WdL (p : Option Addr) (ws : List (BitVec 64)) (Lw : List Asr) : Prop := (ws = [] ∧ Lw = []) ∨ ∃ (g : Nat) (c : List Value), p = some ⟨g, 0, none⟩ ∧ Lw = [.cell g c Tryd.t_uint64] ∧ c.take ws.length = ws.map u64
theorem fresh_own {w0 w w' : World} {r : Gh} {L : List Asr} {v : Value} {W : Int} {ws : List (BitVec 64)} (S : St w0 r w L) (e : Ext w w') (hf : FreshRow w' w.heap.size v W ws) :
    ∃ p cap Lw, v = .agg #[.int .i64 W, .slice p ws.length cap] ∧ (p = none → cap = 0) ∧ ws.length ≤ cap ∧ WdL p ws Lw ∧ St w0 r w' (Lw ++ L) := by
  obtain ⟨p, cap, h1, h2, h3, rfl | ⟨g, c, rfl, hg, B, hc⟩⟩ := hf
  · exact ⟨p, cap, [], h1, h2, h3, .inl ⟨rfl, rfl⟩, S.go e⟩
  · exact ⟨_, cap, [.cell g c _], h1, h2, h3, .inr ⟨g, c, rfl, rfl, hc⟩, S.add e hg B⟩
/-- the words come to stay -/
theorem wd_frz {w0 w : World} {r : Gh} {L Lw : List Asr} {p : Option Addr} {ws : List (BitVec 64)} (h : WdL p ws Lw) (S : St w0 r w (Lw ++ L)) :
    ∃ s, St w0 (r.or s) w L ∧ Above w0 s ∧ Ob s fun w => Sl w p (ws.map u64) := by
  rcases h with ⟨rfl, rfl⟩ | ⟨g, c, rfl, rfl, hc⟩
  · exact ⟨nothing, S.new (Ext.refl _) New.nothing, .no, fun w _ => Sl.nil w _⟩
  · refine ⟨one g c _, StX.frz S, ?_, fun w k => by rw [← hc]; exact (Sl.blk (one_blk w k)).take _⟩
    rintro b o ⟨rfl, _⟩
    exact (S.mine _ (List.mem_cons_self ..) b rfl).1.resolve_right id
section

variable {w0 w : World} {r : Gh} {L : List Asr} {rb a : Nat} {s : List UInt8} {stk lo : Bool} {K : Value → World → Prop}

theorem c_rr_numberU {most : Nat} (hm : most < 65536) (S : St w0 r w (rrC rb s a stk lo :: L)) (hs : s.length ≤ 1000000000) (ha : a ≤ s.length)
    (h : ∀ (x b : Nat) (stk2 : Bool) w', x ≤ 65536 → b ≤ s.length → (stk2 = false → stk = false ∧ x ≤ most ∧ rd (numG most) s a = (b, some x)) → (stk2 = true → rs stk (numG most) s a = (b, none)) →
      St w0 r w' (rrC rb s b stk2 lo :: L) → K (.int .i64 (x : Nat)) w') :
    oCall Tryd.prog Tryd.n_ref20_reader_number #[rrP rb, .int .i64 0, .int .i64 (most : Nat)] w K := by
  refine c_rr_number hm S hs (fun v b w' hv hb hst e S => h v b false w' (by omega) hb (fun _ => ⟨hst, hv, e⟩) (fun h => by cases h) S) (fun x b w' hx e S => h x b true w' hx ?_ (fun h => by cases h) (fun _ => e) S)
  cases stk with
  | true => simp only [rs, if_true, Prod.mk.injEq, and_true] at e; omega
  | false =>
    have := (rd_le (G := numG most) ha).2
    rw [rs, if_neg (by simp)] at e
    rw [e] at this; exact this
theorem c_rr_list {most : Nat} (hm : most ≤ 512) (S : St w0 r w (rrC rb s a stk lo :: L)) (hs : s.length ≤ 1000000000) (ha : a ≤ s.length)
    (h : ∀ v sn (x : LstR) b w', rd (listG (!lo) most) s a = (b, some x) → b ≤ s.length → stk = false → St w0 (r.or sn) w' (rrC rb s b false lo :: L) → Above w0 sn → RwsG sn v x.rows → K (.tuple #[v, .int .i64 (x.n : Nat), .int .i64 (x.w : Nat), .int .i64 ((a + 4 : Nat) : Int)]) w')
    (hk : ∀ v sn l (x y z b : Nat) w', rs stk (listG (!lo) most) s a = (b, none) → b ≤ s.length → St w0 (r.or sn) w' (rrC rb s b true lo :: L) → Above w0 sn → RwsG sn v l → K (.tuple #[v, .int .i64 (x : Nat), .int .i64 (y : Nat), .int .i64 (z : Nat)]) w') :
    oCall Tryd.prog Tryd.n_ref20_reader_list #[rrP rb, .int .i64 (most : Nat)] w K := by
  refine Tryd.ok_ref20_reader_list ?_
  unfold Tryd.F_ref20_reader_list
  have hrl := rd_list (st := !lo) (most := most) (s := s) (a := a)
  have hhd : rd (headG most) s a = bd (rd (numG most) s a) fun n b => bd (rd (numG (if 0 < n then 1032 else 0)) s b) fun w c => (c, some (n, w)) := by
    rw [headG, rd_bind]; congr 1; funext n b; rw [rd_bind]; rfl
  refine c_rr_numberU (by omega) S hs ha fun n b1 st1 w1 hn hb1 g1 k1 S => ?_
  refine j_intro (fun v w' => v = [.int .i64 ((if 0 < n then 1032 else 0 : Nat) : Int)] ∧ w1 = w') (fun K2 hK2 => ?_) ?_
  · (first | refine s_p ?_ | refine s_c (by omega) ?_)
    refine c_if (fun he => ?_) (fun hne => ?_)
    · exact hK2 _ _ ⟨by rw [if_neg (by omega)]; rfl, rfl⟩
    · exact hK2 _ _ ⟨by rw [if_pos (by omega)]; rfl, rfl⟩
  rintro _ _ ⟨rfl, rfl⟩ d5
  rw [List.getD_cons_zero]
  refine c_rr_numberU (by split <;> omega) S hs hb1 fun wd b2 st2 w2 hwd hb2 g2 k2 S => ?_
  have good : st2 = false → stk = false ∧ wd ≤ 1032 ∧ n ≤ 512 ∧ rd (headG most) s a = (b2, some (n, wd)) := fun h2 => by
    obtain ⟨q1, q2, q3⟩ := g2 h2
    obtain ⟨q4, q5, q6⟩ := g1 q1
    refine ⟨q4, by split at q2 <;> omega, by omega, ?_⟩
    rw [hhd, q6]; simp only [bd]; rw [q3]
  have bad : st2 = true → rs stk (listG (!lo) most) s a = (b2, none) := fun h2 => by
    have k2 := k2 h2
    cases st1 with
    | true =>
      have k1 := k1 rfl
      simp only [rs, if_true, Prod.mk.injEq, and_true] at k2
      subst k2
      cases stk with
      | true => simp only [rs, if_true, Prod.mk.injEq, and_true] at k1 ⊢; exact k1
      | false =>
        rw [rs, if_neg (by simp)] at k1 ⊢
        rw [hrl, hhd, k1]; rfl
    | false =>
      obtain ⟨q4, q5, q6⟩ := g1 rfl
      rw [rs, if_neg (by simp)] at k2
      rw [rs, q4, if_neg (by simp), hrl, hhd, q6]
      simp only [bd]
      rw [k2]
  (repeat (first | refine s_p ?_ | refine s_c (by omega) ?_ | refine S.ld ?_ | refine S.ldB ?_ | refine S.ce ?_ | refine S.ceB ?_ | refine s_q ?_ | refine s_qc (by omega) ?_ | refine n_some ?_ | rw [List.getD_cons_zero] | rw [List.getD_cons_succ]))
  have S := (S.ownNil Tryd.t_Row 2).swap
  refine l_intro (ι := Value × Nat) (fun i => [i.1, .int .i64 i.2])
    (fun i w' => ∃ (b : Nat) (stk3 : Bool) (done : List (List UInt8)) (dl : List RowD) (xs : List Value) (sn : Gh), b ≤ s.length ∧ i.2 ≤ n ∧ dl.length = i.2 ∧ St w0 (r.or sn) w' (rrC rb s b stk3 lo :: .row i.1 Tryd.t_Row 2 i.2 xs :: L) ∧ Above w0 sn ∧ RowOf 2 (RwC sn) xs dl ∧
      (stk3 = true → rs stk (listG (!lo) most) s a = (b, none)) ∧ (stk3 = false → st2 = false ∧ RepInv (fun _ => rowG (!lo) wd) n s b2 i.2 b done ∧ dl = done.map fun t => ((wd : Int), wordsOf wd t)))
    (fun i => n - i.2) (.slice none 0 0, 0) rfl ⟨b2, st2, [], [], [], nothing, hb2, Nat.zero_le _, rfl, S.new (Ext.refl _) New.nothing, .no, .nil, bad, fun h2 => ⟨h2, .start, rfl⟩⟩ ?_
  clear S
  rintro ⟨v, i⟩ d w3 ⟨b, stk3, done, dl, xs, sn, hb, hi, hdl, S, hab, hrows, hbad, hgood⟩ K3 hK3
  simp only at hi hdl S hgood ⊢
  simp only [List.getD_cons_zero, List.getD_cons_succ]
  (first | refine s_p ?_ | refine s_c (by omega) ?_)
  refine j_bandH (c := !stk3) (fun hlt K4 hK4 => by (repeat (first | refine s_p ?_ | refine s_c (by omega) ?_ | refine S.ld ?_ | refine S.ldB ?_ | refine S.ce ?_ | refine S.ceB ?_ | refine s_q ?_ | refine s_qc (by omega) ?_ | refine n_some ?_ | rw [List.getD_cons_zero] | rw [List.getD_cons_succ])); exact hK4) ?_
  refine c_b (fun hc => ?_) (fun hc => ?_)
  rotate_left
  · -- no more rows
    obtain ⟨s2, S, hsl, _, ha2⟩ := S.swap.doneRow hrows (by decide) hdl.symm
    have ha2 : Above w0 s2 := fun b o hb => (ha2 b o hb).resolve_right id
    have hsl : RwsG (sn.or s2) v dl := SlG.up' hsl inferInstance fun _ _ h => h.up
    cases stk3 with
    | true => exact hk v (sn.or s2) dl n wd _ b _ (hbad rfl) hb S.reGh (hab.or' ha2) hsl
    | false =>
      obtain ⟨q1, q2, rfl⟩ := hgood rfl
      obtain ⟨q3, q4, q5, q6⟩ := good q1
      have hge : n ≤ i := by simp at hc; omega
      have e := q2.end_ hge
      have hb4 := head_at (by omega) q6
      have hfin := hrl
      rw [q6] at hfin
      simp only [bd] at hfin
      rw [e] at hfin
      simp only [bd] at hfin
      have := h v (sn.or s2) ⟨n, wd, done⟩ b _ hfin hb q3 S.reGh (hab.or' ha2) hsl
      rw [← hb4] at this
      exact this
  have hlt : i < n := by simp at hc; omega
  obtain rfl : stk3 = false := by simp at hc; exact hc.2
  obtain ⟨q1, q2, hdd⟩ := hgood rfl
  obtain ⟨q3, q4, q5, q6⟩ := good q1
  refine c_ref01_None (by omega) (by omega) fun v' w4 e4 hf => ?_
  obtain ⟨p, cap, Lw, rfl, hp, hcap, hwd, S⟩ := fresh_own S e4 hf
  have S : St w0 (r.or sn) w4 (rrC rb s b false lo :: .row v Tryd.t_Row 2 i xs :: (Lw ++ L)) := S.permO ((List.perm_middle.trans (.cons _ List.perm_middle)).symm)
  refine S.al fun bx w5 S => ?_
  refine S.stB fun w6 S => ?_
  rw [← wAt_zero wd (rowT wd s b)] at hwd
  have hzl : (zeros (wd : Int)).length = (wd + 63) / 64 := by rw [zeros, List.length_replicate, Int.toNat_natCast]
  rw [hzl] at S hcap
  have S : St w0 (r.or sn) w6 (.cell bx [.int .i64 (wd : Int), .slice p ((wd + 63) / 64) cap] Tryd.t_Row :: rrC rb s b false lo :: .row v Tryd.t_Row 2 i xs :: (Lw ++ L)) := S
  refine j_intro (fun _ w' => ∃ (stk4 : Bool) (b' m : Nat) (Lw : List Asr), St w0 (r.or sn) w' (.cell bx [.int .i64 (wd : Int), .slice p ((wd + 63) / 64) cap] Tryd.t_Row :: rrC rb s b' stk4 lo :: .row v Tryd.t_Row 2 i xs :: (Lw ++ L)) ∧
      WdL p (wAt wd (rowT wd s b) m) Lw ∧ b' ≤ s.length ∧ (stk4 = true → rd (rowG (!lo) wd) s b = (b', none)) ∧ (stk4 = false → wd ≤ m ∧ rd (rowG (!lo) wd) s b = (b', some (rowT wd s b)))) (fun K18 hK18 => ?_) ?_
  · refine l_intro (ι := Nat) (fun k => [.int .i64 k])
      (fun k w' => ∃ (stk4 : Bool) (b' m : Nat) (Lw : List Asr), St w0 (r.or sn) w' (.cell bx [.int .i64 (wd : Int), .slice p ((wd + 63) / 64) cap] Tryd.t_Row :: rrC rb s b' stk4 lo :: .row v Tryd.t_Row 2 i xs :: (Lw ++ L)) ∧
        WdL p (wAt wd (rowT wd s b) m) Lw ∧ b' ≤ s.length ∧ k ≤ (wd + 7) / 8 ∧ (stk4 = true → rd (rowG (!lo) wd) s b = (b', none)) ∧
        (stk4 = false → b' = b + k ∧ m = 8 * k ∧ ∀ j, j < k → (!lo && badAt wd j (s.getD (b + j) 0)) = false))
      (fun k => (wd + 7) / 8 - k) 0 rfl ⟨false, b, 0, Lw, S, hwd, hb, Nat.zero_le _, (fun h => by cases h), fun _ => ⟨rfl, rfl, fun j hj => absurd hj (Nat.not_lt_zero _)⟩⟩ ?_
    clear S hwd
    rintro k d7 w7 ⟨stk4, b', m, Lw, S, hwd, hb', hk, hbd, hgd⟩ K22 hK22
    simp only [List.getD_cons_zero]
    refine s_c (by omega) ?_
    refine s_c (by omega) ?_
    rw [show ((wd : Int) + 7) / 8 = (((wd + 7) / 8 : Nat) : Int) by omega]
    (first | refine s_p ?_ | refine s_c (by omega) ?_)
    refine j_bandH (c := !stk4) (fun hlt K4 hK4 => by (repeat (first | refine s_p ?_ | refine s_c (by omega) ?_ | refine S.ld ?_ | refine S.ldB ?_ | refine S.ce ?_ | refine S.ceB ?_ | refine s_q ?_ | refine s_qc (by omega) ?_ | refine n_some ?_ | rw [List.getD_cons_zero] | rw [List.getD_cons_succ])); exact hK4) ?_
    refine c_b (fun hc => ?_) (fun hc => ?_)
    rotate_left
    · refine hK18 _ _ ⟨stk4, b', m, Lw, S, hwd, hb', hbd, fun h4 => ?_⟩
      obtain ⟨rfl, rfl, hno⟩ := hgd h4
      have hge : (wd + 7) / 8 ≤ k := by rw [h4] at hc; simp at hc; omega
      have hkk : k = (wd + 7) / 8 := by omega
      refine ⟨by omega, ?_⟩
      rw [hkk] at hno hb' ⊢
      exact row_done hb' hno
    have hlk : k < (wd + 7) / 8 := by simp at hc; omega
    obtain rfl : stk4 = false := by simp at hc; exact hc.2
    obtain ⟨rfl, rfl, hno⟩ := hgd rfl
    intro K30 hK30
    have S := S.go (Ext.drew _)
    (repeat (first | refine s_p ?_ | refine s_c (by omega) ?_ | refine S.ld ?_ | refine S.ldB ?_ | refine S.ce ?_ | refine S.ceB ?_ | refine s_q ?_ | refine s_qc (by omega) ?_ | refine n_some ?_ | rw [List.getD_cons_zero] | rw [List.getD_cons_succ]))
    refine c_if (fun hend => ?_) (fun hmore => ?_)
    · (repeat (first | refine s_p ?_ | refine s_c (by omega) ?_ | refine S.ld ?_ | refine S.ldB ?_ | refine S.ce ?_ | refine S.ceB ?_ | refine s_q ?_ | refine s_qc (by omega) ?_ | refine n_some ?_ | rw [List.getD_cons_zero] | rw [List.getD_cons_succ]))
      refine S.st fun w8 S => ?_
      exact hK18 _ _ ⟨true, b + k, 8 * k, Lw, S, hwd, hb', fun _ => row_short hlk (by omega) hno, fun h => by cases h⟩
    have hmore : b + k < s.length := by omega
    have S := S.go (Ext.drew _)
    refine n_some ?_
    (repeat (first | refine s_p ?_ | refine s_c (by omega) ?_ | refine S.ld ?_ | refine S.ldB ?_ | refine S.ce ?_ | refine S.ceB ?_ | refine s_q ?_ | refine s_qc (by omega) ?_ | refine n_some ?_ | rw [List.getD_cons_zero] | rw [List.getD_cons_succ]))
    rw [Int.toNat_natCast]
    refine l_intro (ι := Nat) (fun j => [.int .i64 j])
      (fun j w' => ∃ (stk5 : Bool) (Lw : List Asr), j ≤ 8 ∧ St w0 (r.or sn) w' (.cell bx [.int .i64 (wd : Int), .slice p ((wd + 63) / 64) cap] Tryd.t_Row :: rrC rb s (b + k) stk5 lo :: .row v Tryd.t_Row 2 i xs :: (Lw ++ L)) ∧
        WdL p (wAt wd (rowT wd s b) (8 * k + j)) Lw ∧ stk5 = (!lo && (List.range j).any fun i => decide (wd ≤ 8 * k + i) && (s.getD (b + k) 0).toBitVec.getLsbD (7 - i)))
      (fun j => 8 - j) 0 rfl ⟨false, Lw, Nat.zero_le _, S, hwd, by simp⟩ ?_
    clear S hwd
    rintro j d8 w8 ⟨stk5, Lw, hj, S, hwd, hst⟩ K35 hK35
    simp only [List.getD_cons_zero]
    (first | refine s_p ?_ | refine s_c (by omega) ?_)
    refine c_if (fun hj8 => ?_) (fun hj8 => ?_)
    · have hj8 : j < 8 := by omega
      have hbit := rowT_bit (w := wd) (a := b) (s := s) hlk hmore hj8
      have hany : ∀ x : Bool, x = (decide (wd ≤ 8 * k + j) && (s.getD (b + k) 0).toBitVec.getLsbD (7 - j)) → (stk5 || (!lo && x)) = (!lo && (List.range (j + 1)).any fun i => decide (wd ≤ 8 * k + i) && (s.getD (b + k) 0).toBitVec.getLsbD (7 - i)) := by
        rintro _ rfl
        rw [hst, List.range_succ, List.any_append]
        simp only [List.any_cons, List.any_nil, Bool.or_false, Bool.and_or_distrib_left]
      intro K39 hK39
      refine p_bit8N (p_and88 (x := (s.getD (b + k) 0).toBitVec) ?_)
      (first | refine s_p ?_ | refine s_c (by omega) ?_)
      have h88 := and_bit8 (s.getD (b + k) 0).toBitVec j hj8
      refine c_if (fun hz => ?_) (fun hz => ?_)
      · have hb0 : (s.getD (b + k) 0).toBitVec.getLsbD (7 - j) = false := h88.1 (by omega)
        refine hK39 _ _ fun d9 => ?_
        (first | refine s_p ?_ | refine s_c (by omega) ?_)
        refine hK35 (j + 1) _ ⟨stk5, Lw, hj8, S, ?_, ?_⟩ (by omega)
        · rw [show 8 * k + (j + 1) = 8 * k + j + 1 by omega, wAt_no (.inr (by rw [hbit, hb0]))]
          exact hwd
        · rw [← hany false (by rw [hb0, Bool.and_false])]; simp
      · have hb1 : (s.getD (b + k) 0).toBitVec.getLsbD (7 - j) = true := by
          cases hb : (s.getD (b + k) 0).toBitVec.getLsbD (7 - j) with
          | true => rfl
          | false => exact absurd (h88.2 hb) (by omega)
        (repeat (first | refine s_p ?_ | refine s_c (by omega) ?_ | refine S.ld ?_ | refine S.ldB ?_ | refine S.ce ?_ | refine S.ceB ?_ | refine s_q ?_ | refine s_qc (by omega) ?_ | refine n_some ?_ | rw [List.getD_cons_zero] | rw [List.getD_cons_succ]))
        refine c_if (fun hge => ?_) (fun hlw => ?_)
        · (repeat (first | refine s_p ?_ | refine s_c (by omega) ?_ | refine S.ld ?_ | refine S.ldB ?_ | refine S.ce ?_ | refine S.ceB ?_ | refine s_q ?_ | refine s_qc (by omega) ?_ | refine n_some ?_ | rw [List.getD_cons_zero] | rw [List.getD_cons_succ]))
          refine j_borH (c := !lo) (fun h5 K43 hK43 => by (repeat (first | refine s_p ?_ | refine s_c (by omega) ?_ | refine S.ld ?_ | refine S.ldB ?_ | refine S.ce ?_ | refine S.ceB ?_ | refine s_q ?_ | refine s_qc (by omega) ?_ | refine n_some ?_ | rw [List.getD_cons_zero] | rw [List.getD_cons_succ])); exact hK43) ?_
          (repeat (first | refine s_p ?_ | refine s_c (by omega) ?_ | refine S.ld ?_ | refine S.ldB ?_ | refine S.ce ?_ | refine S.ceB ?_ | refine s_q ?_ | refine s_qc (by omega) ?_ | refine n_some ?_ | rw [List.getD_cons_zero] | rw [List.getD_cons_succ]))
          refine S.st fun w9 S => ?_
          refine hK39 _ _ fun d9 => ?_
          (first | refine s_p ?_ | refine s_c (by omega) ?_)
          refine hK35 (j + 1) _ ⟨_, Lw, hj8, S, ?_, ?_⟩ (by omega)
          · rw [show 8 * k + (j + 1) = 8 * k + j + 1 by omega, wAt_no (.inl (by omega))]
            exact hwd
          · rw [← hany true (by rw [hb1, decide_eq_true (by omega)]; rfl), Bool.and_true]
        · have hlw : 8 * k + j < wd := by omega
          have hlen := wAt_len wd (rowT wd s b) (8 * k + j)
          rcases hwd with ⟨h0, _⟩ | ⟨g, c, rfl, rfl, hc0⟩
          · rw [h0] at hlen; simp at hlen; omega
          have S := S.go (Ext.drew _)
          simp only [List.cons_append, List.nil_append] at S
          have hix : ((8 * (k : Int) + (j : Int)) / 64).toNat = (8 * k + j) / 64 := by omega
          have hidx : (8 * k + j) / 64 < (wAt wd (rowT wd s b) (8 * k + j)).length := by rw [hlen]; omega
          have hcell : c[(8 * k + j) / 64]? = some (u64 (wAt wd (rowT wd s b) (8 * k + j))[(8 * k + j) / 64]) := by
            have : (c.take (wAt wd (rowT wd s b) (8 * k + j)).length)[(8 * k + j) / 64]? = some (u64 (wAt wd (rowT wd s b) (8 * k + j))[(8 * k + j) / 64]) := by
              rw [hc0, List.getElem?_map, List.getElem?_eq_getElem hidx]; rfl
            rw [List.getElem?_take, if_pos hidx] at this
            exact this
          have hcl : (8 * k + j) / 64 < c.length := (List.getElem?_eq_some_iff.1 hcell).1
          (repeat (first | refine s_p ?_ | refine s_c (by omega) ?_ | refine S.ld ?_ | refine S.ldB ?_ | refine S.ce ?_ | refine S.ceB ?_ | refine s_q ?_ | refine s_qc (by omega) ?_ | refine n_some ?_ | rw [List.getD_cons_zero] | rw [List.getD_cons_succ]))
          rw [hix, Nat.zero_add]
          refine S.ld ?_ hcell
          (repeat (first | refine s_p ?_ | refine s_c (by omega) ?_ | refine S.ld ?_ | refine S.ldB ?_ | refine S.ce ?_ | refine S.ceB ?_ | refine s_q ?_ | refine s_qc (by omega) ?_ | refine n_some ?_ | rw [List.getD_cons_zero] | rw [List.getD_cons_succ]))
          rw [hix, Nat.zero_add]
          refine S.st (fun w9 S => ?_) hcl
          refine hK39 _ _ fun d9 => ?_
          (first | refine s_p ?_ | refine s_c (by omega) ?_)
          refine hK35 (j + 1) _ ⟨stk5, [.cell g _ Tryd.t_uint64], hj8, S, .inr ⟨g, _, rfl, rfl, ?_⟩, ?_⟩ (by omega)
          · rw [show 8 * k + (j + 1) = 8 * k + j + 1 by omega, wAt_set hlw (by rw [hbit, hb1])]
            unfold turnW
            rw [List.length_set, List.take_set, hc0, Int.toNat_natCast, List.map_set, List.getD_eq_getElem?_getD, List.getElem?_eq_getElem hidx]
            rw [show ((8 * (k : Int) + (j : Int)) % 64).toNat = (8 * k + j) % 64 by omega]
            rfl
          · rw [← hany false (by rw [hb1, decide_eq_false (by omega)]; rfl)]; simp
    · have hj8 : j = 8 := by omega
      subst hj8
      have hbad : stk5 = (!lo && badAt wd k (s.getD (b + k) 0)) := hst
      (repeat (first | refine s_p ?_ | refine s_c (by omega) ?_ | refine S.ld ?_ | refine S.ldB ?_ | refine S.ce ?_ | refine S.ceB ?_ | refine s_q ?_ | refine s_qc (by omega) ?_ | refine n_some ?_ | rw [List.getD_cons_zero] | rw [List.getD_cons_succ]))
      refine c_b (fun h5 => ?_) (fun h5 => ?_)
      · obtain rfl : stk5 = false := by simpa using h5
        (repeat (first | refine s_p ?_ | refine s_c (by omega) ?_ | refine S.ld ?_ | refine S.ldB ?_ | refine S.ce ?_ | refine S.ceB ?_ | refine s_q ?_ | refine s_qc (by omega) ?_ | refine n_some ?_ | rw [List.getD_cons_zero] | rw [List.getD_cons_succ]))
        refine S.st fun w9 S => ?_
        refine hK30 _ _ fun d9 => ?_
        (first | refine s_p ?_ | refine s_c (by omega) ?_)
        refine hK22 (k + 1) _ ⟨false, b + k + 1, 8 * k + 8, Lw, S, hwd, hmore, hlk, (fun h => by cases h), fun _ => ⟨rfl, by omega, fun q hq => ?_⟩⟩ (by omega)
        rcases Nat.lt_or_ge q k with hqk | hqk
        · exact hno q hqk
        · obtain rfl : q = k := by omega
          exact hbad.symm
      · obtain rfl : stk5 = true := by simpa using h5
        refine hK30 _ _ fun d9 => ?_
        (first | refine s_p ?_ | refine s_c (by omega) ?_)
        exact hK22 (k + 1) _ ⟨true, b + k, 8 * k + 8, Lw, S, hwd, hb', hlk, fun _ => row_bad hlk hmore hno hbad.symm, fun h => by cases h⟩ (by omega)
  rintro _ w7 ⟨stk4, b', m, Lw, S, hwd, hb', hbd, hgd⟩ d7
  (repeat (first | refine s_p ?_ | refine s_c (by omega) ?_ | refine S.ld ?_ | refine S.ldB ?_ | refine S.ce ?_ | refine S.ceB ?_ | refine s_q ?_ | refine s_qc (by omega) ?_ | refine n_some ?_ | rw [List.getD_cons_zero] | rw [List.getD_cons_succ]))
  have hlen := wAt_len wd (rowT wd s b) m
  refine S.lit (e := Tryd.t_Row) (cs := [.int .i64 (wd : Int), .slice p ((wd + 63) / 64) cap]) (by kernel_rfl) fun b9 w8 S => ?_
  refine S.ap (m' := 1) (Sl.blk (S.blk b9)) (fun v4 w9 S => ?_) (by omega) (hl := rfl)
  (first | refine s_p ?_ | refine s_c (by omega) ?_)
  have S := (S.drop b9).drop bx
  have S : St w0 (r.or sn) w9 (Lw ++ (rrC rb s b' stk4 lo :: .row v4 Tryd.t_Row 2 (i + 1) (xs ++ [.int .i64 (wd : Int), .slice p ((wd + 63) / 64) cap]) :: L)) := S.permO (List.perm_middle.trans (.cons _ List.perm_middle))
  obtain ⟨s3, S, ha3, ho3⟩ := wd_frz hwd S
  refine hK3 (v4, i + 1) _ ⟨b', stk4, done ++ [rowT wd s b], dl ++ [((wd : Int), wAt wd (rowT wd s b) m)], _, sn.or s3, hb', hlt, by simp [hdl], S.reGh, hab.or' ha3, ?_, fun h4 => ?_, fun h4 => ?_⟩ (by simp only; omega)
  · refine (hrows.mono fun _ _ h => h.up).snoc rfl ⟨p, cap, ?_, hp, ?_, ho3.up⟩
    · simp only [hlen]
    · simp only [hlen]; exact hcap
  · rw [rs, q3, if_neg (by simp), hrl, q6]
    simp only [bd]
    rw [q2.stuck hlt (hbd h4)]
  · obtain ⟨h5, h6⟩ := hgd h4
    refine ⟨q1, q2.step hlt h6, ?_⟩
    rw [hdd, List.map_append, wAt_end h5]
    rfl
end

end Go.Proofs
end

section
namespace Go.Proofs

open Go.Sh Go.BM

set_option maxRecDepth 100000

set_option linter.unusedSimpArgs false

set_option linter.unusedVariables false

/-- what a head tells -/
def headD (f : FnR) : List Int := [(f.x.n : Int), (f.x.w : Int), (f.y.n : Int), (f.y.w : Int), (f.z.n : Int), (f.z.w : Int), ((f.at' + 4 : Nat) : Int)]
def HdC (c : List Value) (l : List Int) : Prop := c = numsV l
abbrev HeadsG (r : Gh) (v : Value) (l : List (List Int)) : Prop := SlG 7 r HdC v l
/-- what Heads tells: heads, a place, a number -/
def readH (s : List UInt8) : List (List Int) × Nat × Nat :=
  if 8388608 < s.length then ([], 0, 3) else match certR false s with
    | (_, some l) => (l.map headD, 0, 0)
    | (a, none) => ([], a, 200)
def HdInv (b2 : Nat) (done : List FnR) (q : Gh) (L : List Asr) : Prop :=
  ∃ v xs, L = [.cell b2 [v] 43, .row v 38 7 done.length xs] ∧ RowOf 7 HdC xs (done.map headD)
def HdBad (b2 : Nat) (q : Gh) (L : List Asr) : Prop := ∃ v n xs, L = [.cell b2 [v] 43, .row v 38 7 n xs]
section

variable {w0 w : World} {r : Gh} {s : List UInt8} {K : Value → World → Prop} {Kp : List PanicEntry → World → Prop}

theorem c_Heads_1 {b2 tb b : Nat} {L : List Asr} {v : Value} {n : Nat} {xs : List Value} (S : St w0 r w (tkC tb s b :: .cell b2 [v] 43 :: .row v 38 7 n xs :: L)) (hs : s.length ≤ 1000000000) (hd : n ≤ 40)
    (h : ∀ f b' v' w3, rd (fnG false) s b = (b', some f) → b' ≤ s.length → St w0 r w3 (tkC tb s b' :: .cell b2 [v'] 43 :: .row v' 38 7 (n + 1) (xs ++ numsV (headD f)) :: L) → K (.tuple #[]) w3)
    (hk : ∀ b' q w3, rd (fnG false) s b = (b', none) → St w0 q w3 (tkC tb s b' :: .cell b2 [v] 43 :: .row v 38 7 n xs :: L) → Kp (stuckA b') w3) :
    oCallP Tryd.prog Tryd.n_cert_Heads_1 #[tkP tb, .pointer (some ⟨b2, 0, none⟩)] w K Kp := by
  refine Tryd.ok_cert_Heads_1 ?_
  unfold Tryd.F_cert_Heads_1
  have nf : ∀ {P : Prop}, false = true → P := fun h => by cases h
  have hc := rd_fn (st := false) (s := s) (a := b)
  refine S.al fun b3 w1 S => ?_
  generalize hL : (Asr.cell b2 [v] 43 :: Asr.row v 38 7 n xs :: L) = LL at S hk
  (repeat (first | refine s_p ?_ | refine s_c (by omega) ?_ | refine S.ld ?_ | refine S.ldB ?_ | refine S.ce ?_ | refine S.ceB ?_ | refine s_q ?_ | refine s_qc (by omega) ?_ | refine n_some ?_ | rw [List.getD_cons_zero] | rw [List.getD_cons_succ]))
  refine l_unroll 4 ?_
  intro d4 K4 hK4
  (repeat (first | refine s_p ?_ | refine s_c (by omega) ?_ | refine S.ld ?_ | refine S.ldB ?_ | refine S.ce ?_ | refine S.ceB ?_ | refine s_q ?_ | refine s_qc (by omega) ?_ | refine n_some ?_ | rw [List.getD_cons_zero] | rw [List.getD_cons_succ]))
  intro K6 hK6
  refine p_ixA (ds := #[.pointer (some ⟨b3, 0, none⟩), .pointer (some ⟨b3, 1, none⟩)]) (by kernel_rfl) rfl (by decide) (by decide) ?_
  refine S.al fun b5 w5 S => ?_
  refine S.stB fun w6 S => ?_
  refine P_of_oCall (c_cert_limits fun w7 e7 => ?_)
  have S := S.go e7
  refine p_ix (v := .int .i64 512) rfl (by decide) (by decide) ?_
  (repeat (first | refine s_p ?_ | refine s_c (by omega) ?_ | refine S.ld ?_ | refine S.ldB ?_ | refine S.ce ?_ | refine S.ceB ?_ | refine s_q ?_ | refine s_qc (by omega) ?_ | refine n_some ?_ | rw [List.getD_cons_zero] | rw [List.getD_cons_succ]))
  have S := S.pull tb
  refine c_tk_list (st := false) (most := 512) (by decide) S hs (fun v0 sh sw x m1 w8 e1 hb1 hn0 hw0 hl0 S _ _ _ _ g => ?_) (fun b8 w8 e8 S => ⟨nf, hk b8 _ _ (by rw [hc, e8]; rfl) ((S.drop b5).drop b3)⟩)
  have S := S.to r
  obtain ⟨p9, cap9, rfl, _⟩ := g.shape
  have hlen : (LstR.out false x).length = x.n := by rw [LstR.out, List.length_map, hl0]
  rw [hlen]
  (repeat (first | refine s_p ?_ | refine s_c (by omega) ?_ | refine S.ld ?_ | refine S.ldB ?_ | refine S.ce ?_ | refine S.ceB ?_ | refine s_q ?_ | refine s_qc (by omega) ?_ | refine n_some ?_ | rw [List.getD_cons_zero] | rw [List.getD_cons_succ]))
  refine j_intro (fun _ w' => St w0 r w' (tkC tb s m1 :: .cell b5 [.pointer (some ⟨b3, 0, none⟩), .pointer (some ⟨b3, 1, none⟩)] 92 :: .cell b3 [.int .i64 (x.n : Nat), .int .i64 (x.w : Nat), .int .i64 0, .int .i64 0, .int .i64 0, .int .i64 0, .int .i64 0] 38 :: LL)) (fun K9 hK9 => ?_) ?_
  · have S := S.go (Ext.drew _)
    (repeat (first | refine s_p ?_ | refine s_c (by omega) ?_ | refine S.ld ?_ | refine S.ldB ?_ | refine S.ce ?_ | refine S.ceB ?_ | refine s_q ?_ | refine s_qc (by omega) ?_ | refine n_some ?_ | rw [List.getD_cons_zero] | rw [List.getD_cons_succ]))
    constructor
    · refine w_qE (S.ld ?_)
      refine S.st fun w9 S => ?_
      (repeat (first | refine s_p ?_ | refine s_c (by omega) ?_ | refine S.ld ?_ | refine S.ldB ?_ | refine S.ce ?_ | refine S.ceB ?_ | refine s_q ?_ | refine s_qc (by omega) ?_ | refine n_some ?_ | rw [List.getD_cons_zero] | rw [List.getD_cons_succ]))
      refine S.st fun w10 S => ?_
      exact hK9 _ _ S
    · refine S.st fun w9 S => ?_
      refine w_qE (S.ld ?_)
      (repeat (first | refine s_p ?_ | refine s_c (by omega) ?_ | refine S.ld ?_ | refine S.ldB ?_ | refine S.ce ?_ | refine S.ceB ?_ | refine s_q ?_ | refine s_qc (by omega) ?_ | refine n_some ?_ | rw [List.getD_cons_zero] | rw [List.getD_cons_succ]))
      refine S.st fun w10 S => ?_
      exact hK9 _ _ S
  rintro _ w11 S d9
  have S := S.drop b5
  (repeat (first | refine s_p ?_ | refine s_c (by omega) ?_ | refine S.ld ?_ | refine S.ldB ?_ | refine S.ce ?_ | refine S.ceB ?_ | refine s_q ?_ | refine s_qc (by omega) ?_ | refine n_some ?_ | rw [List.getD_cons_zero] | rw [List.getD_cons_succ]))
  refine S.st fun w12 S => ?_
  refine hK6 _ _ fun d6 => ?_
  clear hK6 K6
  (repeat (first | refine s_p ?_ | refine s_c (by omega) ?_ | refine S.ld ?_ | refine S.ldB ?_ | refine S.ce ?_ | refine S.ceB ?_ | refine s_q ?_ | refine s_qc (by omega) ?_ | refine n_some ?_ | rw [List.getD_cons_zero] | rw [List.getD_cons_succ]))
  refine hK4 _ _ ?_
  clear hK4 K4
  rw [e1] at hc
  simp only [bd] at hc
  intro d4 K4 hK4
  (repeat (first | refine s_p ?_ | refine s_c (by omega) ?_ | refine S.ld ?_ | refine S.ldB ?_ | refine S.ce ?_ | refine S.ceB ?_ | refine s_q ?_ | refine s_qc (by omega) ?_ | refine n_some ?_ | rw [List.getD_cons_zero] | rw [List.getD_cons_succ]))
  intro K6 hK6
  refine p_ixA (ds := #[.pointer (some ⟨b3, 2, none⟩), .pointer (some ⟨b3, 3, none⟩)]) (by kernel_rfl) rfl (by decide) (by decide) ?_
  refine S.al fun b5 w5 S => ?_
  refine S.stB fun w6 S => ?_
  refine P_of_oCall (c_cert_limits fun w7 e7 => ?_)
  have S := S.go e7
  refine p_ix (v := .int .i64 256) rfl (by decide) (by decide) ?_
  (repeat (first | refine s_p ?_ | refine s_c (by omega) ?_ | refine S.ld ?_ | refine S.ldB ?_ | refine S.ce ?_ | refine S.ceB ?_ | refine s_q ?_ | refine s_qc (by omega) ?_ | refine n_some ?_ | rw [List.getD_cons_zero] | rw [List.getD_cons_succ]))
  have S := S.pull tb
  refine c_tk_list (st := false) (most := 256) (by decide) S hs (fun v1 sh sw y m2 w8 e2 hb2 hn1 hw1 hl1 S _ _ _ _ g => ?_) (fun b8 w8 e8 S => ⟨nf, hk b8 _ _ (by rw [hc, e8]) ((S.drop b5).drop b3)⟩)
  have S := S.to r
  obtain ⟨p9, cap9, rfl, _⟩ := g.shape
  have hlen : (LstR.out false y).length = y.n := by rw [LstR.out, List.length_map, hl1]
  rw [hlen]
  (repeat (first | refine s_p ?_ | refine s_c (by omega) ?_ | refine S.ld ?_ | refine S.ldB ?_ | refine S.ce ?_ | refine S.ceB ?_ | refine s_q ?_ | refine s_qc (by omega) ?_ | refine n_some ?_ | rw [List.getD_cons_zero] | rw [List.getD_cons_succ]))
  refine j_intro (fun _ w' => St w0 r w' (tkC tb s m2 :: .cell b5 [.pointer (some ⟨b3, 2, none⟩), .pointer (some ⟨b3, 3, none⟩)] 92 :: .cell b3 [.int .i64 (x.n : Nat), .int .i64 (x.w : Nat), .int .i64 (y.n : Nat), .int .i64 (y.w : Nat), .int .i64 0, .int .i64 0, .int .i64 ((b + 4 : Nat) : Int)] 38 :: LL)) (fun K9 hK9 => ?_) ?_
  · have S := S.go (Ext.drew _)
    (repeat (first | refine s_p ?_ | refine s_c (by omega) ?_ | refine S.ld ?_ | refine S.ldB ?_ | refine S.ce ?_ | refine S.ceB ?_ | refine s_q ?_ | refine s_qc (by omega) ?_ | refine n_some ?_ | rw [List.getD_cons_zero] | rw [List.getD_cons_succ]))
    constructor
    · refine w_qE (S.ld ?_)
      refine S.st fun w9 S => ?_
      (repeat (first | refine s_p ?_ | refine s_c (by omega) ?_ | refine S.ld ?_ | refine S.ldB ?_ | refine S.ce ?_ | refine S.ceB ?_ | refine s_q ?_ | refine s_qc (by omega) ?_ | refine n_some ?_ | rw [List.getD_cons_zero] | rw [List.getD_cons_succ]))
      refine S.st fun w10 S => ?_
      exact hK9 _ _ S
    · refine S.st fun w9 S => ?_
      refine w_qE (S.ld ?_)
      (repeat (first | refine s_p ?_ | refine s_c (by omega) ?_ | refine S.ld ?_ | refine S.ldB ?_ | refine S.ce ?_ | refine S.ceB ?_ | refine s_q ?_ | refine s_qc (by omega) ?_ | refine n_some ?_ | rw [List.getD_cons_zero] | rw [List.getD_cons_succ]))
      refine S.st fun w10 S => ?_
      exact hK9 _ _ S
  rintro _ w11 S d9
  have S := S.drop b5
  (repeat (first | refine s_p ?_ | refine s_c (by omega) ?_ | refine S.ld ?_ | refine S.ldB ?_ | refine S.ce ?_ | refine S.ceB ?_ | refine s_q ?_ | refine s_qc (by omega) ?_ | refine n_some ?_ | rw [List.getD_cons_zero] | rw [List.getD_cons_succ]))
  refine hK6 _ _ fun d6 => ?_
  clear hK6 K6
  (repeat (first | refine s_p ?_ | refine s_c (by omega) ?_ | refine S.ld ?_ | refine S.ldB ?_ | refine S.ce ?_ | refine S.ceB ?_ | refine s_q ?_ | refine s_qc (by omega) ?_ | refine n_some ?_ | rw [List.getD_cons_zero] | rw [List.getD_cons_succ]))
  refine hK4 _ _ ?_
  clear hK4 K4
  rw [e2] at hc
  simp only [bd] at hc
  intro d4 K4 hK4
  (repeat (first | refine s_p ?_ | refine s_c (by omega) ?_ | refine S.ld ?_ | refine S.ldB ?_ | refine S.ce ?_ | refine S.ceB ?_ | refine s_q ?_ | refine s_qc (by omega) ?_ | refine n_some ?_ | rw [List.getD_cons_zero] | rw [List.getD_cons_succ]))
  intro K6 hK6
  refine p_ixA (ds := #[.pointer (some ⟨b3, 4, none⟩), .pointer (some ⟨b3, 5, none⟩)]) (by kernel_rfl) rfl (by decide) (by decide) ?_
  refine S.al fun b5 w5 S => ?_
  refine S.stB fun w6 S => ?_
  refine P_of_oCall (c_cert_limits fun w7 e7 => ?_)
  have S := S.go e7
  refine p_ix (v := .int .i64 256) rfl (by decide) (by decide) ?_
  (repeat (first | refine s_p ?_ | refine s_c (by omega) ?_ | refine S.ld ?_ | refine S.ldB ?_ | refine S.ce ?_ | refine S.ceB ?_ | refine s_q ?_ | refine s_qc (by omega) ?_ | refine n_some ?_ | rw [List.getD_cons_zero] | rw [List.getD_cons_succ]))
  have S := S.pull tb
  refine c_tk_list (st := false) (most := 256) (by decide) S hs (fun v2 sh sw z m3 w8 e3 hb3 hn2 hw2 hl2 S _ _ _ _ g => ?_) (fun b8 w8 e8 S => ⟨nf, hk b8 _ _ (by rw [hc, e8]) ((S.drop b5).drop b3)⟩)
  have S := S.to r
  obtain ⟨p9, cap9, rfl, _⟩ := g.shape
  have hlen : (LstR.out false z).length = z.n := by rw [LstR.out, List.length_map, hl2]
  rw [hlen]
  (repeat (first | refine s_p ?_ | refine s_c (by omega) ?_ | refine S.ld ?_ | refine S.ldB ?_ | refine S.ce ?_ | refine S.ceB ?_ | refine s_q ?_ | refine s_qc (by omega) ?_ | refine n_some ?_ | rw [List.getD_cons_zero] | rw [List.getD_cons_succ]))
  refine j_intro (fun _ w' => St w0 r w' (tkC tb s m3 :: .cell b5 [.pointer (some ⟨b3, 4, none⟩), .pointer (some ⟨b3, 5, none⟩)] 92 :: .cell b3 [.int .i64 (x.n : Nat), .int .i64 (x.w : Nat), .int .i64 (y.n : Nat), .int .i64 (y.w : Nat), .int .i64 (z.n : Nat), .int .i64 (z.w : Nat), .int .i64 ((b + 4 : Nat) : Int)] 38 :: LL)) (fun K9 hK9 => ?_) ?_
  · have S := S.go (Ext.drew _)
    (repeat (first | refine s_p ?_ | refine s_c (by omega) ?_ | refine S.ld ?_ | refine S.ldB ?_ | refine S.ce ?_ | refine S.ceB ?_ | refine s_q ?_ | refine s_qc (by omega) ?_ | refine n_some ?_ | rw [List.getD_cons_zero] | rw [List.getD_cons_succ]))
    constructor
    · refine w_qE (S.ld ?_)
      refine S.st fun w9 S => ?_
      (repeat (first | refine s_p ?_ | refine s_c (by omega) ?_ | refine S.ld ?_ | refine S.ldB ?_ | refine S.ce ?_ | refine S.ceB ?_ | refine s_q ?_ | refine s_qc (by omega) ?_ | refine n_some ?_ | rw [List.getD_cons_zero] | rw [List.getD_cons_succ]))
      refine S.st fun w10 S => ?_
      exact hK9 _ _ S
    · refine S.st fun w9 S => ?_
      refine w_qE (S.ld ?_)
      (repeat (first | refine s_p ?_ | refine s_c (by omega) ?_ | refine S.ld ?_ | refine S.ldB ?_ | refine S.ce ?_ | refine S.ceB ?_ | refine s_q ?_ | refine s_qc (by omega) ?_ | refine n_some ?_ | rw [List.getD_cons_zero] | rw [List.getD_cons_succ]))
      refine S.st fun w10 S => ?_
      exact hK9 _ _ S
  rintro _ w11 S d9
  have S := S.drop b5
  (repeat (first | refine s_p ?_ | refine s_c (by omega) ?_ | refine S.ld ?_ | refine S.ldB ?_ | refine S.ce ?_ | refine S.ceB ?_ | refine s_q ?_ | refine s_qc (by omega) ?_ | refine n_some ?_ | rw [List.getD_cons_zero] | rw [List.getD_cons_succ]))
  refine hK6 _ _ fun d6 => ?_
  clear hK6 K6
  (repeat (first | refine s_p ?_ | refine s_c (by omega) ?_ | refine S.ld ?_ | refine S.ldB ?_ | refine S.ce ?_ | refine S.ceB ?_ | refine s_q ?_ | refine s_qc (by omega) ?_ | refine n_some ?_ | rw [List.getD_cons_zero] | rw [List.getD_cons_succ]))
  refine hK4 _ _ ?_
  clear hK4 K4
  rw [e3] at hc
  simp only [bd] at hc
  intro d4 K4 hK4
  (repeat (first | refine s_p ?_ | refine s_c (by omega) ?_ | refine S.ld ?_ | refine S.ldB ?_ | refine S.ce ?_ | refine S.ceB ?_ | refine s_q ?_ | refine s_qc (by omega) ?_ | refine n_some ?_ | rw [List.getD_cons_zero] | rw [List.getD_cons_succ]))
  subst hL
  (repeat (first | refine s_p ?_ | refine s_c (by omega) ?_ | refine S.ld ?_ | refine S.ldB ?_ | refine S.ce ?_ | refine S.ceB ?_ | refine s_q ?_ | refine s_qc (by omega) ?_ | refine n_some ?_ | rw [List.getD_cons_zero] | rw [List.getD_cons_succ]))
  refine S.lit (e := 38) (cs := numsV (headD ⟨b, x, y, z⟩)) (by kernel_rfl) fun b9 w13 S => ?_
  refine S.ap (m' := 1) (Sl.blk (S.blk b9)) (fun v4 w14 S => ?_) (by omega) (hl := rfl) (h1 := by simp [Value.oneCell', numsV, headD])
  refine S.st (h1 := S.row1 v4) fun w15 S => ?_
  exact h ⟨b, x, y, z⟩ m3 v4 _ hc hb3 ((S.drop b9).drop b3)
theorem c_cert_Heads (hr : Holds r w) (hs : s.length ≤ 1000000000)
    (h : ∀ v sn w', Ext w w' → New w sn w' → HeadsG sn v (readH s).1 → K (.tuple #[v, .int .i64 ((readH s).2.1 : Int), .int .i64 ((readH s).2.2 : Int)]) w') :
    oCall Tryd.prog Tryd.n_cert_Heads #[.string (bs s)] w K := by
  refine Tryd.ok_cert_Heads ?_
  unfold Tryd.F_cert_Heads
  have S := St.start hr
  refine S.al fun b2 w1 S => ?_
  have S := (S.ownNil 38 7).swap
  (first | refine s_p ?_ | refine s_c (by omega) ?_)
  refine c_cert_whole (st := false) (Lk := [_, _]) (M := []) (INV := HdInv b2) (BAD := HdBad b2) (r := r) S hs (fun q le => ⟨_, [], rfl, .nil⟩) (fun done q L ⟨v, xs, e, _⟩ => ⟨v, _, xs, e⟩)
    (fun r' le M' done q Lk w2 tb b K2 Kp2 hI hd S hb hK hKp lq => ?_) (fun w2 hl S => ?_) (fun b l q Lk w2 hl e2 hI S => ?_) (fun a q Lk w2 hl e2 hB S => ?_)
  · refine vp_11 (by kernel_rfl) ?_
    obtain ⟨v, xs, rfl, hrows⟩ := hI
    simp only [List.cons_append, List.nil_append] at S
    refine c_Heads_1 S hs (by omega) (fun f b' v' w3 e hb' S => hK f b' q [_, _] w3 e hb' ⟨v', _, by rw [List.length_append]; rfl, ?_⟩ lq S) (fun b' q w3 e S => hKp b' q [_, _] w3 e ⟨_, _, _, rfl⟩ S)
    rw [List.map_append]
    exact hrows.snoc rfl rfl
  · have e : readH s = ([], 0, 3) := by rw [readH, if_pos hl]
    rw [e] at h
    simp only [List.cons_append, List.nil_append] at S
    (repeat (first | refine s_p ?_ | refine s_c (by omega) ?_ | refine S.ld ?_ | refine S.ldB ?_ | refine S.ce ?_ | refine S.ceB ?_ | refine s_q ?_ | refine s_qc (by omega) ?_ | refine n_some ?_ | rw [List.getD_cons_zero] | rw [List.getD_cons_succ]))
    refine S.st fun w3 S => ?_
    (repeat (first | refine s_p ?_ | refine s_c (by omega) ?_ | refine S.ld ?_ | refine S.ldB ?_ | refine S.ce ?_ | refine S.ceB ?_ | refine s_q ?_ | refine s_qc (by omega) ?_ | refine n_some ?_ | rw [List.getD_cons_zero] | rw [List.getD_cons_succ]))
    exact h _ nothing _ S.ext New.nothing SlG.nil
  · have e : readH s = (l.map headD, 0, 0) := by rw [readH, if_neg hl, e2]
    rw [e] at h
    obtain ⟨v, xs, rfl, hrows⟩ := hI
    simp only [List.cons_append, List.nil_append] at S
    (repeat (first | refine s_p ?_ | refine s_c (by omega) ?_ | refine S.ld ?_ | refine S.ldB ?_ | refine S.ce ?_ | refine S.ceB ?_ | refine s_q ?_ | refine s_qc (by omega) ?_ | refine n_some ?_ | rw [List.getD_cons_zero] | rw [List.getD_cons_succ]))
    have h1 := S.row1 v
    refine S.st (h1 := h1) fun w3 S => ?_
    (repeat (first | refine s_p ?_ | refine s_c (by omega) ?_ | refine S.ld ?_ | refine S.ldB ?_ | refine S.ce ?_ | refine S.ceB ?_ | refine s_q ?_ | refine s_qc (by omega) ?_ | refine n_some ?_ | rw [List.getD_cons_zero] | rw [List.getD_cons_succ]))
    have S := S.drop b2
    obtain ⟨s2, S, hsl, hc, ha⟩ := S.doneRow hrows (by decide) (by rw [List.length_map])
    exact h _ s2 _ S.ext ⟨fun b o hb => S.holds b o (.inr hb), fun b o hb => (ha b o hb).resolve_right id⟩ hsl
  · have e : readH s = ([], a, 200) := by rw [readH, if_neg hl, e2]
    rw [e] at h
    obtain ⟨v, n, xs, rfl⟩ := hB
    simp only [List.cons_append, List.nil_append] at S
    (repeat (first | refine s_p ?_ | refine s_c (by omega) ?_ | refine S.ld ?_ | refine S.ldB ?_ | refine S.ce ?_ | refine S.ceB ?_ | refine s_q ?_ | refine s_qc (by omega) ?_ | refine n_some ?_ | rw [List.getD_cons_zero] | rw [List.getD_cons_succ]))
    refine S.st fun w3 S => ?_
    (repeat (first | refine s_p ?_ | refine s_c (by omega) ?_ | refine S.ld ?_ | refine S.ldB ?_ | refine S.ce ?_ | refine S.ceB ?_ | refine s_q ?_ | refine s_qc (by omega) ?_ | refine n_some ?_ | rw [List.getD_cons_zero] | rw [List.getD_cons_succ]))
    exact h _ nothing _ S.ext New.nothing SlG.nil
end

end Go.Proofs
end

section
namespace Go.Proofs

open Go.Sh Go.BM

set_option maxRecDepth 100000

set_option linter.unusedSimpArgs false

set_option linter.unusedVariables false

section

variable {w0 w : World} {r : Gh} {L : List Asr} {s : List UInt8} {K : Value → World → Prop} {Kp : List PanicEntry → World → Prop}

theorem c_strings_Clone (hs : s.length ≤ 1000000000) (h : ∀ w', Ext w w' → K (.string (bs s)) w') : oCall Tryd.prog Tryd.n_strings_Clone #[.string (bs s)] w K := by
  refine Tryd.ok_strings_Clone ?_
  unfold Tryd.F_strings_Clone
  refine Tryd.ok_internal_stringslite_Clone ?_
  unfold Tryd.F_internal_stringslite_Clone
  (first | refine s_p ?_ | refine s_c (by omega) ?_)
  (first | refine s_p ?_ | refine s_c (by omega) ?_)
  refine c_if (fun h0 => ?_) (fun h0 => ?_)
  · have : s = [] := List.eq_nil_of_length_eq_zero (by omega)
    subst this
    exact h _ (Ext.refl w)
  (first | refine s_p ?_ | refine s_c (by omega) ?_)
  refine w_make (ApT.h (t := 57)) ZrT.h (by omega) (by omega) fun b w1 hb e1 _ B => ?_
  rw [Int.toNat_natCast] at B ⊢
  have hne : s ≠ [] := fun e => h0 (by rw [e]; rfl)
  have hcp := Lib.run_copy_row_string (P := Tryd.prog) w1 57 9 3 5 b 0 s.length s.length (bs s) _ _ (by kernel_rfl) (by kernel_rfl) B (by rw [bs_size]; exact Nat.le_refl _) (by rw [bs_size]; simp)
  obtain ⟨Y, hY⟩ : ∃ Y, Y = (((List.replicate s.length (Value.int .u8 0)).toArray.toList.take 0 ++ Lib.byteCells (bs s).data.toList ++ (List.replicate s.length (Value.int .u8 0)).toArray.toList.drop (0 + (bs s).size)).toArray : Array Value) := ⟨_, rfl⟩
  rw [← hY] at hcp
  have hYl : Y.toList = Lib.byteCells s := by
    rw [hY, bs_size]
    simp
  have hYs : Y.size = s.length := by rw [← Array.length_toList, hYl, Lib.byteCells_length]
  refine ⟨_, _, hcp, ?_⟩
  have hgY : (w1.setRow b Y).heap[b]? = some (.cells Y _ (0, 0)) := setRow_heap _ _ _ _ _ (0, 0) B
  refine s_c ⟨by decide, by omega⟩ ?_
  (first | refine s_p ?_ | refine s_c (by omega) ?_)
  have hUS := Lib.run_unsafeString_row (P := Tryd.prog) (w1.setRow b Y) 134 3 9 5 (by kernel_rfl) (by kernel_rfl) b Y.size (by unfold World.shape?; rw [hgY]) s hne (by omega) (by omega)
    (fun j x hx => Lib.cells_of_row hgY Y.size j _ (by rw [List.take_of_length_le (by rw [Array.length_toList]; exact Nat.le_refl _), hYl]; simp [Lib.byteCells, hx]))
  refine ⟨_, _, hUS, h _ ?_⟩
  have hb1 : Go.RowKit.Below w.heap.size w w1 := ⟨e1.os, e1.tape, e1.output, e1.size, e1.block⟩
  have hb2 : Go.RowKit.Below w.heap.size w1 (w1.setRow b Y) := ⟨rfl, rfl, rfl, by simp, fun k hk => setRow_other _ _ _ _ (by omega)⟩
  have hb3 := Lib.below_freeze (hb1.trans hb2) (p := ⟨b, 0, none⟩) (by simp only; omega) s.length
  exact ⟨hb3.os, hb3.tape, hb3.output, hb3.size, hb3.block⟩
/-- the first of such heads -/
theorem c_heads_Index {v : Value} {l : List (List Int)} {hd : List Int} (hr : Holds r w) (hv : HeadsG r v l) (h7 : hd.length = 7) (hl7 : ∀ x ∈ l, x.length = 7) (hl : l.length ≤ 1000)
    (h : ∀ w' (n : Int), Ext w w' → (0 ≤ n ↔ hd ∈ l) → K (.int .i64 n) w') : oCall Tryd.prog Tryd.n_slices_Index_api_CertHead_api_CertHead #[v, .agg (numsV hd).toArray] w K := by
  refine Tryd.ok_slices_Index_api_CertHead_api_CertHead ?_
  unfold Tryd.F_slices_Index_api_CertHead_api_CertHead
  have S := St.start hr
  have hv0 := hv
  obtain ⟨p, cap, rfl, hp, hc⟩ := hv.shape
  refine S.box fun b3 w1 S => ?_
  (first | refine s_p ?_ | refine s_c (by omega) ?_)
  refine l_intro (ι := Nat) (fun i => [.int .i64 i]) (fun i w' => i ≤ l.length ∧ (∀ j (hj : j < l.length), j < i → l[j] ≠ hd) ∧ St w r w' (.cell b3 (numsV hd) 38 :: []))
    (fun i => l.length - i) 0 rfl ⟨Nat.zero_le _, fun j _ hj => absurd hj (Nat.not_lt_zero _), by simpa [Value.cells] using S⟩ ?_
  clear S
  rintro i d w2 ⟨hi, hno, S⟩ K2 hK2
  simp only [List.getD_cons_zero]
  (first | refine s_p ?_ | refine s_c (by omega) ?_)
  refine c_if (fun hlt => ?_) (fun hge => ?_)
  · have hlt : i < l.length := by omega
    have S := S.go (Ext.drew _)
    refine S.ldB (hc := by simpa using h7) ?_
    obtain ⟨b, off, c, rfl, hcl, hR, hcell⟩ := SlG.get (by decide) hv0 hlt
    obtain rfl : c = numsV l[i] := hR
    (first | refine s_p ?_ | refine s_c (by omega) ?_)
    refine s_ldN (n := 7) hcl (fun j v hj => S.at (hcell j v hj)) ?_
    have hx := hl7 _ (List.getElem_mem hlt)
    refine q_eqN (by kernel_rfl) (by rw [h7]; kernel_rfl) (by rw [h7, hx]) ?_
    refine c_b (fun he => ?_) (fun he => ?_)
    · have he : hd = l[i] := by simpa using he
      exact h _ i S.ext ⟨fun _ => he ▸ List.getElem_mem hlt, fun _ => by omega⟩
    · have he : hd ≠ l[i] := by simpa using he
      (first | refine s_p ?_ | refine s_c (by omega) ?_)
      refine hK2 (i + 1) _ ⟨hlt, fun j hj hji => ?_, S⟩ (by omega)
      rcases Nat.lt_or_ge j i with hj' | hj'
      · exact hno j hj hj'
      · obtain rfl : j = i := by omega
        exact fun e => he e.symm
  · refine h _ (-1) S.ext ⟨fun hn => absurd hn (by decide), fun hm => ?_⟩
    obtain ⟨j, hj, rfl⟩ := List.getElem_of_mem hm
    exact absurd rfl (hno j hj (by omega))
theorem c_heads_Contains {v : Value} {l : List (List Int)} {hd : List Int} (hr : Holds r w) (hv : HeadsG r v l) (h7 : hd.length = 7) (hl7 : ∀ x ∈ l, x.length = 7) (hl : l.length ≤ 1000)
    (h : ∀ w', Ext w w' → K (.bool (decide (hd ∈ l))) w') : oCall Tryd.prog Tryd.n_slices_Contains_api_CertHead_api_CertHead #[v, .agg (numsV hd).toArray] w K := by
  refine Tryd.ok_slices_Contains_api_CertHead_api_CertHead ?_
  unfold Tryd.F_slices_Contains_api_CertHead_api_CertHead
  have S := St.start hr
  refine S.box fun b3 w1 S => ?_
  refine S.ldB (hc := by simpa [Value.cells] using h7) ?_
  rw [show (Value.agg (numsV hd).toArray).cells.toList.toArray = (numsV hd).toArray from by simp [Value.cells]]
  refine c_heads_Index S.holds hv h7 hl7 hl fun w2 n e2 hn => ?_
  have S := S.go e2
  (first | refine s_p ?_ | refine s_c (by omega) ?_)
  rw [show decide ((0 : Int) ≤ n) = decide (hd ∈ l) from decide_eq_decide.2 hn]
  exact h _ S.ext
end

end Go.Proofs
end

section
namespace Go.Proofs

open Go.Sh Go.BM

set_option maxRecDepth 100000

set_option linter.unusedSimpArgs false

set_option linter.unusedVariables false

def fn0 : FnD := ⟨[], [], []⟩
/-- where a head says that its function begins -/
def atOf (hd : List Int) : Nat := (hd.getD 6 0).toNat - 4
/-- what Fn tells -/
def fnC (s : List UInt8) (hd : List Int) : FnD × Nat × Nat :=
  if (readH s).2.2 = 3 then (fn0, 0, 3) else if hd ∈ (readH s).1 then match rd (fnG true) s (atOf hd) with
    | (_, some f) => (f.fn, 0, 0)
    | (k, none) => (fn0, k, 200)
  else (fn0, 0, 2)
abbrev fn0C : List Value := [.slice none 0 0, .slice none 0 0, .slice none 0 0]
theorem fn0_o {s t : Gh} : FnO s t fn0C fn0 := ⟨_, _, _, rfl, SlG.nil, SlG.nil, SlG.nil⟩
theorem heads_le (s : List UInt8) : (readH s).1.length ≤ 32 := by
  unfold readH
  split
  · exact Nat.zero_le _
  · have hc : ∀ b l, certR false s = (b, some l) → l.length ≤ 32 := fun b l h => by
      unfold certR at h
      split at h
      · rename_i a v hr
        split at h
        · cases h
        · cases h
          obtain ⟨m, n, _, _, _, h4, _⟩ := gives_cert _ _ _ _ hr
          exact h4
      · cases h
    split
    · rename_i b l h
      simpa using hc b l h
    · exact Nat.zero_le _
theorem fnsOK_at {st : Bool} : ∀ (l : List FnR) (a : Nat), FnsOK st a l → ∀ f ∈ l, f.at' ≤ a + (l.flatMap FnR.B).length
  | [], _, _, f, h => by cases h
  | g :: l, a, h, f, hf => by
    rw [List.flatMap_cons, List.length_append]
    rcases List.mem_cons.1 hf with rfl | hf
    · rw [h.1.1]; omega
    · have := fnsOK_at l _ h.2 f hf
      omega
theorem cert_at {st : Bool} {s : List UInt8} {b : Nat} {l : List FnR} (h : certR st s = (b, some l)) : ∀ f ∈ l, f.at' ≤ s.length := by
  unfold certR at h
  split at h
  · rename_i a v hr
    split at h
    · cases h
    · cases h
      obtain ⟨m, n, h1, h2, h3, h4, h5, h6⟩ := gives_cert _ _ _ _ hr
      intro f hf
      have := fnsOK_at l _ h5 f hf
      rw [h1, h6]
      simp only [List.length_append, List.length_cons, List.length_nil]
      omega
  · cases h
theorem heads_7 (s : List UInt8) : ∀ x ∈ (readH s).1, ∃ f, x = headD f ∧ f.at' ≤ s.length := by
  unfold readH
  split
  · intro x hx; cases hx
  · split
    · rename_i b l he
      intro x hx
      obtain ⟨f, hf, rfl⟩ := List.mem_map.1 hx
      exact ⟨f, rfl, cert_at he f hf⟩
    · intro x hx; cases hx
section

variable {w0 w : World} {r : Gh} {s : List UInt8} {K : Value → World → Prop} {Kp : List PanicEntry → World → Prop}

theorem c_cert_Fn {hd : List Int} (hr : Holds r w) (hs : s.length ≤ 1000000000) (h7 : hd.length = 7)
    (h : ∀ c sh sw w', Ext w w' → New w sh w' → New w sw w' → WordsOnly sw → NoWords sh → FnO sh sw c (fnC s hd).1 → K (.tuple #[.agg c.toArray, .int .i64 ((fnC s hd).2.1 : Int), .int .i64 ((fnC s hd).2.2 : Int)]) w') :
    oCall Tryd.prog Tryd.n_cert_Fn #[.string (bs s), .agg (numsV hd).toArray] w K := by
  refine Tryd.ok_cert_Fn ?_
  unfold Tryd.F_cert_Fn
  have S := St.start hr
  refine S.box fun b2 w1 S => ?_
  refine S.box fun b3 w2 S => ?_
  refine S.al fun b4 w3 S => ?_
  refine S.ld ?_
  refine c_cert_Heads S.holds hs fun v sn w4 e4 n4 hv => ?_
  obtain ⟨S, _, _⟩ := S.tell e4 n4
  (repeat (first | refine s_p ?_ | refine s_c (by omega) ?_ | refine S.ld ?_ | refine S.ldB ?_ | refine S.ce ?_ | refine S.ceB ?_ | refine s_q ?_ | refine s_qc (by omega) ?_ | refine n_some ?_ | rw [List.getD_cons_zero] | rw [List.getD_cons_succ]))
  refine c_if (fun h3 => ?_) (fun h3 => ?_)
  · have h3 : (readH s).2.2 = 3 := by omega
    have e : fnC s hd = (fn0, 0, 3) := by rw [fnC, if_pos h3]
    rw [e] at h
    rw [h3]
    (repeat (first | refine s_p ?_ | refine s_c (by omega) ?_ | refine S.ld ?_ | refine S.ldB ?_ | refine S.ce ?_ | refine S.ceB ?_ | refine s_q ?_ | refine s_qc (by omega) ?_ | refine n_some ?_ | rw [List.getD_cons_zero] | rw [List.getD_cons_succ]))
    refine S.stB fun w5 S => ?_
    (repeat (first | refine s_p ?_ | refine s_c (by omega) ?_ | refine S.ld ?_ | refine S.ldB ?_ | refine S.ce ?_ | refine S.ceB ?_ | refine s_q ?_ | refine s_qc (by omega) ?_ | refine n_some ?_ | rw [List.getD_cons_zero] | rw [List.getD_cons_succ]))
    exact h _ nothing nothing _ S.ext New.nothing New.nothing .no .no fn0_o
  have h3 : ¬ (readH s).2.2 = 3 := by omega
  refine S.ldB (hc := by simpa [Value.cells] using h7) ?_
  rw [show (Value.agg (numsV hd).toArray).cells.toList.toArray = (numsV hd).toArray from by simp [Value.cells]]
  refine c_heads_Contains S.holds (SlG.cells hv) h7 (fun x hx => by obtain ⟨f, rfl, _⟩ := heads_7 s x hx; rfl) (by have := heads_le s; omega) fun w5 e5 => ?_
  have S := S.go e5
  (first | refine s_p ?_ | refine s_c (by omega) ?_)
  refine c_b (fun hin => ?_) (fun hin => ?_)
  · have hin : ¬ hd ∈ (readH s).1 := by simpa using hin
    have e : fnC s hd = (fn0, 0, 2) := by rw [fnC, if_neg h3, if_neg hin]
    rw [e] at h
    (repeat (first | refine s_p ?_ | refine s_c (by omega) ?_ | refine S.ld ?_ | refine S.ldB ?_ | refine S.ce ?_ | refine S.ceB ?_ | refine s_q ?_ | refine s_qc (by omega) ?_ | refine n_some ?_ | rw [List.getD_cons_zero] | rw [List.getD_cons_succ]))
    refine S.stB fun w6 S => ?_
    (repeat (first | refine s_p ?_ | refine s_c (by omega) ?_ | refine S.ld ?_ | refine S.ldB ?_ | refine S.ce ?_ | refine S.ceB ?_ | refine s_q ?_ | refine s_qc (by omega) ?_ | refine n_some ?_ | rw [List.getD_cons_zero] | rw [List.getD_cons_succ]))
    exact h _ nothing nothing _ S.ext New.nothing New.nothing .no .no fn0_o
  have hin : hd ∈ (readH s).1 := by simpa using hin
  obtain ⟨f0, rfl, hle⟩ := heads_7 s hd hin
  have hat : atOf (headD f0) = f0.at' := by show ((f0.at' + 4 : Nat) : Int).toNat - 4 = _; omega
  (first | refine s_p ?_ | refine s_c (by omega) ?_)
  refine c_cert_caught (Lk := [.cell b4 fn0C 50, .cell b3 (numsV (headD f0)) 38, .cell b2 [.string (bs s)] 9]) (M := [])
    (A := fun q Lk' => ∃ c sh sw f b, Lk' = [.cell b4 c 50, .cell b3 (numsV (headD f0)) 38, .cell b2 [.string (bs s)] 9] ∧ rd (fnG true) s f0.at' = (b, some f) ∧ (∀ b o, sh b o → q b o) ∧ (∀ b o, sw b o → q b o) ∧ Above w sh ∧ Above w sw ∧ WordsOnly sw ∧ NoWords sh ∧ FnO sh sw c f.fn)
    (B := fun a q Lk' => Lk' = [.cell b4 fn0C 50, .cell b3 (numsV (headD f0)) 38, .cell b2 [.string (bs s)] 9] ∧ rd (fnG true) s f0.at' = (a, none)) S
    (fun M' w6 K6 Kp6 S hK hKp => ?_) (fun q Lk' w6 S hA => ?_) (fun a q Lk' w6 S hB => ?_)
  · refine vp_03 (by kernel_rfl) ?_
    refine Tryd.ok_cert_Fn_1 ?_
    unfold Tryd.F_cert_Fn_1
    simp only [List.cons_append, List.nil_append] at S
    have nf : ∀ {P : Prop}, false = true → P := fun h => by cases h
    have S := S.go (Ext.drew _)
    (repeat (first | refine s_p ?_ | refine s_c (by omega) ?_ | refine S.ld ?_ | refine S.ldB ?_ | refine S.ce ?_ | refine S.ceB ?_ | refine s_q ?_ | refine s_qc (by omega) ?_ | refine n_some ?_ | rw [List.getD_cons_zero] | rw [List.getD_cons_succ]))
    refine P_of_oCall (c_strings_Clone hs fun w7 e7 => ⟨e7, ?_⟩)
    have S := S.go e7
    rw [show ((f0.at' + 4 : Nat) : Int) - 4 = (f0.at' : Int) by omega]
    (first | refine s_p ?_ | refine s_c (by omega) ?_)
    refine S.box fun tb w8 S => ?_
    refine c_tk_fn S hs (fun c sh sw f b w9 e9 hb S a1 a2 h1 h2 hf => ?_) (fun b w9 e9 S => ⟨nf, hKp b _ [_, _, _] _ S.tl ⟨rfl, e9⟩⟩)
    obtain ⟨l1, l2, l3⟩ := fnO_lit hf
    refine S.stB (cs := c.toArray) (hc := l3) (h1 := l2) fun w10 S => ?_
    exact hK _ [_, _, _] _ S.tl ⟨c, sh, sw, f, b, rfl, e9, fun b o h => .inr h, fun b o h => .inl (.inr h), a2, a1, h1, h2, hf⟩
  · obtain ⟨c, sh, sw, f, b, rfl, e9, lh, lw, ah, aw, ww, hh, hf⟩ := hA
    have e : fnC s (headD f0) = (f.fn, 0, 0) := by rw [fnC, if_neg h3, if_pos hin, hat, e9]
    rw [e] at h
    simp only [List.cons_append, List.nil_append] at S
    obtain ⟨l1, l2, l3⟩ := fnO_lit hf
    (repeat (first | refine s_p ?_ | refine s_c (by omega) ?_ | refine S.ld ?_ | refine S.ldB ?_ | refine S.ce ?_ | refine S.ceB ?_ | refine s_q ?_ | refine s_qc (by omega) ?_ | refine n_some ?_ | rw [List.getD_cons_zero] | rw [List.getD_cons_succ]))
    refine S.ldB (hc := l3) ?_
    refine S.stB (cs := c.toArray) (hl := l3) (hc := l3) (h1 := l2) fun w10 S => ?_
    refine S.ceB (hc := l3) ?_
    exact h c sh sw _ S.ext ⟨fun b o hb => S.holds b o (lh b o hb), ah⟩ ⟨fun b o hb => S.holds b o (lw b o hb), aw⟩ ww hh hf
  · obtain ⟨rfl, e9⟩ := hB
    have e : fnC s (headD f0) = (fn0, a, 200) := by rw [fnC, if_neg h3, if_pos hin, hat, e9]
    rw [e] at h
    simp only [List.cons_append, List.nil_append] at S
    (repeat (first | refine s_p ?_ | refine s_c (by omega) ?_ | refine S.ld ?_ | refine S.ldB ?_ | refine S.ce ?_ | refine S.ceB ?_ | refine s_q ?_ | refine s_qc (by omega) ?_ | refine n_some ?_ | rw [List.getD_cons_zero] | rw [List.getD_cons_succ]))
    refine S.stB fun w10 S => ?_
    (repeat (first | refine s_p ?_ | refine s_c (by omega) ?_ | refine S.ld ?_ | refine S.ldB ?_ | refine S.ce ?_ | refine S.ceB ?_ | refine s_q ?_ | refine s_qc (by omega) ?_ | refine n_some ?_ | rw [List.getD_cons_zero] | rw [List.getD_cons_succ]))
    exact h _ nothing nothing _ S.ext New.nothing New.nothing .no .no fn0_o
end

end Go.Proofs
end

section
namespace Go.Proofs

open Go.Sh Go.BM

set_option maxRecDepth 100000

set_option linter.unusedSimpArgs false

set_option linter.unusedVariables false

theorem step_bd {α β : Type} {stk stk2 : Bool} {T : Rd' β} {G : Gr α} {f : α → Nat → Rd' β} {s : List UInt8} {b b2 : Nat} {x : α} (g : stk = false → T = bd (rd G s b) f) (k : stk = true → T = (b, none))
    (g2 : stk2 = false → stk = false ∧ rd G s b = (b2, some x)) (k2 : stk2 = true → rs stk G s b = (b2, none)) : (stk2 = false → T = f x b2) ∧ (stk2 = true → T = (b2, none)) := by
  refine ⟨fun h => ?_, fun h => ?_⟩
  · obtain ⟨h1, h2⟩ := g2 h
    rw [g h1, h2]; rfl
  · have h2 := k2 h
    cases stk with
    | true =>
      simp only [rs, if_true, Prod.mk.injEq, and_true] at h2
      rw [k rfl, h2]
    | false =>
      rw [rs, if_neg (by simp)] at h2
      rw [g rfl, h2]; rfl
section

variable {w0 w : World} {r : Gh} {L : List Asr} {rb a : Nat} {s : List UInt8} {stk lo : Bool} {K : Value → World → Prop}

theorem c_rr_oneU {l h' : Nat} (S : St w0 r w (rrC rb s a stk lo :: L)) (hs : s.length ≤ 1000000000) (ha : a ≤ s.length)
    (h : ∀ (x b : Nat) (stk2 : Bool) w', x < 256 → b ≤ s.length → (stk2 = false → stk = false ∧ rd (oneG l h') s a = (b, some x)) → (stk2 = true → rs stk (oneG l h') s a = (b, none)) → (stk2 = false → x ≤ h') →
      St w0 r w' (rrC rb s b stk2 lo :: L) → K (.int .i64 (x : Nat)) w') :
    oCall Tryd.prog Tryd.n_ref20_reader_one #[rrP rb, .int .i64 (l : Nat), .int .i64 (h' : Nat)] w K :=
  c_rr_one S hs (fun v w' hv hv2 hlt hst e S => h v (a + 1) false w' hv2 hlt (fun _ => ⟨hst, e⟩) (fun h => by cases h) (fun _ => hv) S)
    fun w' e S => h 0 a true w' (by omega) ha (fun h => by cases h) (fun _ => e) (fun h => by cases h) S
theorem c_rr_listU {most : Nat} (hm : most ≤ 512) (S : St w0 r w (rrC rb s a stk lo :: L)) (hs : s.length ≤ 1000000000) (ha : a ≤ s.length)
    (h : ∀ v sn (l : List RowD) (x y z b : Nat) (stk2 : Bool) (X : LstR) w', b ≤ s.length → (stk2 = false → stk = false ∧ rd (listG (!lo) most) s a = (b, some X)) → (stk2 = true → rs stk (listG (!lo) most) s a = (b, none)) →
      (stk2 = false → l = X.rows ∧ x = X.n ∧ y = X.w ∧ z = a + 4) → St w0 (r.or sn) w' (rrC rb s b stk2 lo :: L) → Above w0 sn → RwsG sn v l → K (.tuple #[v, .int .i64 (x : Nat), .int .i64 (y : Nat), .int .i64 (z : Nat)]) w') :
    oCall Tryd.prog Tryd.n_ref20_reader_list #[rrP rb, .int .i64 (most : Nat)] w K :=
  c_rr_list hm S hs ha (fun v sn X b w' e hb hst S ha hv => h v sn X.rows X.n X.w (a + 4) b false X w' hb (fun _ => ⟨hst, e⟩) (fun h => by cases h) (fun _ => ⟨rfl, rfl, rfl, rfl⟩) S ha hv)
    fun v sn l x y z b w' e hb S ha hv => h v sn l x y z b true ⟨0, 0, []⟩ w' hb (fun h => by cases h) (fun _ => e) (fun h => by cases h) S ha hv
/-- a function's three lists, in either state -/
theorem c_rr_whole (hr : Holds r w) (hs : s.length ≤ 1000000000)
    (hbad : ∀ w' (a : Nat), Ext w w' → certR (!lo) s = (a, none) → K (.tuple #[.agg #[.slice none 0 0], .slice none 0 0, .int .i64 (a : Int), .bool false]) w')
    (hok : ∀ w' b l v hv sn, Ext w w' → New w sn w' → certR (!lo) s = (b, some l) → FnsG sn v (l.map FnR.fn) → HeadsG sn hv (l.map headD) → K (.tuple #[.agg #[v], hv, .int .i64 0, .bool true]) w') :
    oCall Tryd.prog Tryd.n_ref20_whole #[.string (bs s), .bool lo] w K := by
  refine Tryd.ok_ref20_whole ?_
  unfold Tryd.F_ref20_whole
  have hc := rd_cert (st := !lo) (s := s)
  have S := St.start hr
  refine S.al fun b4 w1 S => ?_
  (first | refine s_p ?_ | refine s_c (by omega) ?_)
  refine S.box fun rb w2 S => ?_
  have S : St w r w2 (rrC rb s 0 false lo :: .cell b4 [.slice none 0 0] 24 :: []) := S
  have F0 : (false = false → rd (certG (!lo)) s 0 = _) ∧ (false = true → rd (certG (!lo)) s 0 = (0, none)) := ⟨fun _ => hc, fun h => by cases h⟩
  refine l_unroll 5 ?_
  intro d4 K4 hK4
  (repeat (first | refine s_p ?_ | refine s_c (by omega) ?_ | refine S.ld ?_ | refine S.ldB ?_ | refine S.ce ?_ | refine S.ceB ?_ | refine s_q ?_ | refine s_qc (by omega) ?_ | refine n_some ?_ | rw [List.getD_cons_zero] | rw [List.getD_cons_succ]))
  refine s_c ⟨by decide, by decide⟩ ?_
  show opP _ (convert _ _ (.int .u8 76)) _
  (repeat (first | refine s_p ?_ | refine s_c (by omega) ?_ | refine S.ld ?_ | refine S.ldB ?_ | refine S.ce ?_ | refine S.ceB ?_ | refine s_q ?_ | refine s_qc (by omega) ?_ | refine n_some ?_ | rw [List.getD_cons_zero] | rw [List.getD_cons_succ]))
  refine s_c ⟨by decide, by decide⟩ ?_
  show opP _ (convert _ _ (.int .u8 76)) _
  (repeat (first | refine s_p ?_ | refine s_c (by omega) ?_ | refine S.ld ?_ | refine S.ldB ?_ | refine S.ce ?_ | refine S.ceB ?_ | refine s_q ?_ | refine s_qc (by omega) ?_ | refine n_some ?_ | rw [List.getD_cons_zero] | rw [List.getD_cons_succ]))
  have S := S.go (Ext.drew _)
  refine c_rr_oneU (l := 76) (h' := 76) S hs (Nat.zero_le _) fun x1 m1 st1 w3 _ hm1 g1 k1 _ S => ?_
  have F1 := step_bd F0.1 F0.2 g1 k1
  (repeat (first | refine s_p ?_ | refine s_c (by omega) ?_ | refine S.ld ?_ | refine S.ldB ?_ | refine S.ce ?_ | refine S.ceB ?_ | refine s_q ?_ | refine s_qc (by omega) ?_ | refine n_some ?_ | rw [List.getD_cons_zero] | rw [List.getD_cons_succ]))
  refine hK4 _ _ ?_
  clear hK4 K4
  intro d4 K4 hK4
  (repeat (first | refine s_p ?_ | refine s_c (by omega) ?_ | refine S.ld ?_ | refine S.ldB ?_ | refine S.ce ?_ | refine S.ceB ?_ | refine s_q ?_ | refine s_qc (by omega) ?_ | refine n_some ?_ | rw [List.getD_cons_zero] | rw [List.getD_cons_succ]))
  refine s_c ⟨by decide, by decide⟩ ?_
  show opP _ (convert _ _ (.int .u8 87)) _
  (repeat (first | refine s_p ?_ | refine s_c (by omega) ?_ | refine S.ld ?_ | refine S.ldB ?_ | refine S.ce ?_ | refine S.ceB ?_ | refine s_q ?_ | refine s_qc (by omega) ?_ | refine n_some ?_ | rw [List.getD_cons_zero] | rw [List.getD_cons_succ]))
  refine s_c ⟨by decide, by decide⟩ ?_
  show opP _ (convert _ _ (.int .u8 87)) _
  (repeat (first | refine s_p ?_ | refine s_c (by omega) ?_ | refine S.ld ?_ | refine S.ldB ?_ | refine S.ce ?_ | refine S.ceB ?_ | refine s_q ?_ | refine s_qc (by omega) ?_ | refine n_some ?_ | rw [List.getD_cons_zero] | rw [List.getD_cons_succ]))
  have S := S.go (Ext.drew _)
  refine c_rr_oneU (l := 87) (h' := 87) S hs hm1 fun x2 m2 st2 w4 _ hm2 g2 k2 _ S => ?_
  have F2 := step_bd F1.1 F1.2 g2 k2
  (repeat (first | refine s_p ?_ | refine s_c (by omega) ?_ | refine S.ld ?_ | refine S.ldB ?_ | refine S.ce ?_ | refine S.ceB ?_ | refine s_q ?_ | refine s_qc (by omega) ?_ | refine n_some ?_ | rw [List.getD_cons_zero] | rw [List.getD_cons_succ]))
  refine hK4 _ _ ?_
  clear hK4 K4
  intro d4 K4 hK4
  (repeat (first | refine s_p ?_ | refine s_c (by omega) ?_ | refine S.ld ?_ | refine S.ldB ?_ | refine S.ce ?_ | refine S.ceB ?_ | refine s_q ?_ | refine s_qc (by omega) ?_ | refine n_some ?_ | rw [List.getD_cons_zero] | rw [List.getD_cons_succ]))
  refine s_c ⟨by decide, by decide⟩ ?_
  show opP _ (convert _ _ (.int .u8 67)) _
  (repeat (first | refine s_p ?_ | refine s_c (by omega) ?_ | refine S.ld ?_ | refine S.ldB ?_ | refine S.ce ?_ | refine S.ceB ?_ | refine s_q ?_ | refine s_qc (by omega) ?_ | refine n_some ?_ | rw [List.getD_cons_zero] | rw [List.getD_cons_succ]))
  refine s_c ⟨by decide, by decide⟩ ?_
  show opP _ (convert _ _ (.int .u8 67)) _
  (repeat (first | refine s_p ?_ | refine s_c (by omega) ?_ | refine S.ld ?_ | refine S.ldB ?_ | refine S.ce ?_ | refine S.ceB ?_ | refine s_q ?_ | refine s_qc (by omega) ?_ | refine n_some ?_ | rw [List.getD_cons_zero] | rw [List.getD_cons_succ]))
  have S := S.go (Ext.drew _)
  refine c_rr_oneU (l := 67) (h' := 67) S hs hm2 fun x3 m3 st3 w5 _ hm3 g3 k3 _ S => ?_
  have F3 := step_bd F2.1 F2.2 g3 k3
  (repeat (first | refine s_p ?_ | refine s_c (by omega) ?_ | refine S.ld ?_ | refine S.ldB ?_ | refine S.ce ?_ | refine S.ceB ?_ | refine s_q ?_ | refine s_qc (by omega) ?_ | refine n_some ?_ | rw [List.getD_cons_zero] | rw [List.getD_cons_succ]))
  refine hK4 _ _ ?_
  clear hK4 K4
  intro d4 K4 hK4
  (repeat (first | refine s_p ?_ | refine s_c (by omega) ?_ | refine S.ld ?_ | refine S.ldB ?_ | refine S.ce ?_ | refine S.ceB ?_ | refine s_q ?_ | refine s_qc (by omega) ?_ | refine n_some ?_ | rw [List.getD_cons_zero] | rw [List.getD_cons_succ]))
  refine s_c ⟨by decide, by decide⟩ ?_
  show opP _ (convert _ _ (.int .u8 1)) _
  (repeat (first | refine s_p ?_ | refine s_c (by omega) ?_ | refine S.ld ?_ | refine S.ldB ?_ | refine S.ce ?_ | refine S.ceB ?_ | refine s_q ?_ | refine s_qc (by omega) ?_ | refine n_some ?_ | rw [List.getD_cons_zero] | rw [List.getD_cons_succ]))
  refine s_c ⟨by decide, by decide⟩ ?_
  show opP _ (convert _ _ (.int .u8 1)) _
  (repeat (first | refine s_p ?_ | refine s_c (by omega) ?_ | refine S.ld ?_ | refine S.ldB ?_ | refine S.ce ?_ | refine S.ceB ?_ | refine s_q ?_ | refine s_qc (by omega) ?_ | refine n_some ?_ | rw [List.getD_cons_zero] | rw [List.getD_cons_succ]))
  have S := S.go (Ext.drew _)
  refine c_rr_oneU (l := 1) (h' := 1) S hs hm3 fun x4 m4 st4 w6 _ hm4 g4 k4 _ S => ?_
  have F4 := step_bd F3.1 F3.2 g4 k4
  (repeat (first | refine s_p ?_ | refine s_c (by omega) ?_ | refine S.ld ?_ | refine S.ldB ?_ | refine S.ce ?_ | refine S.ceB ?_ | refine s_q ?_ | refine s_qc (by omega) ?_ | refine n_some ?_ | rw [List.getD_cons_zero] | rw [List.getD_cons_succ]))
  refine hK4 _ _ ?_
  clear hK4 K4
  intro d4 K4 hK4
  (repeat (first | refine s_p ?_ | refine s_c (by omega) ?_ | refine S.ld ?_ | refine S.ldB ?_ | refine S.ce ?_ | refine S.ceB ?_ | refine s_q ?_ | refine s_qc (by omega) ?_ | refine n_some ?_ | rw [List.getD_cons_zero] | rw [List.getD_cons_succ]))
  refine c_rr_oneU (l := 1) (h' := 32) S hs hm4 fun n b5 st5 w7 hn hb5 g5 k5 hn2 S => ?_
  have F5 := step_bd F4.1 F4.2 g5 k5
  generalize hT : rd (certG (!lo)) s 0 = T at F5
  refine S.al fun b12 w8 S => ?_
  have S := ((S.ownNil 50 3).ownNil 38 7).pull rb
  refine l_intro (ι := Value × Nat) (fun i => [i.1, .int .i64 i.2])
    (fun i w' => ∃ (b : Nat) (stk : Bool) (done : List FnR) (fl : List FnD) (hl : List (List Int)) (xs ys : List Value) (sn : Gh) (v : Value), b ≤ s.length ∧ i.2 ≤ n ∧ fl.length = i.2 ∧ hl.length = i.2 ∧
      St w (r.or sn) w' (rrC rb s b stk lo :: .row i.1 38 7 i.2 ys :: .row v 50 3 i.2 xs :: .cell b12 [v] 24 :: .cell b4 [.slice none 0 0] 24 :: []) ∧ Above w sn ∧
      RowOf 3 (FnC sn) xs fl ∧ RowOf 7 HdC ys hl ∧ (stk = true → T = (b, none)) ∧
      (stk = false → st5 = false ∧ RepInv (fun _ => fnG (!lo)) n s b5 i.2 b done ∧ fl = done.map FnR.fn ∧ hl = done.map headD))
    (fun i => n - i.2) (.slice none 0 0, 0) rfl ⟨b5, st5, [], [], [], [], [], nothing, .slice none 0 0, hb5, Nat.zero_le _, rfl, rfl, S.new (Ext.refl _) New.nothing, .no, .nil, .nil, F5.2, fun h => ⟨h, .start, rfl, rfl⟩⟩ ?_
  clear S
  rintro ⟨hv, i⟩ d9 w9 ⟨b, stk, done, fl, hl, xs, ys, sn, v, hb, hi, hfl, hhl, S, hab, hxs, hys, hbd, hgd⟩ K9 hK9
  simp only at hi hfl hhl S hgd ⊢
  simp only [List.getD_cons_zero, List.getD_cons_succ]
  (first | refine s_p ?_ | refine s_c (by omega) ?_)
  refine j_bandH (c := !stk) (fun hlt K4 hK4 => by (repeat (first | refine s_p ?_ | refine s_c (by omega) ?_ | refine S.ld ?_ | refine S.ldB ?_ | refine S.ce ?_ | refine S.ceB ?_ | refine s_q ?_ | refine s_qc (by omega) ?_ | refine n_some ?_ | rw [List.getD_cons_zero] | rw [List.getD_cons_succ])); exact hK4) ?_
  refine c_b (fun hc => ?_) (fun hc => ?_)
  · have hlt : i < n := by simp at hc; omega
    obtain rfl : stk = false := by simp at hc; exact hc.2
    obtain ⟨q1, q2, q3, q4⟩ := hgd rfl
    have G0 : (false = false → rd (fnG (!lo)) s b = _) ∧ (false = true → rd (fnG (!lo)) s b = (b, none)) := ⟨fun _ => rd_fn, fun h => by cases h⟩
    refine c_rr_listU (by decide) S hs hb fun v1 s1 l1 x1 y1 z1 p1 t1 X w10 hp1 g1 k1 e1 S a1 r1 => ?_
    have G1 := step_bd G0.1 G0.2 g1 k1
    (repeat (first | refine s_p ?_ | refine s_c (by omega) ?_ | refine S.ld ?_ | refine S.ldB ?_ | refine S.ce ?_ | refine S.ceB ?_ | refine s_q ?_ | refine s_qc (by omega) ?_ | refine n_some ?_ | rw [List.getD_cons_zero] | rw [List.getD_cons_succ]))
    refine c_rr_listU (by decide) S hs hp1 fun v2 s2 l2 x2 y2 z2 p2 t2 Y w11 hp2 g2 k2 e2 S a2 r2 => ?_
    have G2 := step_bd G1.1 G1.2 g2 k2
    (repeat (first | refine s_p ?_ | refine s_c (by omega) ?_ | refine S.ld ?_ | refine S.ldB ?_ | refine S.ce ?_ | refine S.ceB ?_ | refine s_q ?_ | refine s_qc (by omega) ?_ | refine n_some ?_ | rw [List.getD_cons_zero] | rw [List.getD_cons_succ]))
    refine c_rr_listU (by decide) S hs hp2 fun v3 s3 l3 x3 y3 z3 p3 t3 Z w12 hp3 g3 k3 e3 S a3 r3 => ?_
    have G3 := step_bd G2.1 G2.2 g3 k3
    obtain ⟨q1', c1', rfl, _⟩ := r1.shape
    obtain ⟨q2', c2', rfl, _⟩ := r2.shape
    obtain ⟨q3', c3', rfl, _⟩ := r3.shape
    (repeat (first | refine s_p ?_ | refine s_c (by omega) ?_ | refine S.ld ?_ | refine S.ldB ?_ | refine S.ce ?_ | refine S.ceB ?_ | refine s_q ?_ | refine s_qc (by omega) ?_ | refine n_some ?_ | rw [List.getD_cons_zero] | rw [List.getD_cons_succ]))
    refine S.lit (e := 50) (cs := [.slice q1' l1.length c1', .slice q2' l2.length c2', .slice q3' l3.length c3']) (by kernel_rfl) fun b20 w13 S => ?_
    refine S.ap (m' := 1) (Sl.blk (S.blk b20)) (fun v4 w14 S => ?_) (by omega) (hl := rfl)
    (repeat (first | refine s_p ?_ | refine s_c (by omega) ?_ | refine S.ld ?_ | refine S.ldB ?_ | refine S.ce ?_ | refine S.ceB ?_ | refine s_q ?_ | refine s_qc (by omega) ?_ | refine n_some ?_ | rw [List.getD_cons_zero] | rw [List.getD_cons_succ]))
    refine S.st (h1 := S.row1 v4) fun w15 S => ?_
    have S := S.drop b20
    (repeat (first | refine s_p ?_ | refine s_c (by omega) ?_ | refine S.ld ?_ | refine S.ldB ?_ | refine S.ce ?_ | refine S.ceB ?_ | refine s_q ?_ | refine s_qc (by omega) ?_ | refine n_some ?_ | rw [List.getD_cons_zero] | rw [List.getD_cons_succ]))
    refine S.lit (e := 38) (cs := numsV [(x1 : Int), (y1 : Int), (x2 : Int), (y2 : Int), (x3 : Int), (y3 : Int), (z1 : Int)]) (by kernel_rfl) fun b21 w16 S => ?_
    refine S.ap (m' := 1) (Sl.blk (S.blk b21)) (fun v5 w17 S => ?_) (by omega) (hl := rfl) (h1 := by simp [Value.oneCell', numsV])
    have S := S.drop b21
    (first | refine s_p ?_ | refine s_c (by omega) ?_)
    have S := S.reGh.reGh.reGh
    refine hK9 (v5, i + 1) _ ⟨p3, t3, done ++ [⟨b, X, Y, Z⟩], fl ++ [⟨l1, l2, l3⟩], hl ++ [[(x1 : Int), (y1 : Int), (x2 : Int), (y2 : Int), (x3 : Int), (y3 : Int), (z1 : Int)]], _, _, sn.or (s1.or (s2.or s3)), v4, hp3, hlt, by simp [hfl], by simp [hhl], S.to _, hab.or' (a1.or' (a2.or' a3)), ?_, hys.snoc rfl rfl, fun h => ?_, fun h => ?_⟩ (by simp only; omega)
    · exact (hxs.mono fun _ _ h => h.up).snoc rfl ⟨_, _, _, rfl, r1.up, r2.up, r3.up⟩
    · rw [← q2.stuck hlt (G3.2 h)]
      exact F5.1 q1
    · have h3 := G3.1 h
      obtain ⟨u1, u2, u3, u4⟩ := e3 h
      obtain ⟨o1, o2, o3, o4⟩ := e2 (g3 h).1
      obtain ⟨m1, m2, m3, m4⟩ := e1 (g2 (g3 h).1).1
      subst u1 u2 u3 o1 o2 o3 m1 m2 m3 m4
      refine ⟨q1, q2.step hlt h3, ?_, ?_⟩
      · rw [q3, List.map_append]; rfl
      · rw [q4, List.map_append]; rfl
  · -- all has been read, or it is stuck
    (repeat (first | refine s_p ?_ | refine s_c (by omega) ?_ | refine S.ld ?_ | refine S.ldB ?_ | refine S.ce ?_ | refine S.ceB ?_ | refine s_q ?_ | refine s_qc (by omega) ?_ | refine n_some ?_ | rw [List.getD_cons_zero] | rw [List.getD_cons_succ]))
    refine j_borH (c := decide ((b : Int) < s.length)) (fun h5 K43 hK43 => by (repeat (first | refine s_p ?_ | refine s_c (by omega) ?_ | refine S.ld ?_ | refine S.ldB ?_ | refine S.ce ?_ | refine S.ceB ?_ | refine s_q ?_ | refine s_qc (by omega) ?_ | refine n_some ?_ | rw [List.getD_cons_zero] | rw [List.getD_cons_succ])); exact hK43) ?_
    refine c_b (fun hs5 => ?_) (fun hs5 => ?_)
    · have hcert : certR (!lo) s = (b, none) := by
        cases stk with
        | true => exact bad_eq (hT.trans (hbd rfl))
        | false =>
          obtain ⟨q1, q2, q3, q4⟩ := hgd rfl
          have hge : n ≤ i := by simp at hc; omega
          refine more_eq (hT.trans ((F5.1 q1).trans (q2.end_ hge))) ?_
          simp at hs5; omega
      have S := S.go (Ext.drew _)
      (repeat (first | refine s_p ?_ | refine s_c (by omega) ?_ | refine S.ld ?_ | refine S.ldB ?_ | refine S.ce ?_ | refine S.ceB ?_ | refine s_q ?_ | refine s_qc (by omega) ?_ | refine n_some ?_ | rw [List.getD_cons_zero] | rw [List.getD_cons_succ]))
      constructor
      · refine w_q (S.ld ?_)
        refine S.stB fun w10 S => ?_
        (repeat (first | refine s_p ?_ | refine s_c (by omega) ?_ | refine S.ld ?_ | refine S.ldB ?_ | refine S.ce ?_ | refine S.ceB ?_ | refine s_q ?_ | refine s_qc (by omega) ?_ | refine n_some ?_ | rw [List.getD_cons_zero] | rw [List.getD_cons_succ]))
        exact hbad _ b S.ext hcert
      · refine S.stB fun w10 S => ?_
        refine w_q (S.ld ?_)
        (repeat (first | refine s_p ?_ | refine s_c (by omega) ?_ | refine S.ld ?_ | refine S.ldB ?_ | refine S.ce ?_ | refine S.ceB ?_ | refine s_q ?_ | refine s_qc (by omega) ?_ | refine n_some ?_ | rw [List.getD_cons_zero] | rw [List.getD_cons_succ]))
        exact hbad _ b S.ext hcert
    · obtain rfl : stk = false := by simp at hs5; exact hs5.1
      obtain ⟨q1, q2, q3, q4⟩ := hgd rfl
      have hge : n ≤ i := by simp at hc; omega
      have hcert := good_eq (hT.trans ((F5.1 q1).trans (q2.end_ hge))) (by simp at hs5; omega)
      have h1 := S.row1 v
      (repeat (first | refine s_p ?_ | refine s_c (by omega) ?_ | refine S.ld ?_ | refine S.ldB ?_ | refine S.ce ?_ | refine S.ceB ?_ | refine s_q ?_ | refine s_qc (by omega) ?_ | refine n_some ?_ | rw [List.getD_cons_zero] | rw [List.getD_cons_succ]))
      refine S.stB (h1 := by simpa using h1) fun w10 S => ?_
      (repeat (first | refine s_p ?_ | refine s_c (by omega) ?_ | refine S.ld ?_ | refine S.ldB ?_ | refine S.ce ?_ | refine S.ceB ?_ | refine s_q ?_ | refine s_qc (by omega) ?_ | refine n_some ?_ | rw [List.getD_cons_zero] | rw [List.getD_cons_succ]))
      obtain ⟨s2, S, hsl, _, ha2⟩ := S.tl.doneRow hys (by decide) hhl.symm
      obtain ⟨s3, S, hsl3, _, ha3⟩ := S.doneRow hxs (by decide) hfl.symm
      refine hok _ b done v hv (sn.or (s2.or s3)) S.ext ⟨fun b o h => S.holds b o ?_, hab.or' (Above.or' (fun b o h => (ha2 b o h).resolve_right id) fun b o h => (ha3 b o h).resolve_right id)⟩ hcert ?_ ?_
      · rcases h with h | h | h
        · exact .inl (.inl (.inr h))
        · exact .inl (.inr h)
        · exact .inr h
      · rw [← q3]
        exact hsl3.up' inferInstance fun _ _ h => h.up
      · rw [← q4]
        exact hsl.cells
theorem c_ref20_Read (hr : Holds r w) (hs : s.length ≤ 1000000000)
    (h : ∀ v sn w', Ext w w' → New w sn w' → CertG sn v (readC s).1 → K (.tuple #[v, .int .i64 ((readC s).2.1 : Int), .int .i64 ((readC s).2.2 : Int)]) w') :
    oCall Tryd.prog Tryd.n_ref20_Read #[.string (bs s)] w K := by
  refine Tryd.ok_ref20_Read ?_
  unfold Tryd.F_ref20_Read
  have S := St.start hr
  refine S.al fun b2 w1 S => ?_
  have none_ : CertG nothing (.agg #[.slice none 0 0]) [] := ⟨_, rfl, SlG.nil⟩
  (first | refine s_p ?_ | refine s_c (by omega) ?_)
  refine s_p ?_
  refine c_if (fun hl => ?_) (fun hl => ?_)
  · have e : readC s = ([], 0, 3) := by rw [readC, if_pos (by omega)]
    rw [e] at h
    (repeat (first | refine s_p ?_ | refine s_c (by omega) ?_ | refine S.ld ?_ | refine S.ldB ?_ | refine S.ce ?_ | refine S.ceB ?_ | refine s_q ?_ | refine s_qc (by omega) ?_ | refine n_some ?_ | rw [List.getD_cons_zero] | rw [List.getD_cons_succ]))
    refine S.stB fun w3 S => ?_
    (repeat (first | refine s_p ?_ | refine s_c (by omega) ?_ | refine S.ld ?_ | refine S.ldB ?_ | refine S.ce ?_ | refine S.ceB ?_ | refine s_q ?_ | refine s_qc (by omega) ?_ | refine n_some ?_ | rw [List.getD_cons_zero] | rw [List.getD_cons_succ]))
    exact h _ nothing _ S.ext New.nothing none_
  · have hl : ¬ 8388608 < s.length := by omega
    refine c_rr_whole (lo := false) S.holds hs (fun w2 a e2 hc => ?_) (fun w2 b l v hv sn e2 n2 hc hv1 _ => ?_)
    · have e : readC s = ([], a, 200) := by rw [readC, if_neg hl]; simp only [Bool.not_false] at hc; rw [hc]
      rw [e] at h
      have S := S.go e2
      (repeat (first | refine s_p ?_ | refine s_c (by omega) ?_ | refine S.ld ?_ | refine S.ldB ?_ | refine S.ce ?_ | refine S.ceB ?_ | refine s_q ?_ | refine s_qc (by omega) ?_ | refine n_some ?_ | rw [List.getD_cons_zero] | rw [List.getD_cons_succ]))
      refine S.al fun b5 w3 S => ?_
      refine S.stB fun w4 S => ?_
      (repeat (first | refine s_p ?_ | refine s_c (by omega) ?_ | refine S.ld ?_ | refine S.ldB ?_ | refine S.ce ?_ | refine S.ceB ?_ | refine s_q ?_ | refine s_qc (by omega) ?_ | refine n_some ?_ | rw [List.getD_cons_zero] | rw [List.getD_cons_succ]))
      refine S.stB fun w5 S => ?_
      (repeat (first | refine s_p ?_ | refine s_c (by omega) ?_ | refine S.ld ?_ | refine S.ldB ?_ | refine S.ce ?_ | refine S.ceB ?_ | refine s_q ?_ | refine s_qc (by omega) ?_ | refine n_some ?_ | rw [List.getD_cons_zero] | rw [List.getD_cons_succ]))
      exact h _ nothing _ S.ext New.nothing none_
    · have e : readC s = (l.map FnR.fn, 0, 0) := by rw [readC, if_neg hl]; simp only [Bool.not_false] at hc; rw [hc]
      rw [e] at h
      obtain ⟨S, _, ab⟩ := S.tell e2 n2
      obtain ⟨p, cap, rfl, _⟩ := hv1.shape
      (repeat (first | refine s_p ?_ | refine s_c (by omega) ?_ | refine S.ld ?_ | refine S.ldB ?_ | refine S.ce ?_ | refine S.ceB ?_ | refine s_q ?_ | refine s_qc (by omega) ?_ | refine n_some ?_ | rw [List.getD_cons_zero] | rw [List.getD_cons_succ]))
      refine S.al fun b5 w3 S => ?_
      refine S.stB fun w4 S => ?_
      (repeat (first | refine s_p ?_ | refine s_c (by omega) ?_ | refine S.ld ?_ | refine S.ldB ?_ | refine S.ce ?_ | refine S.ceB ?_ | refine s_q ?_ | refine s_qc (by omega) ?_ | refine n_some ?_ | rw [List.getD_cons_zero] | rw [List.getD_cons_succ]))
      refine S.stB fun w5 S => ?_
      (repeat (first | refine s_p ?_ | refine s_c (by omega) ?_ | refine S.ld ?_ | refine S.ldB ?_ | refine S.ce ?_ | refine S.ceB ?_ | refine s_q ?_ | refine s_qc (by omega) ?_ | refine n_some ?_ | rw [List.getD_cons_zero] | rw [List.getD_cons_succ]))
      exact h _ sn _ S.ext ⟨fun b o hb => S.holds b o (.inr hb), ab⟩ ⟨_, rfl, hv1⟩
theorem c_ref20_Heads (hr : Holds r w) (hs : s.length ≤ 1000000000)
    (h : ∀ v sn w', Ext w w' → New w sn w' → HeadsG sn v (readH s).1 → K (.tuple #[v, .int .i64 ((readH s).2.1 : Int), .int .i64 ((readH s).2.2 : Int)]) w') :
    oCall Tryd.prog Tryd.n_ref20_Heads #[.string (bs s)] w K := by
  refine Tryd.ok_ref20_Heads ?_
  unfold Tryd.F_ref20_Heads
  have S := St.start hr
  (first | refine s_p ?_ | refine s_c (by omega) ?_)
  refine s_p ?_
  refine c_if (fun hl => ?_) (fun hl => ?_)
  · have e : readH s = ([], 0, 3) := by rw [readH, if_pos (by omega)]
    rw [e] at h
    exact h _ nothing _ S.ext New.nothing SlG.nil
  · have hl : ¬ 8388608 < s.length := by omega
    refine c_rr_whole (lo := true) S.holds hs (fun w2 a e2 hc => ?_) (fun w2 b l v hv sn e2 n2 hc hv1 hv2 => ?_)
    · have e : readH s = ([], a, 200) := by rw [readH, if_neg hl]; simp only [Bool.not_true] at hc; rw [hc]
      rw [e] at h
      have S := S.go e2
      (repeat (first | refine s_p ?_ | refine s_c (by omega) ?_ | refine S.ld ?_ | refine S.ldB ?_ | refine S.ce ?_ | refine S.ceB ?_ | refine s_q ?_ | refine s_qc (by omega) ?_ | refine n_some ?_ | rw [List.getD_cons_zero] | rw [List.getD_cons_succ]))
      refine S.al fun b5 w3 S => ?_
      refine S.stB fun w4 S => ?_
      (repeat (first | refine s_p ?_ | refine s_c (by omega) ?_ | refine S.ld ?_ | refine S.ldB ?_ | refine S.ce ?_ | refine S.ceB ?_ | refine s_q ?_ | refine s_qc (by omega) ?_ | refine n_some ?_ | rw [List.getD_cons_zero] | rw [List.getD_cons_succ]))
      exact h _ nothing _ S.ext New.nothing SlG.nil
    · have e : readH s = (l.map headD, 0, 0) := by rw [readH, if_neg hl]; simp only [Bool.not_true] at hc; rw [hc]
      rw [e] at h
      obtain ⟨S, _, ab⟩ := S.tell e2 n2
      obtain ⟨p, cap, rfl, _⟩ := hv1.shape
      (repeat (first | refine s_p ?_ | refine s_c (by omega) ?_ | refine S.ld ?_ | refine S.ldB ?_ | refine S.ce ?_ | refine S.ceB ?_ | refine s_q ?_ | refine s_qc (by omega) ?_ | refine n_some ?_ | rw [List.getD_cons_zero] | rw [List.getD_cons_succ]))
      refine S.al fun b5 w3 S => ?_
      refine S.stB fun w4 S => ?_
      (repeat (first | refine s_p ?_ | refine s_c (by omega) ?_ | refine S.ld ?_ | refine S.ldB ?_ | refine S.ce ?_ | refine S.ceB ?_ | refine s_q ?_ | refine s_qc (by omega) ?_ | refine n_some ?_ | rw [List.getD_cons_zero] | rw [List.getD_cons_succ]))
      exact h _ sn _ S.ext ⟨fun b o hb => S.holds b o (.inr hb), ab⟩ hv2
end

end Go.Proofs
end

section
namespace Go.Proofs

open Go.Sh Go.BM

set_option maxRecDepth 100000

set_option linter.unusedSimpArgs false

set_option linter.unusedVariables false

section

variable {w0 w : World} {r : Gh} {L : List Asr} {rb a : Nat} {s : List UInt8} {stk lo : Bool} {K : Value → World → Prop}

theorem c_ref20_Fn {hd : List Int} (hr : Holds r w) (hs : s.length ≤ 1000000000) (h7 : hd.length = 7)
    (h : ∀ c sn w', Ext w w' → New w sn w' → FnC sn c (fnC s hd).1 → K (.tuple #[.agg c.toArray, .int .i64 ((fnC s hd).2.1 : Int), .int .i64 ((fnC s hd).2.2 : Int)]) w') :
    oCall Tryd.prog Tryd.n_ref20_Fn #[.string (bs s), .agg (numsV hd).toArray] w K := by
  refine Tryd.ok_ref20_Fn ?_
  unfold Tryd.F_ref20_Fn
  have S := St.start hr
  have zero_ : FnC nothing fn0C fn0 := ⟨_, _, _, rfl, SlG.nil, SlG.nil, SlG.nil⟩
  refine S.box fun b3 w2 S => ?_
  refine S.al fun b4 w3 S => ?_
  refine c_ref20_Heads S.holds hs fun v sn w4 e4 n4 hv => ?_
  obtain ⟨S, _, _⟩ := S.tell e4 n4
  (repeat (first | refine s_p ?_ | refine s_c (by omega) ?_ | refine S.ld ?_ | refine S.ldB ?_ | refine S.ce ?_ | refine S.ceB ?_ | refine s_q ?_ | refine s_qc (by omega) ?_ | refine n_some ?_ | rw [List.getD_cons_zero] | rw [List.getD_cons_succ]))
  refine c_if (fun h3 => ?_) (fun h3 => ?_)
  · have h3 : (readH s).2.2 = 3 := by omega
    have e : fnC s hd = (fn0, 0, 3) := by rw [fnC, if_pos h3]
    rw [e] at h
    (repeat (first | refine s_p ?_ | refine s_c (by omega) ?_ | refine S.ld ?_ | refine S.ldB ?_ | refine S.ce ?_ | refine S.ceB ?_ | refine s_q ?_ | refine s_qc (by omega) ?_ | refine n_some ?_ | rw [List.getD_cons_zero] | rw [List.getD_cons_succ]))
    refine S.stB fun w5 S => ?_
    (repeat (first | refine s_p ?_ | refine s_c (by omega) ?_ | refine S.ld ?_ | refine S.ldB ?_ | refine S.ce ?_ | refine S.ceB ?_ | refine s_q ?_ | refine s_qc (by omega) ?_ | refine n_some ?_ | rw [List.getD_cons_zero] | rw [List.getD_cons_succ]))
    exact h _ nothing _ S.ext New.nothing zero_
  have h3 : ¬ (readH s).2.2 = 3 := by omega
  have hv0 := hv
  obtain ⟨p, cap, rfl, hp, hcap⟩ := hv.shape
  have hl := heads_le s
  have S : St w (r.or sn) w4 (.cell b4 fn0C 50 :: .cell b3 (numsV hd) 38 :: []) := by simpa [Value.cells] using S
  refine l_intro (ι := Nat) (fun i => [.int .i64 i]) (fun i w' => i ≤ (readH s).1.length ∧ (∀ j (hj : j < (readH s).1.length), j < i → (readH s).1[j] ≠ hd) ∧ St w (r.or sn) w' (.cell b4 fn0C 50 :: .cell b3 (numsV hd) 38 :: []))
    (fun i => (readH s).1.length - i) 0 rfl ⟨Nat.zero_le _, fun j _ hj => absurd hj (Nat.not_lt_zero _), S⟩ ?_
  clear S
  rintro i d w5 ⟨hi, hno, S⟩ K2 hK2
  simp only [List.getD_cons_zero]
  (first | refine s_p ?_ | refine s_c (by omega) ?_)
  (first | refine s_p ?_ | refine s_c (by omega) ?_)
  refine c_if (fun hlt => ?_) (fun hge => ?_)
  rotate_left
  · have hn : ¬ hd ∈ (readH s).1 := fun hm => by
      obtain ⟨j, hj, e⟩ := List.getElem_of_mem hm
      exact hno j hj (by omega) e
    have e : fnC s hd = (fn0, 0, 2) := by rw [fnC, if_neg h3, if_neg hn]
    rw [e] at h
    (repeat (first | refine s_p ?_ | refine s_c (by omega) ?_ | refine S.ld ?_ | refine S.ldB ?_ | refine S.ce ?_ | refine S.ceB ?_ | refine s_q ?_ | refine s_qc (by omega) ?_ | refine n_some ?_ | rw [List.getD_cons_zero] | rw [List.getD_cons_succ]))
    refine S.stB fun w6 S => ?_
    (repeat (first | refine s_p ?_ | refine s_c (by omega) ?_ | refine S.ld ?_ | refine S.ldB ?_ | refine S.ce ?_ | refine S.ceB ?_ | refine s_q ?_ | refine s_qc (by omega) ?_ | refine n_some ?_ | rw [List.getD_cons_zero] | rw [List.getD_cons_succ]))
    exact h _ nothing _ S.ext New.nothing zero_
  have hlt : i < (readH s).1.length := by omega
  have S := S.go (Ext.drew _)
  obtain ⟨b, off, c, rfl, hcl, hR, hcell⟩ := SlG.get (by decide) hv0 hlt
  obtain rfl : c = numsV (readH s).1[i] := hR
  (first | refine s_p ?_ | refine s_c (by omega) ?_)
  refine s_ldN (n := 7) hcl (fun j v hj => S.at (hcell j v hj)) ?_
  refine S.ldB (hc := by simpa using h7) ?_
  obtain ⟨f0, hx, hle⟩ := heads_7 s _ (List.getElem_mem hlt)
  refine q_eqN (by kernel_rfl) (by rw [hx]; kernel_rfl) (by rw [h7, hx]; rfl) ?_
  refine c_b (fun he => ?_) (fun he => ?_)
  rotate_left
  · have he : (readH s).1[i] ≠ hd := by simpa using he
    (first | refine s_p ?_ | refine s_c (by omega) ?_)
    refine hK2 (i + 1) _ ⟨hlt, fun j hj hji => ?_, S⟩ (by omega)
    rcases Nat.lt_or_ge j i with hj' | hj'
    · exact hno j hj hj'
    · obtain rfl : j = i := by omega
      exact he
  have he : (readH s).1[i] = hd := by simpa using he
  rw [hx] at he
  subst he
  have hin : headD f0 ∈ (readH s).1 := hx ▸ List.getElem_mem hlt
  have hat : atOf (headD f0) = f0.at' := by show ((f0.at' + 4 : Nat) : Int).toNat - 4 = _; omega
  have hfn : fnC s (headD f0) = match rd (fnG true) s f0.at' with | (_, some f) => (f.fn, 0, 0) | (k, none) => (fn0, k, 200) := by rw [fnC, if_neg h3, if_pos hin, hat] <;> rfl
  (repeat (first | refine s_p ?_ | refine s_c (by omega) ?_ | refine S.ld ?_ | refine S.ldB ?_ | refine S.ce ?_ | refine S.ceB ?_ | refine s_q ?_ | refine s_qc (by omega) ?_ | refine n_some ?_ | rw [List.getD_cons_zero] | rw [List.getD_cons_succ]))
  rw [show ((f0.at' + 4 : Nat) : Int) - 4 = (f0.at' : Int) by omega]
  (repeat (first | refine s_p ?_ | refine s_c (by omega) ?_ | refine S.ld ?_ | refine S.ldB ?_ | refine S.ce ?_ | refine S.ceB ?_ | refine s_q ?_ | refine s_qc (by omega) ?_ | refine n_some ?_ | rw [List.getD_cons_zero] | rw [List.getD_cons_succ]))
  refine S.box fun rb w10 S => ?_
  have S : St w (r.or sn) w10 (rrC rb s f0.at' false false :: .cell b4 fn0C 50 :: .cell b3 (numsV (headD f0)) 38 :: []) := S
  have G0 : (false = false → rd (fnG true) s f0.at' = _) ∧ (false = true → rd (fnG true) s f0.at' = (f0.at', none)) := ⟨fun _ => rd_fn, fun h => by cases h⟩
  refine c_rr_listU (by decide) S hs hle fun v1 s1 l1 x1 y1 z1 p1 t1 X w10 hp1 g1 k1 e1 S a1 r1 => ?_
  have G1 := step_bd G0.1 G0.2 g1 k1
  (repeat (first | refine s_p ?_ | refine s_c (by omega) ?_ | refine S.ld ?_ | refine S.ldB ?_ | refine S.ce ?_ | refine S.ceB ?_ | refine s_q ?_ | refine s_qc (by omega) ?_ | refine n_some ?_ | rw [List.getD_cons_zero] | rw [List.getD_cons_succ]))
  refine c_rr_listU (by decide) S hs hp1 fun v2 s2 l2 x2 y2 z2 p2 t2 Y w11 hp2 g2 k2 e2 S a2 r2 => ?_
  have G2 := step_bd G1.1 G1.2 g2 k2
  (repeat (first | refine s_p ?_ | refine s_c (by omega) ?_ | refine S.ld ?_ | refine S.ldB ?_ | refine S.ce ?_ | refine S.ceB ?_ | refine s_q ?_ | refine s_qc (by omega) ?_ | refine n_some ?_ | rw [List.getD_cons_zero] | rw [List.getD_cons_succ]))
  refine c_rr_listU (by decide) S hs hp2 fun v3 s3 l3 x3 y3 z3 p3 t3 Z w12 hp3 g3 k3 e3 S a3 r3 => ?_
  have G3 := step_bd G2.1 G2.2 g3 k3
  obtain ⟨q1', c1', rfl, _⟩ := r1.shape
  obtain ⟨q2', c2', rfl, _⟩ := r2.shape
  obtain ⟨q3', c3', rfl, _⟩ := r3.shape
  (repeat (first | refine s_p ?_ | refine s_c (by omega) ?_ | refine S.ld ?_ | refine S.ldB ?_ | refine S.ce ?_ | refine S.ceB ?_ | refine s_q ?_ | refine s_qc (by omega) ?_ | refine n_some ?_ | rw [List.getD_cons_zero] | rw [List.getD_cons_succ]))
  refine c_b (fun h5 => ?_) (fun h5 => ?_)
  · have e : fnC s (headD f0) = (fn0, p3, 200) := by rw [hfn, G3.2 h5]
    rw [e] at h
    have S := S.go (Ext.drew _)
    (repeat (first | refine s_p ?_ | refine s_c (by omega) ?_ | refine S.ld ?_ | refine S.ldB ?_ | refine S.ce ?_ | refine S.ceB ?_ | refine s_q ?_ | refine s_qc (by omega) ?_ | refine n_some ?_ | rw [List.getD_cons_zero] | rw [List.getD_cons_succ]))
    constructor
    · refine w_q (S.ld ?_)
      refine S.stB fun w10 S => ?_
      (repeat (first | refine s_p ?_ | refine s_c (by omega) ?_ | refine S.ld ?_ | refine S.ldB ?_ | refine S.ce ?_ | refine S.ceB ?_ | refine s_q ?_ | refine s_qc (by omega) ?_ | refine n_some ?_ | rw [List.getD_cons_zero] | rw [List.getD_cons_succ]))
      exact h _ nothing _ S.ext New.nothing zero_
    · refine S.stB fun w10 S => ?_
      refine w_q (S.ld ?_)
      (repeat (first | refine s_p ?_ | refine s_c (by omega) ?_ | refine S.ld ?_ | refine S.ldB ?_ | refine S.ce ?_ | refine S.ceB ?_ | refine s_q ?_ | refine s_qc (by omega) ?_ | refine n_some ?_ | rw [List.getD_cons_zero] | rw [List.getD_cons_succ]))
      exact h _ nothing _ S.ext New.nothing zero_
  · obtain ⟨u1, _⟩ := e3 h5
    obtain ⟨o1, _⟩ := e2 (g3 h5).1
    obtain ⟨m1, _⟩ := e1 (g2 (g3 h5).1).1
    subst u1 o1 m1
    have e : fnC s (headD f0) = ((⟨f0.at', X, Y, Z⟩ : FnR).fn, 0, 0) := by rw [hfn, G3.1 h5]
    rw [e] at h
    (repeat (first | refine s_p ?_ | refine s_c (by omega) ?_ | refine S.ld ?_ | refine S.ldB ?_ | refine S.ce ?_ | refine S.ceB ?_ | refine s_q ?_ | refine s_qc (by omega) ?_ | refine n_some ?_ | rw [List.getD_cons_zero] | rw [List.getD_cons_succ]))
    refine S.stB fun w10 S => ?_
    (repeat (first | refine s_p ?_ | refine s_c (by omega) ?_ | refine S.ld ?_ | refine S.ldB ?_ | refine S.ce ?_ | refine S.ceB ?_ | refine s_q ?_ | refine s_qc (by omega) ?_ | refine n_some ?_ | rw [List.getD_cons_zero] | rw [List.getD_cons_succ]))
    exact h [_, _, _] (s1.or (s2.or s3)) _ S.ext ⟨fun b o hb => S.holds b o (hb.elim (fun h => .inl (.inl (.inr h))) fun hb => hb.elim (fun h => .inl (.inr h)) .inr), a1.or' (a2.or' a3)⟩ ⟨_, _, _, rfl, r1.up, r2.up, r3.up⟩
end

end Go.Proofs
end

section
namespace Go.Proofs

open Go.Sh Go.BM

set_option maxRecDepth 100000

set_option linter.unusedSimpArgs false

set_option linter.unusedVariables false

/-- the certificate that is laid by hand, and its bytes -/
def f1 : FnD := ⟨[(2, [2#64])], [], []⟩
def c1 : List FnD := [f1]
def s1 : List UInt8 := [76, 87, 67, 1, 1, 0, 1, 0, 2, 64, 0, 0, 0, 0, 0, 0, 0, 0]
def L1 : List FnR := [⟨5, ⟨1, 2, [[64]]⟩, ⟨0, 0, []⟩, ⟨0, 0, []⟩⟩]
theorem b1_eq : certB c1 = s1 := by kernel_rfl
theorem r1_eq : certR true s1 = (18, some L1) := by kernel_rfl
theorem r1_loose : certR false s1 = (18, some L1) := by kernel_rfl
theorem l1_fn : L1.map FnR.fn = c1 := by kernel_rfl
theorem may_c1 : MayC c1 := by
  have := (cert_back r1_eq).1
  rwa [l1_fn] at this
theorem read_s1 : readC s1 = (c1, 0, 0) := by
  rw [readC, if_neg (by decide), r1_eq]
  simp only [l1_fn]
theorem read_s2 : readC (s1.take 9 ++ [96] ++ s1.drop 10) = ([], 9, 200) := by
  have : certR true (s1.take 9 ++ [96] ++ s1.drop 10) = (9, none) := by kernel_rfl
  rw [readC, if_neg (by decide), this]
def h1 : List Int := [1, 2, 0, 0, 0, 0, 9]
theorem readH_s1 : readH s1 = ([h1], 0, 0) := by
  rw [readH, if_neg (by decide), r1_loose]
  rfl
theorem fn_s1 : fnC s1 h1 = (f1, 0, 0) := by
  have : rd (fnG true) s1 (atOf h1) = (18, some ⟨5, ⟨1, 2, [[64]]⟩, ⟨0, 0, []⟩, ⟨0, 0, []⟩⟩) := by kernel_rfl
  have e : (⟨5, ⟨1, 2, [[64]]⟩, ⟨0, 0, []⟩, ⟨0, 0, []⟩⟩ : FnR).fn = f1 := by kernel_rfl
  rw [fnC, readH_s1, if_neg (by decide), if_pos (by simp), this]
  simp only [e]
theorem csm_c1 : CSm c1 := ⟨by decide, fun f hf => by
  simp only [c1, List.mem_singleton] at hf
  subst hf
  exact ⟨⟨by decide, by simp [f1]⟩, ⟨by decide, by simp [f1]⟩, ⟨by decide, by simp [f1]⟩⟩⟩
theorem bytes_c1 : bytesC c1 = (s1, 0) := by rw [bytesC_may may_c1, b1_eq]
theorem mayB_c1 : mayCB c1 = true := mayCB_iff.2 may_c1
theorem same_c1 : sameC c1 c1 = true := by simp [sameC, mayB_c1]
theorem size_c1 : sizeC c1 = 18 := by rw [sizeC, if_pos mayB_c1, b1_eq]; rfl
section

variable {w0 w : World} {r q : Gh} {L : List Asr} {K : Value → World → Prop}

theorem c_Of21 {b18 cp : Nat} (hr : Holds r w) (hl : Ob r fun w => w.cell? ⟨b18, 0, none⟩ = some (.int .i64 1)) (h : ∀ c sw w', Ext w w' → New w sw w' → OwC sw c (2, [2#64]) → K (.agg c.toArray) w') :
    oCall Tryd.prog Tryd.n_ref01_Of #[.int .i64 2, .slice (some ⟨b18, 0, none⟩) 1 cp] w K := by
  refine Tryd.ok_ref01_Of ?_
  unfold Tryd.F_ref01_Of
  have S := St.start hr
  refine S.al fun b4 w1 S => ?_
  refine c_ref01_None (by decide) (by decide) fun v w2 e2 hf => ?_
  have hz : zeros 2 = [0#64] := by decide
  obtain ⟨p, cap, Lw, rfl, hp, hcap, hwd, S⟩ := fresh_own S e2 hf
  rw [hz] at hwd hcap ⊢
  rw [show ([0#64] : List (BitVec 64)).length = 1 from rfl] at hcap ⊢
  rcases hwd with ⟨h0, _⟩ | ⟨g, c, rfl, rfl, hc⟩
  · cases h0
  simp only [List.cons_append, List.nil_append] at S
  have hc0 : c[0]? = some (u64 0#64) := by
    have := congrArg (fun l : List Value => l[0]?) hc
    simpa using this
  have hcl : 0 < c.length := (List.getElem?_eq_some_iff.1 hc0).1
  refine S.al fun b5 w3 S => ?_
  refine S.stB fun w4 S => ?_
  refine l_unroll 2 ?_
  intro d4 K4 hK4
  (repeat (first | refine s_p ?_ | refine s_c (by omega) ?_ | refine S.ld ?_ | refine S.ldB ?_ | refine S.ce ?_ | refine S.ceB ?_ | refine s_q ?_ | refine s_qc (by omega) ?_ | refine n_some ?_ | rw [List.getD_cons_zero] | rw [List.getD_cons_succ]))
  have S := S.go (Ext.drew _)
  (repeat (first | refine s_p ?_ | refine s_c (by omega) ?_ | refine S.ld ?_ | refine S.ldB ?_ | refine S.ce ?_ | refine S.ceB ?_ | refine s_q ?_ | refine s_qc (by omega) ?_ | refine n_some ?_ | rw [List.getD_cons_zero] | rw [List.getD_cons_succ]))
  refine s_ld1 (S.at hl) ?_
  (repeat (first | refine s_p ?_ | refine s_c (by omega) ?_ | refine S.ld ?_ | refine S.ldB ?_ | refine S.ce ?_ | refine S.ceB ?_ | refine s_q ?_ | refine s_qc (by omega) ?_ | refine n_some ?_ | rw [List.getD_cons_zero] | rw [List.getD_cons_succ]))
  refine s_ld1 (S.at hl) ?_
  (repeat (first | refine s_p ?_ | refine s_c (by omega) ?_ | refine S.ld ?_ | refine S.ldB ?_ | refine S.ce ?_ | refine S.ceB ?_ | refine s_q ?_ | refine s_qc (by omega) ?_ | refine n_some ?_ | rw [List.getD_cons_zero] | rw [List.getD_cons_succ]))
  refine S.ld ?_ hc0
  (repeat (first | refine s_p ?_ | refine s_c (by omega) ?_ | refine S.ld ?_ | refine S.ldB ?_ | refine S.ce ?_ | refine S.ceB ?_ | refine s_q ?_ | refine s_qc (by omega) ?_ | refine n_some ?_ | rw [List.getD_cons_zero] | rw [List.getD_cons_succ]))
  refine s_ld1 (S.at hl) ?_
  (repeat (first | refine s_p ?_ | refine s_c (by omega) ?_ | refine S.ld ?_ | refine S.ldB ?_ | refine S.ce ?_ | refine S.ceB ?_ | refine s_q ?_ | refine s_qc (by omega) ?_ | refine n_some ?_ | rw [List.getD_cons_zero] | rw [List.getD_cons_succ]))
  refine S.st (fun w5 S => ?_) hcl
  (repeat (first | refine s_p ?_ | refine s_c (by omega) ?_ | refine S.ld ?_ | refine S.ldB ?_ | refine S.ce ?_ | refine S.ceB ?_ | refine s_q ?_ | refine s_qc (by omega) ?_ | refine n_some ?_ | rw [List.getD_cons_zero] | rw [List.getD_cons_succ]))
  refine hK4 _ _ ?_
  clear hK4 K4
  intro d4 K4 hK4
  (repeat (first | refine s_p ?_ | refine s_c (by omega) ?_ | refine S.ld ?_ | refine S.ldB ?_ | refine S.ce ?_ | refine S.ceB ?_ | refine s_q ?_ | refine s_qc (by omega) ?_ | refine n_some ?_ | rw [List.getD_cons_zero] | rw [List.getD_cons_succ]))
  refine S.stB fun w6 S => ?_
  (repeat (first | refine s_p ?_ | refine s_c (by omega) ?_ | refine S.ld ?_ | refine S.ldB ?_ | refine S.ce ?_ | refine S.ceB ?_ | refine s_q ?_ | refine s_qc (by omega) ?_ | refine n_some ?_ | rw [List.getD_cons_zero] | rw [List.getD_cons_succ]))
  have S := (S.drop b5).drop b4
  have hge := (S.mine _ (List.mem_cons_self ..) g rfl).1.resolve_right id
  have S := S.frz
  refine h [.int .i64 2, .slice (some ⟨g, 0, none⟩) 1 cap] (one g (c.set (0 + ((1 : Int) / 64).toNat) (u64 (0#64 ||| BitVec.ofInt 64 1 <<< ((1 : Int) % 64).toNat))) Tryd.t_uint64) _ S.ext (S.newOf fun b o hb => by rw [hb.1]; exact hge) ⟨some ⟨g, 0, none⟩, cap, rfl, by simp, hcap, .inr ⟨g, _, rfl, ⟨rfl, rfl⟩, ?_⟩⟩
  rw [List.take_set, show c.take ([2#64] : List (BitVec 64)).length = [u64 0#64] from hc]
  rfl
theorem c_law20_awake (hr : Holds r w) (hT : Ob r Tab) (h : ∀ w', Ext w w' → K (.bool true) w') : oCall Tryd.prog Tryd.n_law20_awake #[] w K := by
  refine Tryd.ok_law20_awake ?_
  unfold Tryd.F_law20_awake
  have S := St.start hr
  refine S.lit (e := 3) (cs := [.int .i64 1]) (by kernel_rfl) fun b18 w1 S => ?_
  have S := S.frz
  refine c_Of21 S.holds (Ob.up (r := one b18 [.int .i64 1] 3) fun w k => (one_blk w k).cell 0) fun cc sw w2 e2 n2 how => ?_
  obtain ⟨S, _, _⟩ := S.tell e2 n2
  obtain ⟨l1, l2, l3⟩ := lit_row how
  refine S.lit l1 fun b20 w3 S => ?_
  obtain ⟨S, g1⟩ := S.litSl (R := RwC sw) (l := [(2, [2#64])]) (by have := (RowOf.nil (sz := 2) (R := RwC sw)).snoc l3 how.row; exact this) (by decide)
  (repeat (first | refine s_p ?_ | refine s_c (by omega) ?_ | refine S.ld ?_ | refine S.ldB ?_ | refine S.ce ?_ | refine S.ceB ?_ | refine s_q ?_ | refine s_qc (by omega) ?_ | refine n_some ?_ | rw [List.getD_cons_zero] | rw [List.getD_cons_succ]))
  refine S.lit (e := 50) (cs := [.slice (some ⟨b20, 0, none⟩) 1 1, .slice none 0 0, .slice none 0 0]) (by kernel_rfl) fun b21 w4 S => ?_
  obtain ⟨S, g2⟩ := S.litSl (R := FnC (sw.or (one b20 cc Tryd.t_Row))) (l := c1) (by
    have := (RowOf.nil (sz := 3) (R := FnC (sw.or (one b20 cc Tryd.t_Row)))).snoc (c := [.slice (some ⟨b20, 0, none⟩) 1 1, .slice none 0 0, .slice none 0 0]) (x := f1) rfl ⟨_, _, _, rfl, SlG.up' g1 inferInstance fun _ _ h => h.up, SlG.nil, SlG.nil⟩
    exact this) (by decide)
  have gc : CertG ((sw.or (one b20 cc Tryd.t_Row)).or (one b21 [.slice (some ⟨b20, 0, none⟩) 1 1, .slice none 0 0, .slice none 0 0] 50)) (.agg #[.slice (some ⟨b21, 0, none⟩) 1 1]) c1 := ⟨_, rfl, SlG.up' g2 inferInstance fun _ _ h => h.up⟩
  (repeat (first | refine s_p ?_ | refine s_c (by omega) ?_ | refine S.ld ?_ | refine S.ldB ?_ | refine S.ce ?_ | refine S.ceB ?_ | refine s_q ?_ | refine s_qc (by omega) ?_ | refine n_some ?_ | rw [List.getD_cons_zero] | rw [List.getD_cons_succ]))
  refine S.al fun b1 w5 S => ?_
  refine S.stB fun w6 S => ?_
  have S : St w _ w6 (.cell b1 [.slice (some ⟨b21, 0, none⟩) 1 1] 24 :: []) := S
  (repeat (first | refine s_p ?_ | refine s_c (by omega) ?_ | refine S.ld ?_ | refine S.ldB ?_ | refine S.ce ?_ | refine S.ceB ?_ | refine s_q ?_ | refine s_qc (by omega) ?_ | refine n_some ?_ | rw [List.getD_cons_zero] | rw [List.getD_cons_succ]))
  refine c_cert_BytesC S.holds hT.up gc.up csm_c1 fun w7 e7 => ?_
  have S := S.go e7
  rw [bytes_c1]
  (first | refine s_p ?_ | refine s_c (by omega) ?_); (first | refine s_p ?_ | refine s_c (by omega) ?_); (first | refine s_p ?_ | refine s_c (by omega) ?_)
  refine s_p ?_
  refine c_f rfl ?_
  refine c_cert_Read (s := s1) S.holds (by decide) fun v3 sh3 sw3 w8 e8 n8 m8 _ _ hv3 => ?_
  rw [read_s1] at hv3 ⊢
  obtain ⟨S, _, _⟩ := S.tell e8 (n8.or m8)
  have gv3 := hv3.g
  obtain ⟨u3, rfl, hu3⟩ := hv3
  obtain ⟨q3, k3, rfl, _⟩ := hu3.shape
  (repeat (first | refine s_p ?_ | refine s_c (by omega) ?_ | refine S.ld ?_ | refine S.ldB ?_ | refine S.ce ?_ | refine S.ceB ?_ | refine s_q ?_ | refine s_qc (by omega) ?_ | refine n_some ?_ | rw [List.getD_cons_zero] | rw [List.getD_cons_succ]))
  refine S.al fun b4 w9 S => ?_
  refine S.stB fun w10 S => ?_
  obtain ⟨rr, S, lr, gc, gv⟩ : ∃ rr, St w rr w10 (.cell b4 [.slice q3 c1.length k3] 24 :: .cell b1 [.slice (some ⟨b21, 0, none⟩) 1 1] 24 :: []) ∧ Le r rr ∧ CertG rr (.agg #[.slice (some ⟨b21, 0, none⟩) 1 1]) c1 ∧ CertG rr (.agg #[.slice q3 c1.length k3]) c1 := ⟨_, S, inferInstance, gc.up, gv3.up⟩
  refine j_intro (fun t w' => t = [.int .i64 9, .int .i64 200] ∧ ∃ rr2, Le rr rr2 ∧ St w rr2 w' (.cell b4 [.slice q3 c1.length k3] 24 :: .cell b1 [.slice (some ⟨b21, 0, none⟩) 1 1] 24 :: [])) (fun K11 hK11 => ?_) ?_
  · have S := S.go (Ext.drew _)
    refine s_c ⟨by decide, by decide⟩ ?_
    refine s_c (by decide) ?_
    refine s_c ⟨by decide, by decide⟩ ?_
    refine s_c (by decide) ?_
    have hl2 : (s1.take 9 ++ [96] ++ s1.drop 10).length ≤ 1000000000 := by decide
    constructor
    · refine c_cert_Read (s := s1.take 9 ++ [96] ++ s1.drop 10) S.holds hl2 fun v4 sh4 sw4 w11 e11 n11 m11 _ _ hv4 => ?_
      rw [read_s2] at hv4 ⊢
      obtain ⟨S, _, _⟩ := S.tell e11 (n11.or m11)
      obtain ⟨u4, rfl, hu4⟩ := hv4
      obtain ⟨q4, k4, rfl, _⟩ := hu4.shape
      (repeat (first | refine s_p ?_ | refine s_c (by omega) ?_ | refine S.ld ?_ | refine S.ldB ?_ | refine S.ce ?_ | refine S.ceB ?_ | refine s_q ?_ | refine s_qc (by omega) ?_ | refine n_some ?_ | rw [List.getD_cons_zero] | rw [List.getD_cons_succ]))
      refine S.al fun b7 w12 S => ?_
      refine S.stB fun w13 S => ?_
      exact hK11 _ _ ⟨rfl, _, inferInstance, S.drop b7⟩
    · refine S.al fun b7 w12 S => ?_
      refine c_cert_Read (s := s1.take 9 ++ [96] ++ s1.drop 10) S.holds hl2 fun v4 sh4 sw4 w11 e11 n11 m11 _ _ hv4 => ?_
      rw [read_s2] at hv4 ⊢
      obtain ⟨S, _, _⟩ := S.tell e11 (n11.or m11)
      obtain ⟨u4, rfl, hu4⟩ := hv4
      obtain ⟨q4, k4, rfl, _⟩ := hu4.shape
      (repeat (first | refine s_p ?_ | refine s_c (by omega) ?_ | refine S.ld ?_ | refine S.ldB ?_ | refine S.ce ?_ | refine S.ceB ?_ | refine s_q ?_ | refine s_qc (by omega) ?_ | refine n_some ?_ | rw [List.getD_cons_zero] | rw [List.getD_cons_succ]))
      refine S.stB fun w13 S => ?_
      exact hK11 _ _ ⟨rfl, _, inferInstance, S.drop b7⟩
  repeat clear S
  rintro _ w14 ⟨rfl, rr2, l2, S⟩ d14
  have gc : CertG rr2 _ c1 := gc.up
  have gv : CertG rr2 _ c1 := gv.up
  have hT : Ob rr2 Tab := (hT.up (s := rr)).up
  refine c_cert_Heads (s := s1) S.holds (by decide) fun v5 sn5 w15 e15 n15 hv5 => ?_
  rw [readH_s1] at hv5 ⊢
  obtain ⟨S, _, _⟩ := S.tell e15 n15
  obtain ⟨p5, k5, rfl, _⟩ := hv5.shape
  obtain ⟨b6, off6, cc6, rfl, hcl6, hR6, hcell6⟩ := SlG.get (by decide) hv5 (i := 0) (by decide)
  obtain rfl : cc6 = numsV h1 := hR6
  (repeat (first | refine s_p ?_ | refine s_c (by omega) ?_ | refine S.ld ?_ | refine S.ldB ?_ | refine S.ce ?_ | refine S.ceB ?_ | refine s_q ?_ | refine s_qc (by omega) ?_ | refine n_some ?_ | rw [List.getD_cons_zero] | rw [List.getD_cons_succ]))
  refine j_borH (c := false) (fun _ K6 hK6 => by (repeat (first | refine s_p ?_ | refine s_c (by omega) ?_ | refine S.ld ?_ | refine S.ldB ?_ | refine S.ce ?_ | refine S.ceB ?_ | refine s_q ?_ | refine s_qc (by omega) ?_ | refine n_some ?_ | rw [List.getD_cons_zero] | rw [List.getD_cons_succ])); exact hK6) ?_
  refine j_borH (c := false) (fun _ K6 hK6 => by (repeat (first | refine s_p ?_ | refine s_c (by omega) ?_ | refine S.ld ?_ | refine S.ldB ?_ | refine S.ce ?_ | refine S.ceB ?_ | refine s_q ?_ | refine s_qc (by omega) ?_ | refine n_some ?_ | rw [List.getD_cons_zero] | rw [List.getD_cons_succ])); exact hK6) ?_
  refine j_orX (R := fun x w' => x = false ∧ St w (rr2.or sn5) w' (.cell b4 [.slice q3 c1.length k3] 24 :: .cell b1 [.slice (some ⟨b21, 0, none⟩) 1 1] 24 :: [])) (fun hh => by cases hh) (fun _ K6 hK6 => ?_) (fun x w16 hx => ?_)
  · (repeat (first | refine s_p ?_ | refine s_c (by omega) ?_ | refine S.ld ?_ | refine S.ldB ?_ | refine S.ce ?_ | refine S.ceB ?_ | refine s_q ?_ | refine s_qc (by omega) ?_ | refine n_some ?_ | rw [List.getD_cons_zero] | rw [List.getD_cons_succ]))
    refine c_cert_Same S.holds hT.up gc.up gv.up csm_c1 csm_c1 fun w17 e17 => ?_
    have S := S.go e17
    rw [same_c1]
    (first | refine s_p ?_ | refine s_c (by omega) ?_)
    exact hK6 _ _ ⟨rfl, S⟩
  obtain ⟨rfl, S⟩ := hx
  refine j_borH (c := false) (fun _ K6 hK6 => by (repeat (first | refine s_p ?_ | refine s_c (by omega) ?_ | refine S.ld ?_ | refine S.ldB ?_ | refine S.ce ?_ | refine S.ceB ?_ | refine s_q ?_ | refine s_qc (by omega) ?_ | refine n_some ?_ | rw [List.getD_cons_zero] | rw [List.getD_cons_succ])); exact hK6) ?_
  refine j_borH (c := false) (fun _ K6 hK6 => by (repeat (first | refine s_p ?_ | refine s_c (by omega) ?_ | refine S.ld ?_ | refine S.ldB ?_ | refine S.ce ?_ | refine S.ceB ?_ | refine s_q ?_ | refine s_qc (by omega) ?_ | refine n_some ?_ | rw [List.getD_cons_zero] | rw [List.getD_cons_succ])); exact hK6) ?_
  refine j_borH (c := false) (fun _ K6 hK6 => by (repeat (first | refine s_p ?_ | refine s_c (by omega) ?_ | refine S.ld ?_ | refine S.ldB ?_ | refine S.ce ?_ | refine S.ceB ?_ | refine s_q ?_ | refine s_qc (by omega) ?_ | refine n_some ?_ | rw [List.getD_cons_zero] | rw [List.getD_cons_succ])); exact hK6) ?_
  refine j_borH (c := false) (fun _ K6 hK6 => by (repeat (first | refine s_p ?_ | refine s_c (by omega) ?_ | refine S.ld ?_ | refine S.ldB ?_ | refine S.ce ?_ | refine S.ceB ?_ | refine s_q ?_ | refine s_qc (by omega) ?_ | refine n_some ?_ | rw [List.getD_cons_zero] | rw [List.getD_cons_succ])); exact hK6) ?_
  refine j_borH (c := false) (fun _ K6 hK6 => ?_) ?_
  · refine s_c ⟨by decide, by decide⟩ ?_
    (first | refine s_p ?_ | refine s_c (by omega) ?_)
    refine s_ld1 (S.at (hcell6 6 _ rfl)) ?_
    (repeat (first | refine s_p ?_ | refine s_c (by omega) ?_ | refine S.ld ?_ | refine S.ldB ?_ | refine S.ce ?_ | refine S.ceB ?_ | refine s_q ?_ | refine s_qc (by omega) ?_ | refine n_some ?_ | rw [List.getD_cons_zero] | rw [List.getD_cons_succ]))
    exact hK6
  refine c_f rfl ?_
  refine s_c ⟨by decide, by decide⟩ ?_
  refine s_ldN (n := 7) hcl6 (fun j v hj => S.at (hcell6 j v hj)) ?_
  refine c_cert_Fn (s := s1) (hd := h1) S.holds (by decide) rfl fun c7 sh7 sw7 w18 e18 n18 m18 _ _ hf7 => ?_
  rw [fn_s1] at hf7 ⊢
  obtain ⟨S, _, _⟩ := S.tell e18 (n18.or m18)
  obtain ⟨x1, x2, x3, rfl, y1, y2, y3⟩ := hf7
  obtain ⟨z1, k1, rfl, _⟩ := y1.shape
  obtain ⟨z2, k2, rfl, _⟩ := y2.shape
  obtain ⟨z3, k3', rfl, _⟩ := y3.shape
  (repeat (first | refine s_p ?_ | refine s_c (by omega) ?_ | refine S.ld ?_ | refine S.ldB ?_ | refine S.ce ?_ | refine S.ceB ?_ | refine s_q ?_ | refine s_qc (by omega) ?_ | refine n_some ?_ | rw [List.getD_cons_zero] | rw [List.getD_cons_succ]))
  refine S.al fun b13 w19 S => ?_
  refine S.stB fun w20 S => ?_
  (repeat (first | refine s_p ?_ | refine s_c (by omega) ?_ | refine S.ld ?_ | refine S.ldB ?_ | refine S.ce ?_ | refine S.ceB ?_ | refine s_q ?_ | refine s_qc (by omega) ?_ | refine n_some ?_ | rw [List.getD_cons_zero] | rw [List.getD_cons_succ]))
  refine c_cert_Own S.holds gc.up csm_c1.1 csm_c1.2 (fun w21 hn => absurd may_c1 hn) fun v8 sh8 sw8 w21 _ e21 n21 m21 _ _ hv8 => ?_
  obtain ⟨S, _, _⟩ := S.tell e21 (n21.or m21)
  have gv8 := hv8.g
  obtain ⟨u8', rfl, hu8⟩ := hv8
  obtain ⟨q8, k8, rfl, _⟩ := hu8.shape
  (repeat (first | refine s_p ?_ | refine s_c (by omega) ?_ | refine S.ld ?_ | refine S.ldB ?_ | refine S.ce ?_ | refine S.ceB ?_ | refine s_q ?_ | refine s_qc (by omega) ?_ | refine n_some ?_ | rw [List.getD_cons_zero] | rw [List.getD_cons_succ]))
  refine S.al fun b16 w22 S => ?_
  refine S.stB fun w23 S => ?_
  (repeat (first | refine s_p ?_ | refine s_c (by omega) ?_ | refine S.ld ?_ | refine S.ldB ?_ | refine S.ce ?_ | refine S.ceB ?_ | refine s_q ?_ | refine s_qc (by omega) ?_ | refine n_some ?_ | rw [List.getD_cons_zero] | rw [List.getD_cons_succ]))
  refine j_bandH (c := true) (fun _ K6 hK6 => by (repeat (first | refine s_p ?_ | refine s_c (by omega) ?_ | refine S.ld ?_ | refine S.ldB ?_ | refine S.ce ?_ | refine S.ceB ?_ | refine s_q ?_ | refine s_qc (by omega) ?_ | refine n_some ?_ | rw [List.getD_cons_zero] | rw [List.getD_cons_succ])); exact hK6) ?_
  refine j_bandH (c := true) (fun _ K6 hK6 => by (repeat (first | refine s_p ?_ | refine s_c (by omega) ?_ | refine S.ld ?_ | refine S.ldB ?_ | refine S.ce ?_ | refine S.ceB ?_ | refine s_q ?_ | refine s_qc (by omega) ?_ | refine n_some ?_ | rw [List.getD_cons_zero] | rw [List.getD_cons_succ])); exact hK6) ?_
  obtain ⟨rr3, L3, hL3, S, l3', gv8⟩ : ∃ rr3 L3, L3 = (.cell b16 [.slice q8 c1.length k8] 24 :: .cell b13 [.slice z1 f1.rows.length k1, .slice z2 f1.ranges.length k2, .slice z3 f1.moves.length k3'] 50 :: .cell b4 [.slice q3 c1.length k3] 24 :: .cell b1 [.slice (some ⟨b21, 0, none⟩) 1 1] 24 :: []) ∧ St w rr3 w23 L3 ∧ Le rr2 rr3 ∧ CertG rr3 (.agg #[.slice q8 c1.length k8]) c1 := ⟨_, _, rfl, S, inferInstance, gv8.up⟩
  have hT : Ob rr3 Tab := hT.up
  have gc : CertG rr3 (.agg #[.slice (some ⟨b21, 0, none⟩) 1 1]) c1 := gc.up
  refine j_andX (R := fun x w' => x = true ∧ St w rr3 w' L3) (fun hh => by cases hh) (fun _ K6 hK6 => ?_) (fun x w24 hx => ?_)
  · subst hL3
    (repeat (first | refine s_p ?_ | refine s_c (by omega) ?_ | refine S.ld ?_ | refine S.ldB ?_ | refine S.ce ?_ | refine S.ceB ?_ | refine s_q ?_ | refine s_qc (by omega) ?_ | refine n_some ?_ | rw [List.getD_cons_zero] | rw [List.getD_cons_succ]))
    refine c_cert_Same S.holds hT gv8 gc csm_c1 csm_c1 fun w25 e25 => ?_
    have S := S.go e25
    rw [same_c1]
    exact hK6 _ _ ⟨rfl, S⟩
  obtain ⟨rfl, S⟩ := hx
  refine j_andX (R := fun x w' => x = true ∧ St w rr3 w' L3) (fun hh => by cases hh) (fun _ K6 hK6 => ?_) (fun x w25 hx => ?_)
  · subst hL3
    (repeat (first | refine s_p ?_ | refine s_c (by omega) ?_ | refine S.ld ?_ | refine S.ldB ?_ | refine S.ce ?_ | refine S.ceB ?_ | refine s_q ?_ | refine s_qc (by omega) ?_ | refine n_some ?_ | rw [List.getD_cons_zero] | rw [List.getD_cons_succ]))
    refine c_cert_May S.holds gc csm_c1.1 (fun f hf => (csm_c1.2 f hf).len) fun w26 e26 => ?_
    have S := S.go e26
    rw [mayB_c1]
    exact hK6 _ _ ⟨rfl, S⟩
  obtain ⟨rfl, S⟩ := hx
  refine j_andX (R := fun x w' => x = true ∧ St w rr3 w' L3) (fun hh => by cases hh) (fun _ K6 hK6 => ?_) (fun x w26 hx => ?_)
  · subst hL3
    (repeat (first | refine s_p ?_ | refine s_c (by omega) ?_ | refine S.ld ?_ | refine S.ldB ?_ | refine S.ce ?_ | refine S.ceB ?_ | refine s_q ?_ | refine s_qc (by omega) ?_ | refine n_some ?_ | rw [List.getD_cons_zero] | rw [List.getD_cons_succ]))
    refine c_cert_Size S.holds gc csm_c1 fun w27 e27 => ?_
    have S := S.go e27
    rw [size_c1]
    (first | refine s_p ?_ | refine s_c (by omega) ?_)
    exact hK6 _ _ ⟨rfl, S⟩
  obtain ⟨rfl, S⟩ := hx
  exact h _ S.ext
end

end Go.Proofs
end

section
namespace Go.Proofs

open Go.Sh Go.BM

set_option maxRecDepth 100000

set_option linter.unusedSimpArgs false

set_option linter.unusedVariables false

theorem readC_bad {s : List UInt8} {a : Nat} (hl : s.length ≤ 8388608) (h : certR true s = (a, none)) : readC s = ([], a, 200) := by rw [readC, if_neg (by omega), h]
theorem readC_ok {s : List UInt8} {b : Nat} {l : List FnR} (hl : s.length ≤ 8388608) (h : certR true s = (b, some l)) : readC s = (l.map FnR.fn, 0, 0) := by rw [readC, if_neg (by omega), h]
theorem certR_cases (st : Bool) (s : List UInt8) : (∃ a, certR st s = (a, none) ∧ a ≤ s.length) ∨ ∃ b l, certR st s = (b, some l) := by
  have hle := certR_le (st := st) (s := s)
  cases h : certR st s with
  | mk a o =>
    rw [h] at hle
    cases o with
    | none => exact .inl ⟨a, rfl, hle⟩
    | some l => exact .inr ⟨a, l, rfl⟩
section

variable {w0 w : World} {r : Gh} {K : Value → World → Prop}

/-- awake, as the last of what is asked -/
theorem k_awake {w9 : World} {rr : Gh} {L : List Asr} {K9 : Value → World → Prop} (S : StX noX w rr w9 L) (hT : Ob r Tab) (le : Le r rr) (hK : ∀ w', Ext w w' → K9 (.bool true) w') : oCall Tryd.prog Tryd.n_law20_awake #[] w9 K9 :=
  c_law20_awake S.holds hT.up fun w' e' => hK w' (S.go e').ext
theorem c_law20_CertGoes {s m : List UInt8} (hr : Holds r w) (hT : Ob r Tab) (hl : s.length + m.length ≤ 9223372036854775807) (h : ∀ w', Ext w w' → K (.bool true) w') : oCall Tryd.prog Tryd.n_law20_CertGoes #[.string (bs s), .string (bs m)] w K := by
  refine Tryd.ok_law20_CertGoes ?_
  unfold Tryd.F_law20_CertGoes
  have S := St.start hr
  (first | refine s_p ?_ | refine s_c (by omega) ?_); (first | refine s_p ?_ | refine s_c (by omega) ?_)
  refine s_c (by omega) ?_
  (first | refine s_p ?_ | refine s_c (by omega) ?_)
  refine c_if (fun hbig => k_awake S hT inferInstance h) (fun hsm => ?_)
  have hsl : s.length + m.length ≤ 65536 := by omega
  refine c_cert_Read (s := s) S.holds (by omega) fun v3 sh3 sw3 w8 e8 n8 m8 _ _ hv3 => ?_
  obtain ⟨S, _, _⟩ := S.tell e8 (n8.or m8)
  obtain ⟨u3, rfl, hu3⟩ := hv3
  obtain ⟨q3, k3, rfl, _⟩ := hu3.shape
  (repeat (first | refine s_p ?_ | refine s_c (by omega) ?_ | refine S.ld ?_ | refine S.ldB ?_ | refine S.ce ?_ | refine S.ceB ?_ | refine s_q ?_ | refine s_qc (by omega) ?_ | refine n_some ?_ | rw [List.getD_cons_zero] | rw [List.getD_cons_succ]))
  refine S.al fun b5 w9 S => ?_
  refine S.stB fun w10 S => ?_
  rcases certR_cases true s with ⟨a, hc, ha⟩ | ⟨b, l, hc⟩
  rotate_left
  · rw [readC_ok (by omega) hc]
    (first | refine s_p ?_ | refine s_c (by omega) ?_)
    refine c_t rfl ?_
    exact k_awake S hT inferInstance h
  rw [readC_bad (by omega) hc]
  dsimp only
  (first | refine s_p ?_ | refine s_c (by omega) ?_)
  refine c_f rfl ?_
  (first | refine s_p ?_ | refine s_c (by omega) ?_)
  refine j_borH (c := false) (fun _ K6 hK6 => ?_) ?_
  · (first | refine s_p ?_ | refine s_c (by omega) ?_)
    rw [decide_eq_false (by omega)]
    exact hK6
  refine j_borH (c := false) (fun _ K6 hK6 => ?_) ?_
  · (first | refine s_p ?_ | refine s_c (by omega) ?_); (first | refine s_p ?_ | refine s_c (by omega) ?_)
    rw [decide_eq_false (by omega)]
    exact hK6
  refine c_f rfl ?_
  (first | refine s_p ?_ | refine s_c (by omega) ?_); (first | refine s_p ?_ | refine s_c (by omega) ?_)
  refine c_if (fun hlt => ?_) (fun hge => ?_)
  · have hlt : a < s.length := by omega
    refine s_c (by omega) ?_
    refine s_c (by omega) ?_
    rw [show ((a : Int) + 1).toNat = a + 1 by omega]
    refine s_c (by rw [List.length_take]; omega) ?_
    refine c_cert_Read (s := s.take (a + 1) ++ m) S.holds (by rw [List.length_append, List.length_take]; omega) fun v4 sh4 sw4 w11 e11 n11 m11 _ _ hv4 => ?_
    rw [readC_bad (by rw [List.length_append, List.length_take]; omega) (cert_goes hc hlt m)] at hv4 ⊢
    dsimp only
    obtain ⟨S, _, _⟩ := S.tell e11 (n11.or m11)
    obtain ⟨u4, rfl, hu4⟩ := hv4
    obtain ⟨q4, k4, rfl, _⟩ := hu4.shape
    (repeat (first | refine s_p ?_ | refine s_c (by omega) ?_ | refine S.ld ?_ | refine S.ldB ?_ | refine S.ce ?_ | refine S.ceB ?_ | refine s_q ?_ | refine s_qc (by omega) ?_ | refine n_some ?_ | rw [List.getD_cons_zero] | rw [List.getD_cons_succ]))
    refine S.al fun b8 w12 S => ?_
    refine S.stB fun w13 S => ?_
    (first | refine s_p ?_ | refine s_c (by omega) ?_)
    refine j_bandH (c := true) (fun _ K6 hK6 => ?_) ?_
    · (first | refine s_p ?_ | refine s_c (by omega) ?_)
      rw [decide_eq_true rfl]
      exact hK6
    refine j_andX (R := fun x w' => x = true ∧ Ext w w') (fun hh => by cases hh) (fun _ K6 hK6 => k_awake S hT inferInstance fun w' e => hK6 _ _ ⟨rfl, e⟩) (fun x w24 hx => ?_)
    obtain ⟨rfl, e⟩ := hx
    exact h _ e
  · have hal : a = s.length := by omega
    subst hal
    obtain ⟨rr, S, le⟩ : ∃ rr, St w rr w10 [] ∧ Le r rr := ⟨_, S.tl, inferInstance⟩
    refine l_intro (ι := Nat) (fun i => [.int .i64 i]) (fun i w' => i ≤ 2 * s.length + 1 ∧ ∃ rr, St w rr w' [] ∧ Le r rr) (fun i => 2 * s.length + 1 - i) 0 rfl ⟨Nat.zero_le _, rr, S, le⟩ ?_
    repeat clear S
    rintro i d w11 ⟨hi, rr, S, le⟩ K2 hK2
    simp only [List.getD_cons_zero]
    (first | refine s_p ?_ | refine s_c (by omega) ?_); (first | refine s_p ?_ | refine s_c (by omega) ?_)
    refine c_if (fun hlt => ?_) (fun hge => k_awake S hT le h)
    have hlt : i < s.length := by omega
    refine s_c (by omega) ?_
    rw [Int.toNat_natCast]
    refine c_cert_Read (s := s.take i) S.holds (by rw [List.length_take]; omega) fun v4 sh4 sw4 w11 e11 n11 m11 _ _ hv4 => ?_
    rw [readC_bad (by rw [List.length_take]; omega) (cert_begins hc hlt)] at hv4 ⊢
    dsimp only
    obtain ⟨S, _, _⟩ := S.tell e11 (n11.or m11)
    obtain ⟨u4, rfl, hu4⟩ := hv4
    obtain ⟨q4, k4, rfl, _⟩ := hu4.shape
    (repeat (first | refine s_p ?_ | refine s_c (by omega) ?_ | refine S.ld ?_ | refine S.ldB ?_ | refine S.ce ?_ | refine S.ceB ?_ | refine s_q ?_ | refine s_qc (by omega) ?_ | refine n_some ?_ | rw [List.getD_cons_zero] | rw [List.getD_cons_succ]))
    refine S.al fun b8 w12 S => ?_
    refine S.stB fun w13 S => ?_
    (first | refine s_p ?_ | refine s_c (by omega) ?_)
    refine j_borH (c := false) (fun _ K6 hK6 => ?_) ?_
    · (first | refine s_p ?_ | refine s_c (by omega) ?_)
      rw [decide_eq_false (by simp)]
      exact hK6
    refine c_f rfl ?_
    (first | refine s_p ?_ | refine s_c (by omega) ?_)
    refine s_c (by omega) ?_
    refine s_c (by omega) ?_
    refine s_c (by omega) ?_
    rw [show (i : Int) + (1 + (s.length : Int) / 20) = ((i + (1 + s.length / 20) : Nat) : Int) by omega]
    exact hK2 _ _ ⟨by omega, _, S.tl, inferInstance⟩ (by omega)
end

end Go.Proofs
end

section
namespace Go.Proofs

open Go.Sh Go.BM

set_option maxRecDepth 100000

set_option linter.unusedSimpArgs false

set_option linter.unusedVariables false

/-! ### Each function is read where its head says -/

theorem rep_each {st : Bool} {s : List UInt8} : ∀ (n i a b : Nat) (l : List FnR), a ≤ s.length → rd (repG (fun _ => fnG st) i n) s a = (b, some l) → ∀ f ∈ l, ∃ b', rd (fnG st) s f.at' = (b', some f)
  | 0, i, a, b, l, ha, h, f, hf => by
    rw [repG, rd_ret] at h
    cases h; cases hf
  | n + 1, i, a, b, l, ha, h, f, hf => by
    rw [repG, rd_bind] at h
    have hle := rd_le (G := fnG st) ha
    cases hx : rd (fnG st) s a with
    | mk b1 o =>
      rw [hx] at h hle
      cases o with
      | none => simp [bd] at h
      | some g =>
        simp only [bd] at h
        rw [rd_bind] at h
        cases hy : rd (repG (fun _ => fnG st) (i + 1) n) s b1 with
        | mk b2 o2 =>
          rw [hy] at h
          cases o2 with
          | none => simp [bd] at h
          | some l' =>
            simp only [bd, rd_ret, Prod.mk.injEq, Option.some.injEq] at h
            obtain ⟨rfl, rfl⟩ := h
            rcases List.mem_cons.1 hf with rfl | hf
            · obtain ⟨m, _, ⟨hat, _⟩, _⟩ := rd_gives gives_fn hx
              rw [hat]; exact ⟨b1, hx⟩
            · exact rep_each n (i + 1) b1 b2 l' hle.2 hy f hf
theorem cert_each {st : Bool} {s : List UInt8} {p : Nat} {l : List FnR} (h : certR st s = (p, some l)) : ∀ f ∈ l, ∃ b', rd (fnG st) s f.at' = (b', some f) := by
  have hrd : rd (certG st) s 0 = (p, some l) := by
    unfold certR at h
    rw [rd, List.drop_zero]
    split at h
    · rename_i b v hr
      split at h
      · cases h
      · cases h; exact hr
    · cases h
  rw [rd_cert] at hrd
  have key : ∀ {α : Type} {x : Rd' α} {f : α → Nat → Rd' (List FnR)}, bd x f = (p, some l) → ∃ b v, x = (b, some v) ∧ f v b = (p, some l) := by
    intro α x f hx
    obtain ⟨b, o⟩ := x
    cases o with
    | none => cases hx
    | some v => exact ⟨b, v, rfl, hx⟩
  obtain ⟨b1, _, e1, h1⟩ := key hrd
  obtain ⟨b2, _, e2, h2⟩ := key h1
  obtain ⟨b3, _, e3, h3⟩ := key h2
  obtain ⟨b4, _, e4, h4⟩ := key h3
  obtain ⟨b5, n, e5, h5⟩ := key h4
  have l1 := (rd_le (G := oneG 76 76) (Nat.zero_le s.length)).2
  rw [e1] at l1
  have l2 := (rd_le (G := oneG 87 87) l1).2
  rw [e2] at l2
  have l3 := (rd_le (G := oneG 67 67) l2).2
  rw [e3] at l3
  have l4 := (rd_le (G := oneG 1 1) l3).2
  rw [e4] at l4
  have l5 := (rd_le (G := oneG 1 32) l4).2
  rw [e5] at l5
  exact rep_each _ _ _ _ _ l5 h5
theorem firstBad_snoc {s : List UInt8} {f : FnR} : ∀ l : List FnR, firstBad s (l ++ [f]) = match firstBad s l with | some k => some k | none => (match rd (fnG true) s f.at' with | (k, none) => some k | (_, some _) => none)
  | [] => by
    simp only [List.nil_append, firstBad]
    split <;> simp_all
  | g :: l => by
    simp only [List.cons_append, firstBad]
    split
    · rfl
    · exact firstBad_snoc l
theorem may_csm {c : List FnD} (h : MayC c) : CSm c := by
  refine ⟨by have := h.2.1; omega, fun f hf => ?_⟩
  have hm := h.2.2 f hf
  have key : ∀ {l : List RowD} {n : Nat}, n ≤ 512 → GoodL l n → RwSm l := fun hn hg => ⟨by have := hg.1; omega, fun x hx => by have := may_length (hg.2 x hx).1; omega⟩
  exact ⟨key (by decide) hm.1, key (by decide) hm.2.1, key (by decide) hm.2.2⟩
theorem same_self {c : List FnD} (h : MayC c) : sameC c c = true := by simp [sameC, mayCB_iff.2 h]
section

variable {w0 w : World} {r : Gh} {K : Value → World → Prop}

theorem c_law20_CertParts {s : List UInt8} (hr : Holds r w) (hT : Ob r Tab) (hl : s.length ≤ 9223372036854775807) (h : ∀ w', Ext w w' → K (.bool true) w') : oCall Tryd.prog Tryd.n_law20_CertParts #[.string (bs s)] w K := by
  refine Tryd.ok_law20_CertParts ?_
  unfold Tryd.F_law20_CertParts
  have S := St.start hr
  (first | refine s_p ?_ | refine s_c (by omega) ?_); (first | refine s_p ?_ | refine s_c (by omega) ?_)
  refine c_if (fun hbig => k_awake S hT inferInstance h) (fun hsm => ?_)
  have hsl : s.length ≤ 65536 := by omega
  refine c_cert_Read (s := s) S.holds (by omega) fun v3 sh3 sw3 w8 e8 n8 m8 _ _ hv3 => ?_
  obtain ⟨S, _, _⟩ := S.tell e8 (n8.or m8)
  have gv3 := hv3.g
  obtain ⟨u3, rfl, hu3⟩ := hv3
  obtain ⟨q3, k3, rfl, _⟩ := hu3.shape
  (repeat (first | refine s_p ?_ | refine s_c (by omega) ?_ | refine S.ld ?_ | refine S.ldB ?_ | refine S.ce ?_ | refine S.ceB ?_ | refine s_q ?_ | refine s_qc (by omega) ?_ | refine n_some ?_ | rw [List.getD_cons_zero] | rw [List.getD_cons_succ]))
  refine S.al fun b3 w9 S => ?_
  refine S.stB fun w10 S => ?_
  have S : St w _ w10 (.cell b3 [.slice q3 (readC s).1.length k3] 24 :: []) := S
  refine c_cert_Heads S.holds (by omega) fun v5 sn5 w15 e15 n15 hv5 => ?_
  obtain ⟨S, _, _⟩ := S.tell e15 n15
  obtain ⟨rr, S, le, gv3, hv5⟩ : ∃ rr, St w rr w15 (.cell b3 [.slice q3 (readC s).1.length k3] 24 :: []) ∧ Le r rr ∧ CertG rr (.agg #[.slice q3 (readC s).1.length k3]) (readC s).1 ∧ HeadsG rr v5 (readH s).1 := ⟨_, S, inferInstance, gv3.up, SlG.cells hv5⟩
  rcases certR_cases false s with ⟨p, hc, hp⟩ | ⟨p, L, hc⟩
  · -- where the heads stop the whole stops, no further
    obtain ⟨a, hct, hap⟩ := cert_loose hc
    have eH : readH s = ([], p, 200) := by rw [readH, if_neg (by omega), hc]
    have eC : readC s = ([], a, 200) := readC_bad (by omega) hct
    rw [eC] at S gv3 ⊢
    rw [eH] at hv5 ⊢
    dsimp only
    (repeat (first | refine s_p ?_ | refine s_c (by omega) ?_ | refine S.ld ?_ | refine S.ldB ?_ | refine S.ce ?_ | refine S.ceB ?_ | refine s_q ?_ | refine s_qc (by omega) ?_ | refine n_some ?_ | rw [List.getD_cons_zero] | rw [List.getD_cons_succ]))
    refine j_bandH (c := true) (fun _ K6 hK6 => ?_) ?_
    · (first | refine s_p ?_ | refine s_c (by omega) ?_)
      rw [decide_eq_true (by omega)]
      exact hK6
    refine j_andX (R := fun x w' => x = true ∧ Ext w w') (fun hh => by cases hh) (fun _ K6 hK6 => k_awake S hT le fun w' e => hK6 _ _ ⟨rfl, e⟩) (fun x w24 hx => ?_)
    obtain ⟨rfl, e⟩ := hx
    exact h _ e
  obtain ⟨hct, hps, hok⟩ := cert_parts hc
  have heach := cert_each hc
  have eH : readH s = (L.map headD, 0, 0) := by rw [readH, if_neg (by omega), hc]
  rw [eH] at hv5 ⊢
  dsimp only
  have hfn : ∀ f ∈ L, fnC s (headD f) = match rd (fnG true) s f.at' with | (_, some g) => (g.fn, 0, 0) | (k, none) => (fn0, k, 200) := fun f hf => by
    have hat : atOf (headD f) = f.at' := by show ((f.at' + 4 : Nat) : Int).toNat - 4 = _; omega
    rw [fnC, eH, if_neg (show ¬ (0 : Nat) = 3 by decide), if_pos (List.mem_map.2 ⟨f, hf, rfl⟩), hat] <;> rfl
  have hL32 : L.length ≤ 32 := by
    have := heads_le s
    rw [eH] at this
    simpa using this
  have hv50 := hv5
  obtain ⟨p5, k5, rfl, _⟩ := hv5.shape
  rw [List.length_map] at *
  (repeat (first | refine s_p ?_ | refine s_c (by omega) ?_ | refine S.ld ?_ | refine S.ldB ?_ | refine S.ce ?_ | refine S.ceB ?_ | refine s_q ?_ | refine s_qc (by omega) ?_ | refine n_some ?_ | rw [List.getD_cons_zero] | rw [List.getD_cons_succ]))
  refine S.al fun b9 w16 S => ?_
  have S := S.ownNil 50 3
  refine l_intro (ι := Int × Nat) (fun i => [.int .i64 i.1, .int .i64 i.2])
    (fun i w' => ∃ v xs sn dl, i.2 ≤ L.length ∧ List.length dl = i.2 ∧ St w (rr.or sn) w' (.row v 50 3 i.2 xs :: .cell b9 [v] 24 :: .cell b3 [.slice q3 (readC s).1.length k3] 24 :: []) ∧ Above w sn ∧ RowOf 3 (FnC sn) xs dl ∧
      i.1 = (match firstBad s (L.take i.2) with | some k => (k : Int) | none => -1) ∧ (firstBad s (L.take i.2) = none → dl = (L.take i.2).map FnR.fn))
    (fun i => L.length - i.2) (-1, 0) rfl ⟨.slice none 0 0, [], nothing, [], Nat.zero_le _, rfl, S.new (Ext.refl _) New.nothing, .no, .nil, rfl, fun _ => rfl⟩ ?_
  repeat clear S
  rintro ⟨first, i⟩ d17 w17 ⟨v, xs, sn, dl, hi, hdl, S, hab, hxs, hfirst, hgood⟩ K17 hK17
  simp only at hi hdl S hfirst hgood ⊢
  simp only [List.getD_cons_zero, List.getD_cons_succ]
  (first | refine s_p ?_ | refine s_c (by omega) ?_); (first | refine s_p ?_ | refine s_c (by omega) ?_)
  refine c_if (fun hlt => ?_) (fun hge => ?_)
  rotate_left
  · -- all functions have been told
    have hin : i = L.length := by omega
    rw [hin, List.take_length] at hfirst hgood
    cases hfb : firstBad s L with
    | some k =>
      rw [hfb] at hfirst hct
      simp only at hfirst hct
      subst hfirst
      have eC : readC s = ([], k, 200) := readC_bad (by omega) hct
      rw [eC]
      dsimp only
      (first | refine s_p ?_ | refine s_c (by omega) ?_)
      refine c_t (decide_eq_true (by omega)) ?_
      (first | refine s_p ?_ | refine s_c (by omega) ?_)
      refine j_bandH (c := true) (fun _ K6 hK6 => ?_) ?_
      · (first | refine s_p ?_ | refine s_c (by omega) ?_)
        rw [decide_eq_true rfl]
        exact hK6
      refine j_andX (R := fun x w' => x = true ∧ Ext w w') (fun hh => by cases hh) (fun _ K6 hK6 => k_awake S hT inferInstance fun w' e => hK6 _ _ ⟨rfl, e⟩) (fun x w24 hx => ?_)
      obtain ⟨rfl, e⟩ := hx
      exact h _ e
    | none =>
      rw [hfb] at hfirst hct
      simp only at hfirst hct
      subst hfirst
      have eC : readC s = (L.map FnR.fn, 0, 0) := readC_ok (by omega) hct
      have hm : MayC (L.map FnR.fn) := (cert_back hct).1
      have hd := hgood hfb
      rw [eC] at S gv3 ⊢
      dsimp only
      (first | refine s_p ?_ | refine s_c (by omega) ?_)
      refine c_f rfl ?_
      (first | refine s_p ?_ | refine s_c (by omega) ?_)
      refine j_bandH (c := true) (fun _ K6 hK6 => by (repeat (first | refine s_p ?_ | refine s_c (by omega) ?_ | refine S.ld ?_ | refine S.ldB ?_ | refine S.ce ?_ | refine S.ceB ?_ | refine s_q ?_ | refine s_qc (by omega) ?_ | refine n_some ?_ | rw [List.getD_cons_zero] | rw [List.getD_cons_succ])); exact hK6) ?_
      obtain ⟨s2, S', hsl, _, ha2⟩ := S.doneRow hxs (by decide) hdl.symm
      obtain ⟨p9, k9, rfl, _⟩ := hsl.shape
      have gd : CertG ((rr.or sn).or s2) (.agg #[.slice p9 dl.length k9]) (L.map FnR.fn) := by
        rw [← hd]
        exact ⟨_, rfl, hsl.up' inferInstance fun _ _ h => h.up⟩
      refine j_andX (R := fun x w' => x = true ∧ ∃ q, St w q w' [] ∧ Le r q) (fun hh => by cases hh) (fun _ K6 hK6 => ?_) (fun x w24 hx => ?_)
      · have S := S'
        (repeat (first | refine s_p ?_ | refine s_c (by omega) ?_ | refine S.ld ?_ | refine S.ldB ?_ | refine S.ce ?_ | refine S.ceB ?_ | refine s_q ?_ | refine s_qc (by omega) ?_ | refine n_some ?_ | rw [List.getD_cons_zero] | rw [List.getD_cons_succ]))
        refine c_cert_Same S.holds hT.up gv3.up gd (may_csm hm) (may_csm hm) fun w25 e25 => ?_
        rw [same_self hm]
        exact hK6 _ _ ⟨rfl, _, ((S.go e25).tl).tl, inferInstance⟩
      obtain ⟨rfl, q, S, leq⟩ := hx
      refine j_andX (R := fun x w' => x = true ∧ Ext w w') (fun hh => by cases hh) (fun _ K6 hK6 => k_awake S hT leq fun w' e => hK6 _ _ ⟨rfl, e⟩) (fun x w24 hx => ?_)
      obtain ⟨rfl, e⟩ := hx
      exact h _ e
  have hlt : i < L.length := by omega
  obtain ⟨b, off, cc, hcp, hcl, hR, hcell⟩ := SlG.get (by decide) hv50 (i := i) (by rw [List.length_map]; exact hlt)
  have hR : cc = numsV ((L.map headD)[i]'(by rw [List.length_map]; exact hlt)) := hR
  rw [List.getElem_map] at hR
  subst hR
  subst hcp
  (first | refine s_p ?_ | refine s_c (by omega) ?_)
  refine s_ldN (n := 7) hcl (fun j v hj => S.at (hcell j v hj)) ?_
  obtain ⟨bl, hbl⟩ := heach _ (List.getElem_mem hlt)
  refine c_cert_Fn (s := s) (hd := headD L[i]) S.holds (by omega) rfl fun c7 sh7 sw7 w18 e18 n18 m18 _ _ hf7 => ?_
  have hres : ∃ (ff : FnD) (k e : Nat), fnC s (headD L[i]) = (ff, k, e) ∧ ((e = 0 ∧ ff = L[i].fn ∧ firstBad s (L.take (i + 1)) = firstBad s (L.take i)) ∨
      (e = 200 ∧ L[i].at' + 4 ≤ k ∧ firstBad s (L.take (i + 1)) = some (match firstBad s (L.take i) with | some k' => k' | none => k))) := by
    rw [hfn _ (List.getElem_mem hlt), List.take_succ_eq_append_getElem hlt, firstBad_snoc]
    cases hx : rd (fnG true) s L[i].at' with
    | mk k o =>
      cases o with
      | some g =>
        have := (sub_fn (s.drop L[i].at') L[i].at').1 k g hx
        have hbl' : (fnG false).run (s.drop L[i].at') L[i].at' = (bl, some L[i]) := hbl
        rw [hbl'] at this
        cases this
        refine ⟨_, _, _, rfl, .inl ⟨rfl, rfl, ?_⟩⟩
        cases firstBad s (L.take i) <;> rfl
      | none =>
        refine ⟨_, _, _, rfl, .inr ⟨rfl, fn_stops hbl hx, ?_⟩⟩
        cases firstBad s (L.take i) <;> rfl
  obtain ⟨ff, kk, ee, hfc, hcase⟩ := hres
  rw [hfc] at hf7 ⊢
  dsimp only
  obtain ⟨S, _, ab7⟩ := S.tell e18 (n18.or m18)
  have gf7 := hf7.g
  obtain ⟨x1, x2, x3, rfl, y1, y2, y3⟩ := hf7
  obtain ⟨z1, k1, rfl, _⟩ := y1.shape
  obtain ⟨z2, k2, rfl, _⟩ := y2.shape
  obtain ⟨z3, k3', rfl, _⟩ := y3.shape
  (repeat (first | refine s_p ?_ | refine s_c (by omega) ?_ | refine S.ld ?_ | refine S.ldB ?_ | refine S.ce ?_ | refine S.ceB ?_ | refine s_q ?_ | refine s_qc (by omega) ?_ | refine n_some ?_ | rw [List.getD_cons_zero] | rw [List.getD_cons_succ]))
  refine S.al fun b12 w19 S => ?_
  refine S.stB fun w20 S => ?_
  obtain ⟨L3, hL3, T⟩ : ∃ L3, L3 = (.cell b12 [.slice z1 ff.rows.length k1, .slice z2 ff.ranges.length k2, .slice z3 ff.moves.length k3'] 50 :: .row v 50 3 i xs :: .cell b9 [v] 24 :: .cell b3 [.slice q3 (readC s).1.length k3] 24 :: []) ∧ St w ((rr.or sn).or (sh7.or sw7)) w20 L3 := ⟨_, rfl, S⟩
  refine j_intro (fun t w' => t = [.int .i64 (match firstBad s (L.take (i + 1)) with | some k => (k : Int) | none => -1)] ∧ St w ((rr.or sn).or (sh7.or sw7)) w' L3) (fun K23 hK23 => ?_) ?_
  · rcases hcase with ⟨rfl, rfl, hfb⟩ | ⟨rfl, hk4, hfb⟩
    · (first | refine s_p ?_ | refine s_c (by omega) ?_)
      refine c_f rfl ?_
      refine hK23 _ _ ⟨?_, T⟩
      rw [hfb, hfirst]
    · (first | refine s_p ?_ | refine s_c (by omega) ?_)
      refine c_t rfl ?_
      (first | refine s_p ?_ | refine s_c (by omega) ?_)
      refine j_borH (c := false) (fun _ K6 hK6 => ?_) ?_
      · (first | refine s_p ?_ | refine s_c (by omega) ?_); (first | refine s_p ?_ | refine s_c (by omega) ?_)
        refine s_ld1 (T.at (hcell 6 _ rfl)) ?_
        (first | refine s_p ?_ | refine s_c (by omega) ?_)
        rw [decide_eq_false (by omega)]
        exact hK6
      refine c_f rfl ?_
      (first | refine s_p ?_ | refine s_c (by omega) ?_)
      cases hfi : firstBad s (L.take i) with
      | some k' =>
        rw [hfi] at hfirst hfb
        simp only at hfirst hfb
        subst hfirst
        refine c_f (decide_eq_false (by omega)) ?_
        refine hK23 _ _ ⟨?_, T⟩
        rw [hfb]
      | none =>
        rw [hfi] at hfirst hfb
        simp only at hfirst hfb
        subst hfirst
        refine c_t (decide_eq_true (by omega)) ?_
        refine hK23 _ _ ⟨?_, T⟩
        rw [hfb]
  clear T
  repeat clear S
  rintro _ w21 ⟨rfl, S⟩ d21
  subst hL3
  rw [List.getD_cons_zero]
  (repeat (first | refine s_p ?_ | refine s_c (by omega) ?_ | refine S.ld ?_ | refine S.ldB ?_ | refine S.ce ?_ | refine S.ceB ?_ | refine s_q ?_ | refine s_qc (by omega) ?_ | refine n_some ?_ | rw [List.getD_cons_zero] | rw [List.getD_cons_succ]))
  refine S.lit (e := 50) (cs := [.slice z1 ff.rows.length k1, .slice z2 ff.ranges.length k2, .slice z3 ff.moves.length k3']) (by kernel_rfl) fun b20 w22 S => ?_
  refine S.ap (m' := 1) (Sl.blk (S.blk b20)) (fun v4 w23 S => ?_) (by omega) (hl := rfl)
  (first | refine s_p ?_ | refine s_c (by omega) ?_)
  refine S.st (h1 := S.row1 v4) fun w24 S => ?_
  (first | refine s_p ?_ | refine s_c (by omega) ?_)
  have S := (S.drop b20).drop b12
  refine hK17 (_, i + 1) _ ⟨v4, _, sn.or (sh7.or sw7), dl ++ [ff], hlt, by simp [hdl], S.reGh, hab.or' ab7, ?_, rfl, fun hn => ?_⟩ (by simp only; omega)
  · exact (hxs.mono fun _ _ h => h.up).snoc rfl gf7.up
  · rcases hcase with ⟨rfl, rfl, hfb⟩ | ⟨rfl, hk4, hfb⟩
    · rw [hfb] at hn
      rw [hgood hn, List.take_succ_eq_append_getElem hlt, List.map_append]
      rfl
    · rw [hfb] at hn; cases hn
end

end Go.Proofs
end

section
namespace Go.Proofs

open Go.Sh Go.BM

set_option maxRecDepth 100000

set_option linter.unusedSimpArgs false

set_option linter.unusedVariables false

theorem may_fsm {f : FnD} (hm : MayF f) : FnSm f := by
  have key : ∀ {l : List RowD} {n : Nat}, n ≤ 512 → GoodL l n → RwSm l := fun hn hg => ⟨by have := hg.1; omega, fun x hx => by have := may_length (hg.2 x hx).1; omega⟩
  exact ⟨key (by decide) hm.1, key (by decide) hm.2.1, key (by decide) hm.2.2⟩
theorem fn0_sm : FnSm fn0 := ⟨⟨by decide, by simp [fn0]⟩, ⟨by decide, by simp [fn0]⟩, ⟨by decide, by simp [fn0]⟩⟩
theorem fnC_sm (s : List UInt8) (hd : List Int) : FnSm (fnC s hd).1 := by
  unfold fnC
  split
  · exact fn0_sm
  · split
    · split
      · rename_i k f he
        obtain ⟨m, _, h1, _⟩ := rd_gives gives_fn he
        exact may_fsm (fn_back h1).1
      · exact fn0_sm
    · exact fn0_sm
theorem readC_sm (s : List UInt8) : CSm (readC s).1 := by
  unfold readC
  split
  · exact ⟨by decide, by simp⟩
  · split
    · rename_i b l he
      exact may_csm (cert_back he).1
    · exact ⟨Nat.zero_le _, by simp⟩
theorem eqF_self (f : FnD) : eqF f f = true := by simp [eqF]
section

variable {w0 w : World} {r q r3 sw : Gh} {L : List Asr} {K : Value → World → Prop} {va vb vc : Value} {c : List FnD}

/-- what was told twice is so, and stays when the one is written over -/
theorem k_heldC (S : St w0 r3 w L) [lq : Le q r3] [ls : Le sw r3] (hd : Dis q sw) (hab : Above w0 sw) (hao : ∃ u, va = .agg #[u] ∧ FnsO q sw u c) (hb : CertG q vb c) (hc : CertG q vc c) (hs : CSm c)
    (h : ∀ w', St w0 q w' L → K (.bool true) w') : oCall Tryd.prog Tryd.n_law20_held #[va, vb, vc] w K := by
  obtain ⟨u, rfl, hu⟩ := hao
  refine c_law20_held (q := q) (sw := sw) (S.holds.le (h := lq)) (S.holds.le (h := ls)) hd ⟨u, rfl, hu.g⟩ hu hb hc hs hs fun w' e hq => ?_
  rw [eqC_t rfl, Bool.true_and]
  refine h w' (S.but e (fun b o hb => ⟨lq.le b o hb, fun ⟨o', ho⟩ => hd b o o' hb ho⟩) (fun b ⟨o, ho⟩ => hab b o ho) fun x hx k hk ⟨o, ho⟩ => (S.mine x hx k hk).2 o (ls.le k o ho))
theorem c_law20_CertReads {s : List UInt8} {hd : List Int} (hr : Holds r w) (hT : Ob r Tab) (h7 : hd.length = 7) (h : ∀ w', Ext w w' → K (.bool true) w') : oCall Tryd.prog Tryd.n_law20_CertReads #[.string (bs s), .agg (numsV hd).toArray] w K := by
  refine Tryd.ok_law20_CertReads ?_
  unfold Tryd.F_law20_CertReads
  have S := St.start hr
  refine S.box fun b3 w1 S => ?_
  have S : St w r w1 (.cell b3 (numsV hd) 38 :: []) := by simpa [Value.cells] using S
  (first | refine s_p ?_ | refine s_c (by omega) ?_); (first | refine s_p ?_ | refine s_c (by omega) ?_)
  refine c_if (fun hbig => k_awake S hT inferInstance h) (fun hsm => ?_)
  have hsl : s.length ≤ 65536 := by omega
  obtain ⟨c, hc⟩ : ∃ c, c = (readC s).1 := ⟨_, rfl⟩
  have hcs := readC_sm s
  rw [← hc] at hcs
  refine c_cert_Read (s := s) S.holds (by omega) fun v1 sh1 sw1 w2 e2 n2 m2 a2 b2 hv1 => ?_
  rw [← hc] at hv1
  obtain ⟨S, d1, ab1⟩ := S.tell e2 (n2.or m2)
  have hdis1 : Dis sh1 sw1 := dis_words (w := w2) n2.holds m2.holds b2 a2
  obtain ⟨u1, rfl, hu1⟩ := hv1
  have hu1' := hu1
  obtain ⟨q1, k1, rfl, _⟩ := hu1.shape
  (repeat (first | refine s_p ?_ | refine s_c (by omega) ?_ | refine S.ld ?_ | refine S.ldB ?_ | refine S.ce ?_ | refine S.ceB ?_ | refine s_q ?_ | refine s_qc (by omega) ?_ | refine n_some ?_ | rw [List.getD_cons_zero] | rw [List.getD_cons_succ]))
  refine S.al fun b5 w3 S => ?_
  refine S.stB fun w4 S => ?_
  refine c_cert_Read (s := s) S.holds (by omega) fun v2 sh2 sw2 w5 e5 n5 m5 a5 b5' hv2 => ?_
  rw [← hc] at hv2
  obtain ⟨S, d2, ab2⟩ := S.tell e5 (n5.or m5)
  have gv2 := hv2.g
  obtain ⟨u2, rfl, hu2⟩ := hv2
  obtain ⟨q2, k2, rfl, _⟩ := hu2.shape
  (repeat (first | refine s_p ?_ | refine s_c (by omega) ?_ | refine S.ld ?_ | refine S.ldB ?_ | refine S.ce ?_ | refine S.ceB ?_ | refine s_q ?_ | refine s_qc (by omega) ?_ | refine n_some ?_ | rw [List.getD_cons_zero] | rw [List.getD_cons_succ]))
  refine S.al fun b8 w6 S => ?_
  refine S.stB fun w7 S => ?_
  refine c_ref20_Read (s := s) S.holds (by omega) fun v3 sn3 w8 e8 n8 hv3 => ?_
  rw [← hc] at hv3
  obtain ⟨S, d3, ab3⟩ := S.tell e8 n8
  have gv3 := hv3
  obtain ⟨u3, rfl, hu3⟩ := hv3
  obtain ⟨q3, k3, rfl, _⟩ := hu3.shape
  (repeat (first | refine s_p ?_ | refine s_c (by omega) ?_ | refine S.ld ?_ | refine S.ldB ?_ | refine S.ce ?_ | refine S.ceB ?_ | refine s_q ?_ | refine s_qc (by omega) ?_ | refine n_some ?_ | rw [List.getD_cons_zero] | rw [List.getD_cons_succ]))
  refine S.al fun b11 w9 S => ?_
  refine S.stB fun w10 S => ?_
  have S : St w _ w10 (.cell b11 [.slice q3 c.length k3] 24 :: .cell b8 [.slice q2 c.length k2] 24 :: .cell b5 [.slice q1 c.length k1] 24 :: .cell b3 (numsV hd) 38 :: []) := S
  obtain ⟨Q, hQ⟩ : ∃ Q, Q = (r.or sh1).or ((sh2.or sw2).or sn3) := ⟨_, rfl⟩
  have lr : Le r Q := by rw [hQ]; infer_instance
  have hTQ : Ob Q Tab := hT.up (l := lr)
  (first | refine s_p ?_ | refine s_c (by omega) ?_)
  refine j_borH (c := false) (fun _ K6 hK6 => ?_) ?_
  · (first | refine s_p ?_ | refine s_c (by omega) ?_)
    rw [decide_eq_false (by simp)]
    exact hK6
  rw [decide_eq_false (by simp), Bool.false_or]
  refine j_orX (R := fun x w' => x = false ∧ St w Q w' (.cell b11 [.slice q3 c.length k3] 24 :: .cell b8 [.slice q2 c.length k2] 24 :: .cell b5 [.slice q1 c.length k1] 24 :: .cell b3 (numsV hd) 38 :: [])) (fun hh => by cases hh) (fun _ K6 hK6 => ?_) (fun x w11 hx => ?_)
  · (repeat (first | refine s_p ?_ | refine s_c (by omega) ?_ | refine S.ld ?_ | refine S.ldB ?_ | refine S.ce ?_ | refine S.ceB ?_ | refine s_q ?_ | refine s_qc (by omega) ?_ | refine n_some ?_ | rw [List.getD_cons_zero] | rw [List.getD_cons_succ]))
    have hdq : Dis Q sw1 := by
      rw [hQ]
      intro b o o' hb hsw
      rcases hb with (hb | hb) | (hb | hb)
      · exact d1 b o' o (.inr hsw) hb
      · exact hdis1 b o o' hb hsw
      · exact d2 b o o' hb (.inr (.inr hsw))
      · exact d3 b o o' hb (.inl (.inr (.inr hsw)))
    have l1 : Le Q (((r.or (sh1.or sw1)).or (sh2.or sw2)).or sn3) := by rw [hQ]; infer_instance
    refine k_heldC (q := Q) (sw := sw1) (c := c) S (lq := l1) hdq (Above.snd ab1) ⟨_, rfl, ?_⟩ ?_ ?_ hcs fun w12 S => ?_
    · rw [hQ]; exact FnsO.up hu1'
    · rw [hQ]; exact gv2.up
    · rw [hQ]; exact gv3.up
    · (first | refine s_p ?_ | refine s_c (by omega) ?_)
      exact hK6 _ _ ⟨rfl, S⟩
  repeat clear S
  obtain ⟨rfl, S⟩ := hx
  refine c_f rfl ?_
  have hl32 := heads_le s
  have hh7 := heads_7 s
  refine c_cert_Heads (s := s) S.holds (by omega) fun vA snA w13 eA nA hA => ?_
  obtain ⟨S, _, _⟩ := S.tell eA nA
  refine (fun hh => hh) ?_
  (repeat (first | refine s_p ?_ | refine s_c (by omega) ?_ | refine S.ld ?_ | refine S.ldB ?_ | refine S.ce ?_ | refine S.ceB ?_ | refine s_q ?_ | refine s_qc (by omega) ?_ | refine n_some ?_ | rw [List.getD_cons_zero] | rw [List.getD_cons_succ]))
  refine c_ref20_Heads (s := s) S.holds (by omega) fun vB snB w14 eB nB hB => ?_
  obtain ⟨S, _, _⟩ := S.tell eB nB
  obtain ⟨hl, hhl⟩ : ∃ hl, hl = (readH s).1 := ⟨_, rfl⟩
  rw [← hhl] at hA hB hl32 hh7
  have hA0 := hA
  have hB0 := hB
  obtain ⟨pA, kA, rfl, _⟩ := hA.shape
  obtain ⟨pB, kB, rfl, _⟩ := hB.shape
  (repeat (first | refine s_p ?_ | refine s_c (by omega) ?_ | refine S.ld ?_ | refine S.ldB ?_ | refine S.ce ?_ | refine S.ceB ?_ | refine s_q ?_ | refine s_qc (by omega) ?_ | refine n_some ?_ | rw [List.getD_cons_zero] | rw [List.getD_cons_succ]))
  refine j_borH (c := false) (fun _ K6 hK6 => ?_) ?_
  · (first | refine s_p ?_ | refine s_c (by omega) ?_)
    rw [decide_eq_false (by simp)]
    exact hK6
  rw [decide_eq_false (by simp), Bool.false_or]
  refine j_borH (c := false) (fun _ K6 hK6 => ?_) ?_
  · (repeat (first | refine s_p ?_ | refine s_c (by omega) ?_ | refine S.ld ?_ | refine S.ldB ?_ | refine S.ce ?_ | refine S.ceB ?_ | refine s_q ?_ | refine s_qc (by omega) ?_ | refine n_some ?_ | rw [List.getD_cons_zero] | rw [List.getD_cons_succ]))
    rw [decide_eq_false (by simp)]
    exact hK6
  refine c_f rfl ?_
  obtain ⟨Q2, S, lq2, hA0, hB0⟩ : ∃ Q2, St w Q2 w14 (.cell b11 [.slice q3 c.length k3] 24 :: .cell b8 [.slice q2 c.length k2] 24 :: .cell b5 [.slice q1 c.length k1] 24 :: .cell b3 (numsV hd) 38 :: []) ∧ Le Q Q2 ∧ HeadsG Q2 (.slice pA hl.length kA) hl ∧ HeadsG Q2 (.slice pB hl.length kB) hl :=
    ⟨_, S, inferInstance, SlG.cells hA0, SlG.cells hB0⟩
  have hTQ : Ob Q2 Tab := hTQ.up
  refine l_intro (ι := Nat) (fun i => [.int .i64 i]) (fun i w' => i ≤ hl.length ∧ St w Q2 w' (.cell b11 [.slice q3 c.length k3] 24 :: .cell b8 [.slice q2 c.length k2] 24 :: .cell b5 [.slice q1 c.length k1] 24 :: .cell b3 (numsV hd) 38 :: []))
    (fun i => hl.length - i) 0 rfl ⟨Nat.zero_le _, S⟩ ?_
  repeat clear S
  rintro i d w15 ⟨hi, S⟩ K2 hK2
  simp only [List.getD_cons_zero]
  (first | refine s_p ?_ | refine s_c (by omega) ?_); (first | refine s_p ?_ | refine s_c (by omega) ?_)
  refine c_if (fun hlt => ?_) (fun hge => ?_)
  · have hlt : i < hl.length := by omega
    obtain ⟨f0, hf0, _⟩ := hh7 _ (List.getElem_mem hlt)
    have h7i : hl[i].length = 7 := by rw [hf0]; rfl
    have S := S.go (Ext.drew _)
    obtain ⟨b, off, cc, rfl, hcl, hR, hcell⟩ := SlG.get (by decide) hA0 hlt
    obtain rfl : cc = numsV hl[i] := hR
    obtain ⟨b', off', cc', rfl, hcl', hR', hcell'⟩ := SlG.get (by decide) hB0 hlt
    obtain rfl : cc' = numsV hl[i] := hR'
    (first | refine s_p ?_ | refine s_c (by omega) ?_)
    refine s_ldN (n := 7) hcl (fun j v hj => S.at (hcell j v hj)) ?_
    (first | refine s_p ?_ | refine s_c (by omega) ?_)
    refine s_ldN (n := 7) hcl' (fun j v hj => S.at (hcell' j v hj)) ?_
    refine q_neqN (by kernel_rfl) (by rw [h7i]; kernel_rfl) rfl ?_
    rw [show (!(hl[i] == hl[i])) = false by simp]
    refine c_f rfl ?_
    (first | refine s_p ?_ | refine s_c (by omega) ?_)
    refine s_ldN (n := 7) hcl (fun j v hj => S.at (hcell j v hj)) ?_
    refine c_cert_Fn (s := s) (hd := hl[i]) S.holds (by omega) h7i fun c7 sh7 sw7 w18 e18 n18 m18 _ _ hf7 => ?_
    obtain ⟨S, _, _⟩ := S.tell e18 (n18.or m18)
    have gf7 := hf7.g
    obtain ⟨x1, x2, x3, rfl, y1, y2, y3⟩ := hf7
    obtain ⟨z1, j1, rfl, _⟩ := y1.shape
    obtain ⟨z2, j2, rfl, _⟩ := y2.shape
    obtain ⟨z3, j3, rfl, _⟩ := y3.shape
    (repeat (first | refine s_p ?_ | refine s_c (by omega) ?_ | refine S.ld ?_ | refine S.ldB ?_ | refine S.ce ?_ | refine S.ceB ?_ | refine s_q ?_ | refine s_qc (by omega) ?_ | refine n_some ?_ | rw [List.getD_cons_zero] | rw [List.getD_cons_succ]))
    refine S.al fun b17 w19 S => ?_
    refine S.stB fun w20 S => ?_
    (first | refine s_p ?_ | refine s_c (by omega) ?_)
    refine s_ldN (n := 7) hcl' (fun j v hj => S.at (hcell' j v hj)) ?_
    refine c_ref20_Fn (s := s) (hd := hl[i]) S.holds (by omega) h7i fun c8 sn8 w21 e21 n21 hf8 => ?_
    obtain ⟨S, _, _⟩ := S.tell e21 n21
    have gf8 := hf8
    obtain ⟨x4, x5, x6, rfl, y4, y5, y6⟩ := hf8
    obtain ⟨z4, j4, rfl, _⟩ := y4.shape
    obtain ⟨z5, j5, rfl, _⟩ := y5.shape
    obtain ⟨z6, j6, rfl, _⟩ := y6.shape
    (repeat (first | refine s_p ?_ | refine s_c (by omega) ?_ | refine S.ld ?_ | refine S.ldB ?_ | refine S.ce ?_ | refine S.ceB ?_ | refine s_q ?_ | refine s_qc (by omega) ?_ | refine n_some ?_ | rw [List.getD_cons_zero] | rw [List.getD_cons_succ]))
    refine S.al fun b20 w22 S => ?_
    refine S.stB fun w23 S => ?_
    (first | refine s_p ?_ | refine s_c (by omega) ?_)
    refine j_borH (c := false) (fun _ K6 hK6 => ?_) ?_
    · (first | refine s_p ?_ | refine s_c (by omega) ?_)
      rw [decide_eq_false (by simp)]
      exact hK6
    rw [decide_eq_false (by simp), Bool.false_or]
    refine j_orX (R := fun x w' => x = false ∧ St w Q2 w' (.cell b11 [.slice q3 c.length k3] 24 :: .cell b8 [.slice q2 c.length k2] 24 :: .cell b5 [.slice q1 c.length k1] 24 :: .cell b3 (numsV hd) 38 :: [])) (fun hh => by cases hh) (fun _ K6 hK6 => ?_) (fun x w24 hx => ?_)
    · (repeat (first | refine s_p ?_ | refine s_c (by omega) ?_ | refine S.ld ?_ | refine S.ldB ?_ | refine S.ce ?_ | refine S.ceB ?_ | refine s_q ?_ | refine s_qc (by omega) ?_ | refine n_some ?_ | rw [List.getD_cons_zero] | rw [List.getD_cons_succ]))
      refine c_ref20_EqualFn (cs := [_, _, _]) (ds := [_, _, _]) S.holds gf7.up gf8.up (fnC_sm s hl[i]) fun w25 e25 => ?_
      have S := S.go e25
      rw [eqF_self]
      (first | refine s_p ?_ | refine s_c (by omega) ?_)
      exact hK6 _ _ ⟨rfl, ((S.drop b20).drop b17).to Q2⟩
    obtain ⟨rfl, S⟩ := hx
    refine c_f rfl ?_
    (first | refine s_p ?_ | refine s_c (by omega) ?_)
    exact hK2 (i + 1) _ ⟨hlt, S⟩ (by omega)
  · refine S.ldB (hc := by simpa using h7) ?_
    refine c_cert_Fn (s := s) (hd := hd) S.holds (by omega) h7 fun c7 sh7 sw7 w18 e18 n18 m18 _ _ hf7 => ?_
    obtain ⟨S, _, _⟩ := S.tell e18 (n18.or m18)
    have gf7 := hf7.g
    obtain ⟨x1, x2, x3, rfl, y1, y2, y3⟩ := hf7
    obtain ⟨z1, j1, rfl, _⟩ := y1.shape
    obtain ⟨z2, j2, rfl, _⟩ := y2.shape
    obtain ⟨z3, j3, rfl, _⟩ := y3.shape
    (repeat (first | refine s_p ?_ | refine s_c (by omega) ?_ | refine S.ld ?_ | refine S.ldB ?_ | refine S.ce ?_ | refine S.ceB ?_ | refine s_q ?_ | refine s_qc (by omega) ?_ | refine n_some ?_ | rw [List.getD_cons_zero] | rw [List.getD_cons_succ]))
    refine S.al fun b17 w19 S => ?_
    refine S.stB fun w20 S => ?_
    refine S.ldB (hc := by simpa using h7) ?_
    refine c_ref20_Fn (s := s) (hd := hd) S.holds (by omega) h7 fun c8 sn8 w21 e21 n21 hf8 => ?_
    obtain ⟨S, _, _⟩ := S.tell e21 n21
    have gf8 := hf8
    obtain ⟨x4, x5, x6, rfl, y4, y5, y6⟩ := hf8
    obtain ⟨z4, j4, rfl, _⟩ := y4.shape
    obtain ⟨z5, j5, rfl, _⟩ := y5.shape
    obtain ⟨z6, j6, rfl, _⟩ := y6.shape
    (repeat (first | refine s_p ?_ | refine s_c (by omega) ?_ | refine S.ld ?_ | refine S.ldB ?_ | refine S.ce ?_ | refine S.ceB ?_ | refine s_q ?_ | refine s_qc (by omega) ?_ | refine n_some ?_ | rw [List.getD_cons_zero] | rw [List.getD_cons_succ]))
    refine S.al fun b20 w22 S => ?_
    refine S.stB fun w23 S => ?_
    (first | refine s_p ?_ | refine s_c (by omega) ?_)
    refine j_bandH (c := true) (fun _ K6 hK6 => ?_) ?_
    · (first | refine s_p ?_ | refine s_c (by omega) ?_)
      rw [decide_eq_true rfl]
      exact hK6
    rw [decide_eq_true rfl, Bool.true_and]
    refine j_andX (R := fun x w' => x = true ∧ St w Q2 w' []) (fun hh => by cases hh) (fun _ K6 hK6 => ?_) (fun x w24 hx => ?_)
    · (repeat (first | refine s_p ?_ | refine s_c (by omega) ?_ | refine S.ld ?_ | refine S.ldB ?_ | refine S.ce ?_ | refine S.ceB ?_ | refine s_q ?_ | refine s_qc (by omega) ?_ | refine n_some ?_ | rw [List.getD_cons_zero] | rw [List.getD_cons_succ]))
      refine c_ref20_EqualFn (cs := [_, _, _]) (ds := [_, _, _]) S.holds gf7.up gf8.up (fnC_sm s hd) fun w25 e25 => ?_
      have S := S.go e25
      rw [eqF_self]
      exact hK6 _ _ ⟨rfl, (S.tl.tl.tl.tl.tl.tl).to Q2⟩
    obtain ⟨rfl, S⟩ := hx
    have lrQ2 : Le r Q2 := ⟨fun b o x => lq2.le b o (lr.le b o x)⟩
    refine j_andX (R := fun x w' => x = true ∧ Ext w w') (fun hh => by cases hh) (fun _ K6 hK6 => k_awake S hT lrQ2 fun w' e => hK6 _ _ ⟨rfl, e⟩) (fun x w24 hx => ?_)
    obtain ⟨rfl, e⟩ := hx
    exact h _ e
end

end Go.Proofs
end

section
namespace Go.Sh
open Go.ChangeShapes Go.WideShapes Go.ChangeAt Go.RowKit
section
variable {H : Type} {enc : TypeId × Value → H} {P : Program}
theorem same_ext {W W' : World} (e : Ext W W') {p : MemPlace} (hp : p.block < W.heap.size) : W.sameAt W' p := Below.same e hp
theorem trodAll_ext {W W' : World} (e : Ext W W') (K : Kids P (· < P.types.size)) (hz : ∀ t e, t < P.types.size → P.underlying t = some (.slice e) → 0 < P.cellsOf e) {sp : Nat → Bool} :
    ∀ {ts : List TypeId} {vs : List Value} {ds : List (DataW H)} {ps : List MemPlace}, (∀ t ∈ ts, t < P.types.size) → DataW.TrodAll enc P W 0 (fun _ => true) true ts vs ds ps → (∀ p ∈ ps, p.block < W.heap.size) → (∀ p ∈ ps, sp p.block = true) →
      DataW.TrodAll enc P W' 0 sp true ts vs ds ps
  | [], [], [], _, _, h, _, _ => h
  | _ :: _, _ :: _, _ :: _, _, hT, ⟨p, q, ⟨n, h1⟩, h2, he⟩, hl, hs =>
    ⟨p, q, ⟨n, DataW.trod_stays K (fun {t e} => hz t e) (fun h => by cases h) (hT _ (List.mem_cons.2 (Or.inl rfl))) h1 (fun x hx => same_ext e (hl x (by rw [he]; exact List.mem_append_left _ hx))) (fun x hx => hs x (by rw [he]; exact List.mem_append_left _ hx))⟩,
      trodAll_ext e K hz (fun t ht => hT t (List.mem_cons.2 (Or.inr ht))) h2 (fun x hx => hl x (by rw [he]; exact List.mem_append_right _ hx)) (fun x hx => hs x (by rw [he]; exact List.mem_append_right _ hx)), he⟩
/-- WHAT THE LAWS' ROWS ASK: true; the input reads as it did. -/
theorem post_told {f : Func} {s : ChangeSpec} {W W' : World} {args : Array Value} {ds gs : List (DataW H)} {before : List MemPlace} {tb : TypeId} {fr ho : Bool}
    (hl : laidOutB P = true) (hm : mapsRowed P = true) (hz : ((List.range P.types.size).all fun t => match P.underlying t with | some (.slice e) => decide (0 < P.cellsOf e) | _ => true) = true)
    (hts : ∀ t ∈ f.params.toList, t < P.types.size) (hv : s.vars = []) (hrt : f.resultTypes = #[tb]) (htb : P.underlying tb = some .bool)
    (hW : DataW.Whole enc P f.params.toList s.vars false W args.toList ds gs before) (hs : s.fn H (ds ++ gs) = { results := [.lit (.bool true)], args := ds }) (e : Ext W W') :
    s.post enc P f false fr ho false W args (.bool true) W' := by
  have hW' := hW
  obtain ⟨p, q, hA, hV, rfl, hfz, hnd⟩ := hW
  rw [hv] at hV
  obtain ⟨rfl, rfl⟩ := trodVars_none hV
  have hlt := hW'.lt
  refine ⟨ds, [], p ++ [], [], p, [], hW', ?_, ?_, ?_, Below.frame e _, fun h => by cases h⟩
  · rw [hs, hrt]
    exact trodAll_mk1 (shut_bool htb _)
  · rw [hs]
    exact trodAll_ext e (kids_rows hl hm) (slices_full_of P hz) hts hA (fun x hx => hlt x (by simpa using hx)) (fun x hx => by simpa using hlt x (by simpa using hx))
  · rw [hv, hs]; rfl
end
end Go.Sh
end

section
namespace Go.Sh
open Go.RowKit

mutual
/-- is it a datum of the type? -/
def Dat.ok (P : Program) : Dat → TypeId → Prop
  | .int k n, t => P.underlying t = some (.int k) ∧ (Lit.int k n).wf = true
  | .bool _, t => P.underlying t = some .bool
  | .str s, t => P.underlying t = some .string ∧ s.size ≤ maxLen
  | .agg ds, t => ∃ fs, P.underlying t = some (.struct fs) ∧ Dat.okF P ds (fs.toList.map (·.type))
  | .sl sz es, t => ∃ e, P.underlying t = some (.slice e) ∧ sz = P.cellsOf e ∧ es.length ≤ maxLen ∧ Dat.okS P es e
def Dat.okF (P : Program) : List Dat → List TypeId → Prop
  | [], ts => ts = []
  | d :: ds, ts => ∃ t r, ts = t :: r ∧ Dat.ok P d t ∧ Dat.okF P ds r
def Dat.okS (P : Program) : List Dat → TypeId → Prop
  | [], _ => True
  | d :: ds, t => Dat.ok P d t ∧ Dat.okS P ds t
end
theorem okS_of {P : Program} {t : TypeId} : ∀ {es : List Dat}, (∀ (i : Nat) (d : Dat), es[i]? = some d → d.ok P t) → Dat.okS P es t
  | [], _ => trivial
  | d :: es, h => ⟨h 0 d rfl, okS_of fun i d hi => h (i + 1) d (by simpa using hi)⟩
theorem okS_mem {P : Program} {t : TypeId} : ∀ {es : List Dat}, Dat.okS P es t → ∀ d ∈ es, d.ok P t
  | [], _, d, hd => by cases hd
  | e :: es, h, d, hd => by
    rcases List.mem_cons.1 hd with rfl | hd
    · exact h.1
    · exact okS_mem h.2 d hd
def layT (P : Program) (total : Nat) : Nat → List Field → Bool
  | off, [] => off == total
  | off, f :: fs => f.offset == off && layT P total (off + P.cellsOf f.type) fs
/-- types of numbers, texts, structs and slices, each of whose parts is among them -/
def plainS (P : Program) (ts : List TypeId) : Bool :=
  ts.all fun t => match P.underlying t with
    | some (.int _) => true
    | some .bool => true
    | some .string => true
    | some (.struct fs) => layT P (P.cellsOf t) 0 fs.toList && fs.toList.all (fun f => ts.contains f.type)
    | some (.slice e) => decide (0 < P.cellsOf e) && ts.contains e
    | _ => false
theorem choose_list {Q : Nat → Dat → Prop} : ∀ n : Nat, (∀ i, i < n → ∃ d, Q i d) → ∃ es : List Dat, es.length = n ∧ ∀ i d, es[i]? = some d → Q i d
  | 0, _ => ⟨[], rfl, fun i d h => by cases h⟩
  | n + 1, h => by
    obtain ⟨es, h1, h2⟩ := choose_list n fun i hi => h i (by omega)
    obtain ⟨d, hd⟩ := h n (by omega)
    refine ⟨es ++ [d], by simp [h1], fun i x hx => ?_⟩
    rcases Nat.lt_or_ge i es.length with hi | hi
    · rw [List.getElem?_append_left hi] at hx; exact h2 i x hx
    · rw [List.getElem?_append_right hi] at hx
      have hl := (List.getElem?_eq_some_iff.1 hx).1
      have : i = n := by simp at hl; omega
      subst this
      rw [h1, Nat.sub_self] at hx
      cases hx; exact hd
section
variable {H : Type} {enc : TypeId × Value → H} {P : Program} {W : World}
theorem rep_fields {cs : List Value} {total : Nat} (hcs : cs.length = total) : ∀ (fl : List Field) (off : Nat), layT P total off fl = true →
    (∀ f ∈ fl, ∃ d, Rep (all W) d ((cs.drop f.offset).take (P.cellsOf f.type)) ∧ d.ok P f.type) → ∃ ds, RepA (all W) ds (cs.drop off) ∧ Dat.okF P ds (fl.map (·.type))
  | [], off, hl, _ => ⟨[], by
    have : off = total := by simpa [layT] using hl
    rw [RepA, List.drop_eq_nil_iff]; omega, rfl⟩
  | f :: fl, off, hl, h => by
    simp only [layT, Bool.and_eq_true, beq_iff_eq] at hl
    obtain ⟨d, h1, h2⟩ := h f List.mem_cons_self
    obtain ⟨ds, h3, h4⟩ := rep_fields hcs fl _ hl.2 fun g hg => h g (List.mem_cons_of_mem _ hg)
    refine ⟨d :: ds, ⟨_, _, ?_, h1, h3⟩, _, _, rfl, h2, h4⟩
    rw [hl.1, ← List.drop_drop, List.take_append_drop]
theorem rep_of_trod {ts : List TypeId} (hp : plainS P ts = true) {sp : Nat → Bool} : ∀ (fuel : Nat) (t : TypeId) (cs : List Value) (x : DataW H × List MemPlace), t ∈ ts →
    DataW.trod enc P W 0 sp true fuel t cs = some x → ∃ d, Rep (all W) d cs ∧ d.ok P t
  | 0, _, _, _, _, h => by simp [DataW.trod] at h
  | fuel + 1, t, cs, x, ht, h => by
    have hpt := List.all_eq_true.1 hp t ht
    cases hu : P.underlying t with
    | none => rw [hu] at hpt; cases hpt
    | some k =>
      rw [hu] at hpt
      cases k with
      | int k => obtain ⟨n, rfl, _, hw⟩ := DataW.trod_int hu h; exact ⟨.int k n, rfl, hu, hw⟩
      | bool => obtain ⟨b, rfl, _⟩ := DataW.trod_bool hu h; exact ⟨.bool b, rfl, hu⟩
      | string => obtain ⟨s, rfl, _, hs⟩ := DataW.trod_string hu h; exact ⟨.str s, rfl, hu, hs⟩
      | struct fs =>
        simp only [Bool.and_eq_true] at hpt
        obtain ⟨xs, n, hn, _, hl, hxl, hx⟩ := DataW.trod_struct hu h
        obtain rfl : fuel = n := by omega
        obtain ⟨ds, h1, h2⟩ := rep_fields (P := P) (W := W) hl fs.toList 0 hpt.1 (fun f hf => by
          obtain ⟨i, hi, rfl⟩ := List.getElem_of_mem hf
          have hi' : i < fs.size := by simpa using hi
          have h1 := hx i fs[i] (Array.getElem?_eq_getElem hi')
          rw [List.getElem?_eq_getElem (by omega)] at h1
          have hmem : fs[i].type ∈ ts := by
            have := List.all_eq_true.1 hpt.2 _ hf
            simpa using this
          exact rep_of_trod hp fuel _ _ _ hmem h1)
        rw [List.drop_zero] at h1
        exact ⟨.agg ds, h1, fs, hu, h2⟩
      | slice e =>
        simp only [Bool.and_eq_true, decide_eq_true_eq] at hpt
        have he : e ∈ ts := by simpa using hpt.2
        rcases DataW.trod_slice hu h with ⟨rfl, _⟩ | ⟨a, len, cap, elems, rest, n, hn, rfl, _, _, hlc, hcm, hel, hget, _, _⟩
        · exact ⟨.sl (P.cellsOf e) [], ⟨none, 0, rfl, fun _ => rfl, Nat.le_refl _, trivial⟩, e, hu, rfl, Nat.zero_le _, trivial⟩
        obtain rfl : fuel = n := by omega
        have hspot : 0 < len → a.spot = none := fun h0 => by
          have h1 := hget 0 h0
          rw [List.getElem?_eq_getElem (by omega)] at h1
          obtain ⟨c, hc, _⟩ := Option.bind_eq_some_iff.1 h1
          obtain ⟨_, hcl, hcc⟩ := World.cells?_some hc
          have hcell := (hcc 0 hpt.1).trans (List.getElem?_eq_getElem (by omega))
          have := World.cell?_spot hcell
          simpa [Addr.add] using this
        obtain ⟨es, h1, h2⟩ := choose_list (Q := fun i d => d.ok P e ∧ ∃ c, c.length = P.cellsOf e ∧ CellsAt (all W) (some a) (i * P.cellsOf e) c ∧ Rep (all W) d c) len (fun i hi => by
          have h1 := hget i hi
          rw [List.getElem?_eq_getElem (by omega)] at h1
          obtain ⟨c, hc, ht⟩ := Option.bind_eq_some_iff.1 h1
          obtain ⟨_, hcl, hcc⟩ := World.cells?_some hc
          obtain ⟨d, hd, hok⟩ := rep_of_trod hp fuel e c _ he ht
          refine ⟨d, hok, c, hcl, fun j v hj => ?_, hd⟩
          have hjl := (List.getElem?_eq_some_iff.1 hj).1
          have hcell : W.cell? ((a.add (i * P.cellsOf e)).add j) = some v := (hcc j (by omega)).trans hj
          obtain ⟨b, off, sp⟩ := a
          have hsp : sp = none := hspot (by omega)
          subst hsp
          rw [addr_add', addr_add'] at hcell
          exact ⟨b, off, rfl, cell_all hcell⟩)
        refine ⟨.sl (P.cellsOf e) es, ⟨some a, cap, by rw [h1], by simp, by omega, RepS.of fun i d hi => ?_⟩, e, hu, rfl, by omega, okS_of fun i d hi => (h2 i d hi).1⟩
        rw [Nat.zero_add]; exact (h2 i d hi).2
      | _ => cases hpt
end
end Go.Sh
end

section
namespace Go.Sh
open Go.RowKit
set_option linter.unusedSimpArgs false
set_option linter.unusedVariables false
section
variable {P : Program}
theorem dat_int {d : Dat} {t : TypeId} {k : IntKind} (u : P.underlying t = some (.int k)) (h : d.ok P t) : ∃ n, d = .int k n ∧ (Lit.int k n).wf = true := by
  cases d <;> simp only [Dat.ok, u] at h <;> try simp at h
  obtain ⟨rfl, h⟩ := h
  exact ⟨_, rfl, h⟩
theorem dat_bool {d : Dat} {t : TypeId} (u : P.underlying t = some .bool) (h : d.ok P t) : ∃ b, d = .bool b := by
  cases d <;> simp only [Dat.ok, u] at h <;> try simp at h
  exact ⟨_, rfl⟩
theorem dat_str {d : Dat} {t : TypeId} (u : P.underlying t = some .string) (h : d.ok P t) : ∃ s, d = .str s ∧ s.size ≤ maxLen := by
  cases d <;> simp only [Dat.ok, u] at h <;> try simp at h
  exact ⟨_, rfl, h⟩
theorem dat_sl {d : Dat} {t e : TypeId} (u : P.underlying t = some (.slice e)) (h : d.ok P t) : ∃ es, d = .sl (P.cellsOf e) es ∧ es.length ≤ maxLen ∧ ∀ x ∈ es, x.ok P e := by
  cases d <;> simp only [Dat.ok, u] at h <;> try simp at h
  obtain ⟨rfl, h1, h2⟩ := h
  exact ⟨_, rfl, h1, okS_mem h2⟩
theorem dat_agg {d : Dat} {t : TypeId} {ts : List TypeId} (u : ∃ fs, P.underlying t = some (.struct fs) ∧ fs.toList.map (·.type) = ts) (h : d.ok P t) : ∃ ds, d = .agg ds ∧ Dat.okF P ds ts := by
  obtain ⟨fs, u, rfl⟩ := u
  cases d <;> simp only [Dat.ok, u] at h <;> try simp at h
  exact ⟨_, rfl, by simpa using h⟩
theorem okF_cons {ds : List Dat} {t : TypeId} {ts : List TypeId} (h : Dat.okF P ds (t :: ts)) : ∃ d r, ds = d :: r ∧ d.ok P t ∧ Dat.okF P r ts := by
  cases ds with
  | nil => cases h
  | cons d r => obtain ⟨t', r', h1, h2, h3⟩ := h; cases h1; exact ⟨d, r, rfl, h2, h3⟩
theorem okF_nil {ds : List Dat} (h : Dat.okF P ds []) : ds = [] := by
  cases ds with
  | nil => rfl
  | cons d r => obtain ⟨t', r', h1, _⟩ := h; cases h1
noncomputable def structB (P : Program) (t : TypeId) (ts : List TypeId) : Bool := match P.underlying t with | some (.struct fs) => decide (fs.toList.map (·.type) = ts) | _ => false
theorem struct_of {t : TypeId} {ts : List TypeId} (h : structB P t ts = true) : ∃ fs, P.underlying t = some (.struct fs) ∧ fs.toList.map (·.type) = ts := by
  unfold structB at h
  split at h
  · rename_i fs hu; exact ⟨fs, hu, of_decide_eq_true h⟩
  · cases h
end
theorem wf_i64 {n : Int} (h : (Lit.int .i64 n).wf = true) : -9223372036854775808 ≤ n ∧ n ≤ 9223372036854775807 := by
  simp only [Lit.wf, Bool.and_eq_true, decide_eq_true_eq] at h
  exact ⟨h.1, h.2⟩
theorem wf_u8 {n : Int} (h : (Lit.int .u8 n).wf = true) : 0 ≤ n ∧ n ≤ 255 := by
  simp only [Lit.wf, Bool.and_eq_true, decide_eq_true_eq] at h
  exact ⟨h.1, h.2⟩
theorem wf_u64 {n : Int} (h : (Lit.int .u64 n).wf = true) : ∃ x : BitVec 64, n = (x.toNat : Int) := by
  simp only [Lit.wf, Bool.and_eq_true, decide_eq_true_eq] at h
  have h1 : 0 ≤ n := h.1
  have h2 : n ≤ 18446744073709551615 := h.2
  refine ⟨BitVec.ofNat 64 n.toNat, ?_⟩
  rw [BitVec.toNat_ofNat]
  omega
theorem list_map {α : Type} {f : α → Dat} {G : α → Prop} : ∀ es : List Dat, (∀ d ∈ es, ∃ t, d = f t ∧ G t) → ∃ l : List α, es = l.map f ∧ ∀ t ∈ l, G t
  | [], _ => ⟨[], rfl, fun t h => by cases h⟩
  | d :: es, h => by
    obtain ⟨t, rfl, ht⟩ := h d List.mem_cons_self
    obtain ⟨l, rfl, hq⟩ := list_map es fun x hx => h x (List.mem_cons_of_mem _ hx)
    refine ⟨t :: l, rfl, fun x hx => ?_⟩
    rcases List.mem_cons.1 hx with rfl | hx
    · exact ht
    · exact hq x hx
/-- a slice of data, read as a list of things -/
theorem sl_of_rep {α : Type} {D : α → Dat} {r : Gh} {R : List Value → α → Prop} {sz : Nat} {cs : List Value} {l : List α} (hR : ∀ c x, Rep r (D x) c → R c x) (h : Rep r (.sl sz (l.map D)) cs) : ∃ v, cs = [v] ∧ SlG sz r R v l := by
  obtain ⟨p, cap, rfl, h1, h2, h3⟩ := h
  rw [List.length_map] at h2 ⊢
  refine ⟨_, rfl, p, cap, rfl, h1, h2, fun i hi => ?_⟩
  obtain ⟨c, h4, h5, h6⟩ := h3.get (i := i) (d := D l[i]) (by rw [List.getElem?_map, List.getElem?_eq_getElem hi]; rfl)
  rw [Nat.zero_add] at h5
  exact ⟨c, h4, h5, hR _ _ h6⟩
/-- .. of numbers -/
theorem ints_of_rep {α : Type} {k : IntKind} {f : α → Int} {r : Gh} {cs : List Value} {l : List α} (h : Rep r (.sl 1 (l.map fun x => .int k (f x))) cs) :
    ∃ p cap, cs = [.slice p l.length cap] ∧ (p = none → cap = 0) ∧ l.length ≤ cap ∧ Ob r fun w => Sl w p (l.map fun x => .int k (f x)) := by
  obtain ⟨p, cap, rfl, h1, h2, h3⟩ := h
  rw [List.length_map] at h2 ⊢
  refine ⟨p, cap, rfl, h1, h2, fun w hw i v hi => ?_⟩
  rw [List.getElem?_map] at hi
  cases hl : l[i]? with
  | none => rw [hl] at hi; cases hi
  | some x =>
    rw [hl] at hi
    obtain rfl : v = .int k (f x) := (Option.some.inj hi).symm
    obtain ⟨c, hc, hcc, hr⟩ := h3.get (i := i) (d := .int k (f x)) (by rw [List.getElem?_map, hl]; rfl)
    obtain rfl : c = _ := hr
    obtain ⟨b, off, rfl, ho⟩ := hcc 0 _ rfl
    refine ⟨b, off, rfl, ?_⟩
    have := ho w hw
    simpa using this
end Go.Sh
end

section
namespace Go.Proofs

open Go.Sh

set_option maxRecDepth 100000

def rwDat (x : RowD) : Dat := .agg [.int .i64 x.1, .sl 1 (x.2.map fun w => .int .u64 (w.toNat : Int))]
def fnDat (f : FnD) : Dat := .agg [.sl 2 (f.rows.map rwDat), .sl 2 (f.ranges.map rwDat), .sl 2 (f.moves.map rwDat)]
def cDat (c : List FnD) : Dat := .agg [.sl 3 (c.map fnDat)]
theorem rw_rep {r : Gh} {c : List Value} {x : RowD} (h : Rep r (rwDat x) c) : RwC r c x := by
  obtain ⟨a1, b1, rfl, e1, a2, b2, rfl, e2, e3⟩ := h
  obtain rfl : a1 = _ := e1
  obtain rfl : b2 = [] := e3
  obtain ⟨p, cap, rfl, h1, h2, h3⟩ := ints_of_rep e2
  exact ⟨p, cap, rfl, h1, h2, h3⟩
theorem fn_rep {r : Gh} {c : List Value} {f : FnD} (h : Rep r (fnDat f) c) : FnC r c f := by
  obtain ⟨a1, b1, rfl, e1, a2, b2, rfl, e2, a3, b3, rfl, e3, e4⟩ := h
  obtain rfl : b3 = [] := e4
  obtain ⟨v1, rfl, g1⟩ := sl_of_rep (fun _ _ => rw_rep) e1
  obtain ⟨v2, rfl, g2⟩ := sl_of_rep (fun _ _ => rw_rep) e2
  obtain ⟨v3, rfl, g3⟩ := sl_of_rep (fun _ _ => rw_rep) e3
  exact ⟨v1, v2, v3, rfl, g1, g2, g3⟩
theorem cert_rep {r : Gh} {cs : List Value} {c : List FnD} (h : Rep r (cDat c) cs) : CertG r (.agg cs.toArray) c := by
  obtain ⟨a1, b1, rfl, e1, e2⟩ := h
  obtain rfl : b1 = [] := e2
  obtain ⟨v, rfl, g⟩ := sl_of_rep (fun _ _ => fn_rep) e1
  exact ⟨v, rfl, g⟩
theorem str_list (s : ByteArray) : ∃ l, s = bs l := ⟨s.data.toList, by cases s; simp [bs]⟩
end Go.Proofs

namespace Go.Proofs.YtoblfjmokfldnaaDoor.open20

open Go.Sh Go.ChangeShapes Go.WideShapes Go.ChangeAt Go.RowKit

set_option maxRecDepth 100000

set_option linter.unusedSimpArgs false

set_option linter.unusedVariables false

theorem own : ownKnob Tryd.prog.godebug = none := by kernel_rfl
theorem u3 : Tryd.prog.underlying 3 = some (.int .i64) := by kernel_rfl
theorem u4 : Tryd.prog.underlying 4 = some .bool := by kernel_rfl
theorem u5 : Tryd.prog.underlying 5 = some (.int .u8) := by kernel_rfl
theorem u9 : Tryd.prog.underlying 9 = some .string := by kernel_rfl
theorem u64' : Tryd.prog.underlying Tryd.t_uint64 = some (.int .u64) := by kernel_rfl
theorem uC : ∃ fs, Tryd.prog.underlying 24 = some (.struct fs) ∧ fs.toList.map (·.type) = [22] := struct_of (by kernel_rfl)
theorem uF : ∃ fs, Tryd.prog.underlying 50 = some (.struct fs) ∧ fs.toList.map (·.type) = [48, 48, 48] := struct_of (by kernel_rfl)
theorem uR : ∃ fs, Tryd.prog.underlying Tryd.t_Row = some (.struct fs) ∧ fs.toList.map (·.type) = [3, 63] := struct_of (by kernel_rfl)
theorem uH : ∃ fs, Tryd.prog.underlying 38 = some (.struct fs) ∧ fs.toList.map (·.type) = [3, 3, 3, 3, 3, 3, 3] := struct_of (by kernel_rfl)
theorem uSF : Tryd.prog.underlying 22 = some (.slice 50) := by kernel_rfl
theorem uSR : Tryd.prog.underlying 48 = some (.slice Tryd.t_Row) := by kernel_rfl
theorem uSW : Tryd.prog.underlying 63 = some (.slice Tryd.t_uint64) := by kernel_rfl
theorem cF : Tryd.prog.cellsOf 50 = 3 := by kernel_rfl
theorem cR : Tryd.prog.cellsOf Tryd.t_Row = 2 := by kernel_rfl
theorem cW : Tryd.prog.cellsOf Tryd.t_uint64 = 1 := by kernel_rfl
theorem laidOut : laidOutB Tryd.prog = true := by kernel_rfl
theorem rowed : mapsRowed Tryd.prog = true := by kernel_rfl
theorem full : ((List.range Tryd.prog.types.size).all fun t => match Tryd.prog.underlying t with | some (.slice e) => decide (0 < Tryd.prog.cellsOf e) | _ => true) = true := by kernel_rfl
theorem plainC : plainS Tryd.prog [24, 22, 50, 48, Tryd.t_Row, 3, 63, Tryd.t_uint64] = true := by kernel_rfl
theorem plainH : plainS Tryd.prog [38, 3] = true := by kernel_rfl
theorem row_ok {d : Dat} (h : d.ok Tryd.prog Tryd.t_Row) : ∃ x : RowD, d = rwDat x ∧ True := by
  obtain ⟨ds, rfl, e0⟩ := dat_agg uR h
  obtain ⟨d0, ds, rfl, h0, e1⟩ := okF_cons e0
  obtain ⟨d1, ds, rfl, h1, e2⟩ := okF_cons e1
  obtain rfl := okF_nil e2
  obtain ⟨n, rfl, _⟩ := dat_int u3 h0
  obtain ⟨es, rfl, hl, k4⟩ := dat_sl uSW h1
  obtain ⟨l, rfl, _⟩ := list_map (f := fun w : BitVec 64 => Dat.int .u64 (w.toNat : Int)) (G := fun _ => True) es fun x hx => by
    obtain ⟨n, rfl, hw⟩ := dat_int u64' (k4 x hx)
    obtain ⟨y, rfl⟩ := wf_u64 hw
    exact ⟨y, rfl, trivial⟩
  exact ⟨(n, l), by rw [rwDat, cW], trivial⟩
theorem fn_ok {d : Dat} (h : d.ok Tryd.prog 50) : ∃ f : FnD, d = fnDat f ∧ True := by
  obtain ⟨ds, rfl, e0⟩ := dat_agg uF h
  obtain ⟨d0, ds, rfl, h0, e1⟩ := okF_cons e0
  obtain ⟨d1, ds, rfl, h1, e2⟩ := okF_cons e1
  obtain ⟨d2, ds, rfl, h2, e3⟩ := okF_cons e2
  obtain rfl := okF_nil e3
  obtain ⟨es, rfl, _, k0⟩ := dat_sl uSR h0
  obtain ⟨fs, rfl, _, k1⟩ := dat_sl uSR h1
  obtain ⟨gs, rfl, _, k2⟩ := dat_sl uSR h2
  obtain ⟨a, rfl, _⟩ := list_map es fun x hx => row_ok (k0 x hx)
  obtain ⟨b, rfl, _⟩ := list_map fs fun x hx => row_ok (k1 x hx)
  obtain ⟨c, rfl, _⟩ := list_map gs fun x hx => row_ok (k2 x hx)
  exact ⟨⟨a, b, c⟩, by rw [fnDat, cR], trivial⟩
theorem cert_ok {d : Dat} (h : d.ok Tryd.prog 24) : ∃ c : List FnD, d = cDat c ∧ c.length ≤ maxLen := by
  obtain ⟨ds, rfl, e0⟩ := dat_agg uC h
  obtain ⟨d0, ds, rfl, h0, e1⟩ := okF_cons e0
  obtain rfl := okF_nil e1
  obtain ⟨es, rfl, hl, k0⟩ := dat_sl uSF h0
  obtain ⟨a, rfl, _⟩ := list_map es fun x hx => fn_ok (k0 x hx)
  exact ⟨a, by rw [cDat, cF], by simpa using hl⟩
theorem cert_open {H : Type} {enc : TypeId × Value → H} {W : World} {base : Nat} {v : Value} {d : DataW H} {p : List MemPlace} (hv : Value.okWide Tryd.prog W .any base 24 v) (h : DataW.Trod enc Tryd.prog W 0 (fun _ => true) true 24 v d p) :
    ∃ c : List FnD, CertG (all W) v c ∧ c.length ≤ maxLen := by
  obtain ⟨fs, hu, _⟩ := uC
  obtain ⟨cs, rfl, hsz⟩ := okWide_struct hu hv
  obtain ⟨fuel, hf⟩ := h
  obtain ⟨d, hr, hd⟩ := rep_of_trod plainC fuel _ _ _ (by simp) hf
  obtain ⟨c, rfl, hl⟩ := cert_ok hd
  exact ⟨c, by simpa [Value.cells] using cert_rep hr, hl⟩
theorem head_open {H : Type} {enc : TypeId × Value → H} {W : World} {base : Nat} {v : Value} {d : DataW H} {p : List MemPlace} (hv : Value.okWide Tryd.prog W .any base 38 v) (h : DataW.Trod enc Tryd.prog W 0 (fun _ => true) true 38 v d p) :
    ∃ l : List Int, v = .agg (numsV l).toArray ∧ l.length = 7 := by
  obtain ⟨fs, hu, _⟩ := uH
  obtain ⟨cs, rfl, hsz⟩ := okWide_struct hu hv
  obtain ⟨fuel, hf⟩ := h
  obtain ⟨d, hr, hd⟩ := rep_of_trod plainH fuel _ _ _ (by simp) hf
  obtain ⟨ds, rfl, e0⟩ := dat_agg uH hd
  obtain ⟨d0, ds, rfl, h0, e1⟩ := okF_cons e0
  obtain ⟨d1, ds, rfl, h1, e2⟩ := okF_cons e1
  obtain ⟨d2, ds, rfl, h2, e3⟩ := okF_cons e2
  obtain ⟨d3, ds, rfl, h3, e4⟩ := okF_cons e3
  obtain ⟨d4, ds, rfl, h4, e5⟩ := okF_cons e4
  obtain ⟨d5, ds, rfl, h5, e6⟩ := okF_cons e5
  obtain ⟨d6, ds, rfl, h6, e7⟩ := okF_cons e6
  obtain rfl := okF_nil e7
  obtain ⟨n0, rfl, _⟩ := dat_int u3 h0
  obtain ⟨n1, rfl, _⟩ := dat_int u3 h1
  obtain ⟨n2, rfl, _⟩ := dat_int u3 h2
  obtain ⟨n3, rfl, _⟩ := dat_int u3 h3
  obtain ⟨n4, rfl, _⟩ := dat_int u3 h4
  obtain ⟨n5, rfl, _⟩ := dat_int u3 h5
  obtain ⟨n6, rfl, _⟩ := dat_int u3 h6
  refine ⟨[n0, n1, n2, n3, n4, n5, n6], ?_, rfl⟩
  obtain ⟨a0, b0, e, r0, a1, b1, rfl, r1, a2, b2, rfl, r2, a3, b3, rfl, r3, a4, b4, rfl, r4, a5, b5, rfl, r5, a6, b6, rfl, r6, r7⟩ := hr
  obtain rfl : a0 = _ := r0
  obtain rfl : a1 = _ := r1
  obtain rfl : a2 = _ := r2
  obtain rfl : a3 = _ := r3
  obtain rfl : a4 = _ := r4
  obtain rfl : a5 = _ := r5
  obtain rfl : a6 = _ := r6
  obtain rfl : b6 = [] := r7
  congr 1
  apply Array.ext'
  simpa [Value.cells, numsV] using e
theorem gTab : Tryd.prog.globalNamed "math/bits.deBruijn64tab" = some 0 := by kernel_rfl
theorem gTabType : (Tryd.prog.globals[0]?).map (·.type) = some 135 := by kernel_rfl
theorem uT : Tryd.prog.underlying 135 = some (.array 64 5) := by kernel_rfl
theorem cT : Tryd.prog.cellsOf 135 = 64 := by kernel_rfl
theorem c5 : Tryd.prog.cellsOf 5 = 1 := by kernel_rfl
theorem table {W : World} (h : laidMetH Tryd.prog Rows.certLongRow.laid W) : Ob (all W) Tab := by
  have ht : Lib.TabIs Tryd.prog W "math/bits.deBruijn64tab" .u8 (Lib.deBruijn64tab.map fun n : Nat => (n : Int)) :=
    Lib.tabIs_of_head (rest := []) gTab gTabType uT u5 c5 cT h
  refine Tab.all fun j hj => ?_
  have hc := ht.cell gTab j (by rw [List.length_map]; exact hj)
  rw [hc]
  congr 2
  have hj' : j < Lib.deBruijn64tab.length := hj
  simp [List.getD_eq_getElem?_getD, hj']
/-- A WORLD FOR THE WITNESSES: the settled one, the table holding what its initialiser lays. -/
noncomputable def laidWorld (os : Os) : World :=
  { World.holding Tryd.prog os ⟨#[], #[], []⟩ with heap := (World.holding Tryd.prog os ⟨#[], #[], []⟩).heap.modify 0 fun
      | .cells _ t frozen => .cells ((Lib.deBruijn64tab.map fun n : Nat => Value.int .u8 (n : Int)).toArray) t frozen
      | o => o }
end Go.Proofs.YtoblfjmokfldnaaDoor.open20
end

section
namespace Go.Proofs.YtoblfjmokfldnaaDoor.certReads

open Go.Sh Go.BM Go.ChangeShapes Go.WideShapes Go.ChangeAt Go.RowKit open20

set_option maxRecDepth 100000

set_option linter.unusedVariables false

theorem contract (H : Type) (enc : TypeId × Value → H) (W : World) (base : Nat) (args : Array Value) (ds gs : List (DataW H)) (before : List MemPlace)
    (hval : ∀ (j : Nat) t v, Tryd.f4.params[j]? = some t → args[j]? = some v → Value.okWide Tryd.prog W .any base t v)
    (hW : DataW.Whole enc Tryd.prog Tryd.f4.params.toList Rows.certReadsSpec.vars false W args.toList ds gs before) (hL : laidMetH Tryd.prog Rows.certReadsRow.laid W)
    (hwt : (DataW.weightsEach Tryd.prog (Tryd.f4.params.toList ++ (OpenSpec.ofChange Rows.certReadsSpec).bare.plain.varTypes Tryd.prog) (ds ++ gs)).all (· ≤ reachBytes) = true) :
    Calls Tryd.prog 4 args W fun e W' => ∃ v, e = .returned v ∧ Rows.certReadsSpec.post enc Tryd.prog Tryd.f4 false true false false W args v W' := by
  have hW' := hW
  obtain ⟨p, q, hA, hV, rfl, hfz, hnd⟩ := hW
  rw [show Tryd.f4.params.toList = [9, 38] by kernel_rfl] at hA
  obtain ⟨v0, vs0, d0, ds0, p0, q100, hargs, rfl, rfl, h0, r0⟩ := trodAll_cons hA
  obtain ⟨v1, vs1, d1, ds1, p1, q101, rfl, rfl, rfl, h1, r1⟩ := trodAll_cons r0
  obtain ⟨rfl, rfl, rfl⟩ := trodAll_nil r1
  obtain rfl : args = #[v0, v1] := by cases args; simp_all
  obtain ⟨rfl, rfl⟩ := trodVars_none hV
  obtain ⟨s0, rfl, hs0, hm0, ht0⟩ := Go.ChangeMaps.open_string u9 (hval 0 9 v0 (by kernel_rfl) rfl) h0
  have hw0 := sized_string (j := 0) (t := 9) hwt (by kernel_rfl) (by subst hs0; rfl)
  obtain ⟨l0, rfl⟩ := str_list s0
  have hb0 : l0.length ≤ 140737488351232 := by simpa [reachBytes] using hw0
  obtain ⟨hd1, rfl, h71⟩ := head_open (hval 1 38 v1 (by kernel_rfl) rfl) h1
  refine Calls.mono (c_law20_CertReads (K := fun v W' => v = .bool true ∧ Ext W W') (all_holds W) (table hL) h71 fun w' e => ⟨rfl, e⟩) ?_
  rintro e W' ⟨v, he, rfl, hE⟩
  exact ⟨_, he, post_told laidOut rowed full (by rw [show Tryd.f4.params.toList = [9, 38] by kernel_rfl]; decide) rfl (by kernel_rfl) u4 hW' rfl hE⟩

def wit : Array Value := #[.string ⟨#[]⟩, .agg #[.int .i64 0, .int .i64 0, .int .i64 0, .int .i64 0, .int .i64 0, .int .i64 0, .int .i64 0]]
theorem laid_met (os : Os) : laidMet Tryd.prog Rows.certReadsRow.laid ((laidWorld os).forCall (fun _ _ => 0) ⟨#[], wit, []⟩).memory :=
  laidMet_of_run' 8 (by kernel_rfl) (by kernel_rfl)
theorem reads (os : Os) {H : Type} (enc : TypeId × Value → H) : ∃ ds places, DataW.whole enc Tryd.prog ((laidWorld os).forCall (fun _ _ => 0) ⟨#[], wit, []⟩).memory Tryd.f4.params.toList Rows.certReadsSpec.vars false wit.toList 8 = some (ds, [], places) :=
  ⟨[.lit (.string []), .agg [.lit (.int .i64 0), .lit (.int .i64 0), .lit (.int .i64 0), .lit (.int .i64 0), .lit (.int .i64 0), .lit (.int .i64 0), .lit (.int .i64 0)]], [], by kernel_rfl⟩
theorem lifted (os : Os) (started : os.Started) (H : Type) (enc : TypeId × Value → H) (F : Stop.Interp) :
    ReturnsInHanded {} Tryd.checked os 4 .any ((OpenSpec.ofChange Rows.certReadsSpec).preRow enc Tryd.prog Tryd.f4 Rows.certReadsRow.domain false Rows.certReadsRow.laid) (((OpenSpec.ofChange Rows.certReadsSpec).at F).post enc Tryd.prog Tryd.f4 false true false false) := by
  obtain ⟨ds, places, hx⟩ := reads os enc
  refine returnsInHanded_of_row (C := Tryd.checked) (s := OpenSpec.ofChange Rows.certReadsSpec) own started (by kernel_rfl) Tryd.func4
    (witness_row_at (enc := enc) (C := Tryd.checked) false (laidWorld os) wit rfl (by kernel_rfl) (by kernel_rfl) (by kernel_rfl)
      (OpenSpec.preRow_of_cond 8 hx (by kernel_rfl) (fun k hk => by cases hk) (by kernel_rfl) (laid_met os))) ?_
  intro W base args ds gs before hval hW _ _ hwt hL _ _
  exact contract H enc W base args ds gs before hval hW hL hwt
theorem said : Rows.CertReadsSaid :=
  OpenClaim.holds_of_cond 4 Tryd.f4 rfl rfl rfl rfl rfl rfl rfl ⟨rfl, rfl, rfl, rfl, rfl⟩ rfl rfl rfl rfl rfl (by kernel_rfl) Tryd.func4 (by kernel_rfl)
    (of_decide_eq_true (by kernel_rfl)) (by unfold Func.isWrapper; first | (rw [if_pos (by decide +kernel)]; kernel_rfl) | (rw [if_neg (by decide +kernel)]; exact ⟨rfl, rfl⟩))
    (fun os started H enc _ F => by rw [OpenClaim.pre_eq_preRow]; exact lifted os started H enc F)
theorem plain (f : FuncId) (fn : Func) (hf : Tryd.pinned.checked.prog.funcNamed "loanword/loanwordlaw20.CertReads" = some f) (hfn : Tryd.pinned.checked.prog.funcs[f]? = some fn) :
    true = Tryd.pinned.checked.prog.looks [] ∧ ∀ (j : Nat) t, fn.params[j]? = some t → Tryd.pinned.checked.prog.wantsStandIn t = false := by
  obtain rfl : f = 4 := Option.some.inj ((show Tryd.prog.funcNamed "loanword/loanwordlaw20.CertReads" = some 4 by kernel_rfl).symm.trans hf) |>.symm
  obtain rfl : fn = Tryd.f4 := (Option.some.inj (Tryd.func4.symm.trans hfn)).symm
  refine ⟨by kernel_rfl, fun j t ht => ?_⟩
  have hall : (Tryd.f4.params.all fun t => !(Tryd.prog.wantsStandIn t)) = true := by kernel_rfl
  have := Array.all_eq_true_iff_forall_mem.1 hall t (Array.mem_of_getElem? ht)
  show Tryd.prog.wantsStandIn t = false
  simpa using this
theorem card : Rows.CertReadsCardSaid :=
  Claim7.holds_tied_plain_at .later [] _ _ _ _ said (fun _ h => by cases h) (by kernel_rfl) (fun _ h => by cases h) certReads_row_tie rfl ⟨rfl, rfl⟩ (by kernel_rfl) rfl plain (by kernel_rfl)
end Go.Proofs.YtoblfjmokfldnaaDoor.certReads
end

section
namespace Go.Proofs

open Go.Sh Go.BM

set_option maxRecDepth 100000

set_option linter.unusedSimpArgs false

set_option linter.unusedVariables false

section

variable {w : World} {Z : Value → World → Prop} {b c : Bool}

/-- 'B or (g and c)', c reckoned only if it must be -/
theorem j_borandG {g : Bool} {A : (List Value → World → Prop) → World → Prop} {G : (List Value → World → Prop) → Prop} (hG : ∀ K : List Value → World → Prop, K [.bool g] w → G K) (hA : g = true → ∀ K : List Value → World → Prop, K [.bool c] w → A K w) (hZ : Z (.bool (b || (g && c))) w) :
    sJoin (fun K1 => gIf (.bool b) false (G K1) (K1 [undef] w)) fun s1 _ w1 =>
      sJoin (fun K2 => gIf (s1.getD 0 undef) true (A K2 w1) (K2 [undef] w1)) fun s2 _ w2 =>
        sJoin (fun K3 => gIf (.bool b) false (oPick (s1.getD 0 undef) (s2.getD 0 undef) (.bool false) fun t => K3 [t] w2) (K3 [undef] w2)) fun s3 _ w3 =>
          oPick (.bool b) (.bool true) (s3.getD 0 undef) fun t => Z t w3 := by
  intro K1 hK1
  cases b with
  | true =>
    refine hK1 _ _ fun _ => ?_
    intro K2 hK2
    refine hK2 _ _ fun _ => ?_
    intro K3 hK3
    refine hK3 _ _ fun _ => ⟨true, rfl, ?_⟩
    rw [Bool.true_or] at hZ; exact hZ
  | false =>
    refine hG _ (hK1 _ _ fun _ => ?_)
    intro K2 hK2
    cases g with
    | true =>
      refine hA rfl _ (hK2 _ _ fun _ => ?_)
      intro K3 hK3
      refine ⟨true, rfl, hK3 _ _ fun _ => ⟨false, rfl, ?_⟩⟩
      rw [Bool.false_or, Bool.true_and] at hZ; exact hZ
    | false =>
      refine hK2 _ _ fun _ => ?_
      intro K3 hK3
      refine ⟨false, rfl, hK3 _ _ fun _ => ⟨false, rfl, ?_⟩⟩
      rw [Bool.false_or, Bool.false_and] at hZ; exact hZ
end

theorem fnsB_le {c : List FnD} : (∀ f ∈ c, MayF f) → (fnsB c).length ≤ 210000 * c.length := by
  induction c with
  | nil => intro _; exact Nat.le_refl _
  | cons f c ih =>
    intro h
    have := ih fun g hg => h g (List.mem_cons_of_mem _ hg)
    have := upTo_le (h f List.mem_cons_self) 3
    rw [upTo_all] at this
    rw [fnsB, List.length_append, List.length_cons]
    omega
theorem certB_le {c : List FnD} (h : MayC c) : (certB c).length ≤ 8388608 := by
  have := fnsB_le h.2.2
  have := h.2.1
  simp only [certB, List.length_append, List.length_cons, List.length_nil]
  omega
theorem read_there {c : List FnD} (h : MayC c) : readC (certB c) = (c, 0, 0) := by
  rw [readC_ok (certB_le h) (cert_there h), fnsR_fn c 5 h.2.2]
theorem begins_not {c d : List FnD} (hc : MayC c) (hd : MayC d) (h : (certB c).length < (certB d).length) : ((certB d).take (certB c).length == certB c) = false := by
  cases hb : ((certB d).take (certB c).length == certB c) with
  | false => rfl
  | true =>
    have hb : (certB d).take (certB c).length = certB c := by simpa using hb
    have := cert_apart hc hd (m := (certB d).drop (certB c).length) (by rw [← hb, List.length_take, Nat.min_eq_left (by omega), List.take_append_drop])
    have := congrArg List.length this
    rw [List.length_drop, List.length_nil] at this
    omega
section

variable {w0 w : World} {r : Gh} {L : List Asr} {K : Value → World → Prop} {va vb : Value} {c d : List FnD} {s : List UInt8}

theorem c_law20_CertBack (hr : Holds r w) (hT : Ob r Tab) (hv : CertG r va c) (hu : CertG r vb d) (hl1 : c.length ≤ Go.maxLen) (hl2 : d.length ≤ Go.maxLen) (h : ∀ w', Ext w w' → K (.bool true) w') :
    oCall Tryd.prog Tryd.n_law20_CertBack #[va, vb, .string (bs s)] w K := by
  refine Tryd.ok_law20_CertBack ?_
  unfold Tryd.F_law20_CertBack
  have gc := hv
  have gd := hu
  obtain ⟨x, rfl, hx⟩ := hv
  obtain ⟨y, rfl, hy⟩ := hu
  obtain ⟨p1, k1, rfl, _⟩ := hx.shape
  obtain ⟨p2, k2, rfl, _⟩ := hy.shape
  have S := St.start hr
  refine S.box fun b3 w1 S => ?_
  refine S.box fun b4 w2 S => ?_
  obtain ⟨LL, hLL⟩ : ∃ LL : List Asr, LL = (.cell b4 [.slice p2 d.length k2] 24 :: .cell b3 [.slice p1 c.length k1] 24 :: []) := ⟨_, rfl⟩
  have S : St w r w2 (.cell b4 [.slice p2 d.length k2] 24 :: .cell b3 [.slice p1 c.length k1] 24 :: []) := S
  (repeat (first | refine s_p ?_ | refine s_c (by omega) ?_ | refine S.ld ?_ | refine S.ldB ?_ | refine S.ce ?_ | refine S.ceB ?_ | refine s_q ?_ | refine s_qc (by omega) ?_ | refine n_some ?_ | rw [List.getD_cons_zero] | rw [List.getD_cons_succ]))
  refine c_law20_fits S.holds gc hl1 fun x1 w3 e3 f1 => ?_
  have S := S.go e3
  (first | refine s_p ?_ | refine s_c (by omega) ?_)
  refine j_orX (R := fun x w' => (x = false → CSm c ∧ CSm d) ∧ St w r w' LL) (fun _ => ⟨(fun hh => by cases hh), by rw [hLL]; exact S⟩) (fun hx1 K6 hK6 => ?_) (fun x w4 hS => ?_)
  · (repeat (first | refine s_p ?_ | refine s_c (by omega) ?_ | refine S.ld ?_ | refine S.ldB ?_ | refine S.ce ?_ | refine S.ceB ?_ | refine s_q ?_ | refine s_qc (by omega) ?_ | refine n_some ?_ | rw [List.getD_cons_zero] | rw [List.getD_cons_succ]))
    refine c_law20_fits S.holds gd hl2 fun x2 w5 e5 f2 => ?_
    have S := S.go e5
    (first | refine s_p ?_ | refine s_c (by omega) ?_)
    refine hK6 _ _ ⟨fun hx2 => ⟨f1 (by simpa using hx1), f2 (by simpa using hx2)⟩, by rw [hLL]; exact S⟩
  repeat clear S
  obtain ⟨hcsm, S⟩ := hS
  refine j_borH (c := decide ((65536 : Int) < s.length)) (fun _ K6 hK6 => by (repeat (first | refine s_p ?_ | refine s_c (by omega) ?_ | refine S.ld ?_ | refine S.ldB ?_ | refine S.ce ?_ | refine S.ceB ?_ | refine s_q ?_ | refine s_qc (by omega) ?_ | refine n_some ?_ | rw [List.getD_cons_zero] | rw [List.getD_cons_succ])); exact hK6) ?_
  refine c_b (fun _ => k_awake S hT inferInstance h) (fun hb => ?_)
  simp only [Bool.or_eq_false_iff, decide_eq_false_iff_not] at hb
  obtain ⟨hc1, hd1⟩ := hcsm hb.1
  have hsl : s.length ≤ 65536 := by omega
  subst hLL
  (repeat (first | refine s_p ?_ | refine s_c (by omega) ?_ | refine S.ld ?_ | refine S.ldB ?_ | refine S.ce ?_ | refine S.ceB ?_ | refine s_q ?_ | refine s_qc (by omega) ?_ | refine n_some ?_ | rw [List.getD_cons_zero] | rw [List.getD_cons_succ]))
  refine c_cert_BytesC S.holds hT gc hc1 fun w5 e5 => ?_
  have S := S.go e5
  (repeat (first | refine s_p ?_ | refine s_c (by omega) ?_ | refine S.ld ?_ | refine S.ldB ?_ | refine S.ce ?_ | refine S.ceB ?_ | refine s_q ?_ | refine s_qc (by omega) ?_ | refine n_some ?_ | rw [List.getD_cons_zero] | rw [List.getD_cons_succ]))
  refine c_cert_BytesC S.holds hT gd hd1 fun w6 e6 => ?_
  have S := S.go e6
  (repeat (first | refine s_p ?_ | refine s_c (by omega) ?_ | refine S.ld ?_ | refine S.ldB ?_ | refine S.ce ?_ | refine S.ceB ?_ | refine s_q ?_ | refine s_qc (by omega) ?_ | refine n_some ?_ | rw [List.getD_cons_zero] | rw [List.getD_cons_succ]))
  refine j_intro (fun _ w' => St w r w' (.cell b4 [.slice p2 d.length k2] 24 :: .cell b3 [.slice p1 c.length k1] 24 :: [])) (fun K16 hK16 => ?_) ?_
  · (first | refine s_p ?_ | refine s_c (by omega) ?_)
    by_cases hm : MayC c
    rotate_left
    · rw [bytesC_not hm]
      exact c_f rfl (hK16 _ _ S)
    rw [bytesC_may hm]
    refine c_t rfl ?_
    dsimp only
    have hbl := certB_le hm
    refine c_cert_Read (s := certB c) S.holds (by omega) fun v3 sh3 sw3 w8 e8 n8 m8 _ _ hv3 => ?_
    rw [read_there hm] at hv3 ⊢
    obtain ⟨S, _, _⟩ := S.tell e8 (n8.or m8)
    have gv3 := hv3.g
    obtain ⟨u3, rfl, hu3⟩ := hv3
    obtain ⟨q3, k3, rfl, _⟩ := hu3.shape
    (repeat (first | refine s_p ?_ | refine s_c (by omega) ?_ | refine S.ld ?_ | refine S.ldB ?_ | refine S.ce ?_ | refine S.ceB ?_ | refine s_q ?_ | refine s_qc (by omega) ?_ | refine n_some ?_ | rw [List.getD_cons_zero] | rw [List.getD_cons_succ]))
    refine S.al fun b11 w9 S => ?_
    refine S.stB fun w10 S => ?_
    obtain ⟨rr, S, le, gv3⟩ : ∃ rr, St w rr w10 (.cell b11 [.slice q3 c.length k3] 24 :: .cell b4 [.slice p2 d.length k2] 24 :: .cell b3 [.slice p1 c.length k1] 24 :: []) ∧ Le r rr ∧ CertG rr (.agg #[.slice q3 c.length k3]) c := ⟨_, S, inferInstance, gv3.up⟩
    (first | refine s_p ?_ | refine s_c (by omega) ?_)
    refine j_borH (c := false) (fun _ K6 hK6 => by (repeat (first | refine s_p ?_ | refine s_c (by omega) ?_ | refine S.ld ?_ | refine S.ldB ?_ | refine S.ce ?_ | refine S.ceB ?_ | refine s_q ?_ | refine s_qc (by omega) ?_ | refine n_some ?_ | rw [List.getD_cons_zero] | rw [List.getD_cons_succ])); exact hK6) ?_
    refine j_orX (R := fun x w' => x = false ∧ St w rr w' (.cell b11 [.slice q3 c.length k3] 24 :: .cell b4 [.slice p2 d.length k2] 24 :: .cell b3 [.slice p1 c.length k1] 24 :: [])) (fun hh => by cases hh) (fun _ K6 hK6 => ?_) (fun x w11 hS => ?_)
    · (repeat (first | refine s_p ?_ | refine s_c (by omega) ?_ | refine S.ld ?_ | refine S.ldB ?_ | refine S.ce ?_ | refine S.ceB ?_ | refine s_q ?_ | refine s_qc (by omega) ?_ | refine n_some ?_ | rw [List.getD_cons_zero] | rw [List.getD_cons_succ]))
      refine c_cert_Same S.holds hT.up gv3 gc.up hc1 hc1 fun w12 e12 => ?_
      have S := S.go e12
      rw [same_self hm]
      (first | refine s_p ?_ | refine s_c (by omega) ?_)
      exact hK6 _ _ ⟨rfl, S⟩
    repeat clear S
    obtain ⟨rfl, S⟩ := hS
    refine j_orX (R := fun x w' => x = false ∧ St w rr w' (.cell b11 [.slice q3 c.length k3] 24 :: .cell b4 [.slice p2 d.length k2] 24 :: .cell b3 [.slice p1 c.length k1] 24 :: [])) (fun hh => by cases hh) (fun _ K6 hK6 => ?_) (fun x w11 hS => ?_)
    · (repeat (first | refine s_p ?_ | refine s_c (by omega) ?_ | refine S.ld ?_ | refine S.ldB ?_ | refine S.ce ?_ | refine S.ceB ?_ | refine s_q ?_ | refine s_qc (by omega) ?_ | refine n_some ?_ | rw [List.getD_cons_zero] | rw [List.getD_cons_succ]))
      refine c_cert_Size S.holds gc.up hc1 fun w12 e12 => ?_
      have S := S.go e12
      rw [sizeC, if_pos (mayCB_iff.2 hm)]
      (first | refine s_p ?_ | refine s_c (by omega) ?_)
      rw [decide_eq_false (by simp)]
      exact hK6 _ _ ⟨rfl, S⟩
    repeat clear S
    obtain ⟨rfl, S⟩ := hS
    refine j_borH (c := false) (fun _ K6 hK6 => ?_) ?_
    · (first | refine s_p ?_ | refine s_c (by omega) ?_); (first | refine s_p ?_ | refine s_c (by omega) ?_)
      rw [decide_eq_false (by omega)]
      exact hK6
    refine c_f rfl ?_
    exact hK16 _ _ (S.tl.to r)
  repeat clear S
  rintro _ w7 S d7
  refine j_intro (fun _ w' => St w r w' (.cell b4 [.slice p2 d.length k2] 24 :: .cell b3 [.slice p1 c.length k1] 24 :: [])) (fun K41 hK41 => ?_) ?_
  · (first | refine s_p ?_ | refine s_c (by omega) ?_)
    refine j_bandH (c := decide ((bytesC d).2 = 0)) (fun _ K6 hK6 => by (repeat (first | refine s_p ?_ | refine s_c (by omega) ?_ | refine S.ld ?_ | refine S.ldB ?_ | refine S.ce ?_ | refine S.ceB ?_ | refine s_q ?_ | refine s_qc (by omega) ?_ | refine n_some ?_ | rw [List.getD_cons_zero] | rw [List.getD_cons_succ])); exact hK6) ?_
    by_cases hm : MayC c ∧ MayC d
    rotate_left
    · have : (decide ((bytesC c).2 = 0) && decide ((bytesC d).2 = 0)) = false := by
        by_cases h1 : MayC c
        · have h2 : ¬ MayC d := fun h2 => hm ⟨h1, h2⟩
          rw [bytesC_not h2]; simp
        · rw [bytesC_not h1]; simp
      rw [this]
      exact c_f rfl (hK41 _ _ S)
    obtain ⟨hm, hm2⟩ := hm
    rw [bytesC_may hm, bytesC_may hm2]
    refine c_t rfl ?_
    dsimp only
    (repeat (first | refine s_p ?_ | refine s_c (by omega) ?_ | refine S.ld ?_ | refine S.ldB ?_ | refine S.ce ?_ | refine S.ceB ?_ | refine s_q ?_ | refine s_qc (by omega) ?_ | refine n_some ?_ | rw [List.getD_cons_zero] | rw [List.getD_cons_succ]))
    refine c_cert_Same S.holds hT gc gd hc1 hd1 fun w12 e12 => ?_
    have S := S.go e12
    have hsame : sameC c d = (certB c == certB d) := by simp [sameC, mayCB_iff.2 hm, mayCB_iff.2 hm2]
    rw [hsame]
    (first | refine s_p ?_ | refine s_c (by omega) ?_)
    rw [show (!((certB c == certB d) == (certB c == certB d))) = false by simp]
    refine j_borandG (g := decide (((certB c).length : Int) < (certB d).length)) (c := false) (fun K6 hK6 => by (repeat (first | refine s_p ?_ | refine s_c (by omega) ?_ | refine S.ld ?_ | refine S.ldB ?_ | refine S.ce ?_ | refine S.ceB ?_ | refine s_q ?_ | refine s_qc (by omega) ?_ | refine n_some ?_ | rw [List.getD_cons_zero] | rw [List.getD_cons_succ])); exact hK6) (fun hg K6 hK6 => ?_) ?_
    · have hg : (certB c).length < (certB d).length := by simp at hg; omega
      (first | refine s_p ?_ | refine s_c (by omega) ?_)
      refine s_c (by omega) ?_
      rw [Int.toNat_natCast]
      (first | refine s_p ?_ | refine s_c (by omega) ?_)
      rw [begins_not hm hm2 hg]
      exact hK6
    rw [Bool.and_false, Bool.or_false]
    refine j_borandG (g := decide (((certB d).length : Int) < (certB c).length)) (c := false) (fun K6 hK6 => by (repeat (first | refine s_p ?_ | refine s_c (by omega) ?_ | refine S.ld ?_ | refine S.ldB ?_ | refine S.ce ?_ | refine S.ceB ?_ | refine s_q ?_ | refine s_qc (by omega) ?_ | refine n_some ?_ | rw [List.getD_cons_zero] | rw [List.getD_cons_succ])); exact hK6) (fun hg K6 hK6 => ?_) ?_
    · have hg : (certB d).length < (certB c).length := by simp at hg; omega
      (first | refine s_p ?_ | refine s_c (by omega) ?_)
      refine s_c (by omega) ?_
      rw [Int.toNat_natCast]
      (first | refine s_p ?_ | refine s_c (by omega) ?_)
      rw [begins_not hm2 hm hg]
      exact hK6
    rw [Bool.and_false, Bool.or_false]
    exact c_f rfl (hK41 _ _ S)
  repeat clear S
  rintro _ w7 S d7
  refine c_cert_Read (s := s) S.holds (by omega) fun v3 sh3 sw3 w8 e8 n8 m8 _ _ hv3 => ?_
  obtain ⟨S, _, _⟩ := S.tell e8 (n8.or m8)
  have gv3 := hv3.g
  obtain ⟨u3, rfl, hu3⟩ := hv3
  obtain ⟨q3, k3, rfl, _⟩ := hu3.shape
  (repeat (first | refine s_p ?_ | refine s_c (by omega) ?_ | refine S.ld ?_ | refine S.ldB ?_ | refine S.ce ?_ | refine S.ceB ?_ | refine s_q ?_ | refine s_qc (by omega) ?_ | refine n_some ?_ | rw [List.getD_cons_zero] | rw [List.getD_cons_succ]))
  refine S.al fun b14 w9 S => ?_
  refine S.stB fun w10 S => ?_
  obtain ⟨rr, S, le, gv3⟩ : ∃ rr, St w rr w10 (.cell b14 [.slice q3 (readC s).1.length k3] 24 :: []) ∧ Le r rr ∧ CertG rr (.agg #[.slice q3 (readC s).1.length k3]) (readC s).1 := ⟨_, S.d2.d2, inferInstance, gv3.up⟩
  rcases certR_cases true s with ⟨a, hc, ha⟩ | ⟨b, l, hc⟩
  · rw [readC_bad (by omega) hc] at S ⊢
    dsimp only at S ⊢
    (first | refine s_p ?_ | refine s_c (by omega) ?_)
    refine c_t rfl ?_
    (repeat (first | refine s_p ?_ | refine s_c (by omega) ?_ | refine S.ld ?_ | refine S.ldB ?_ | refine S.ce ?_ | refine S.ceB ?_ | refine s_q ?_ | refine s_qc (by omega) ?_ | refine n_some ?_ | rw [List.getD_cons_zero] | rw [List.getD_cons_succ]))
    refine j_bandH (c := true) (fun _ K6 hK6 => ?_) ?_
    · (first | refine s_p ?_ | refine s_c (by omega) ?_)
      rw [decide_eq_true (by omega)]
      exact hK6
    refine j_bandH (c := true) (fun _ K6 hK6 => ?_) ?_
    · (first | refine s_p ?_ | refine s_c (by omega) ?_); (first | refine s_p ?_ | refine s_c (by omega) ?_)
      rw [decide_eq_true (by omega)]
      exact hK6
    refine j_andX (R := fun x w' => x = true ∧ Ext w w') (fun hh => by cases hh) (fun _ K6 hK6 => k_awake S hT le fun w' e => hK6 _ _ ⟨rfl, e⟩) (fun x w24 hx => ?_)
    obtain ⟨rfl, e⟩ := hx
    exact h _ e
  · obtain ⟨hm, hbk, _⟩ := cert_back hc
    rw [readC_ok (by omega) hc] at S gv3 ⊢
    dsimp only at S gv3 ⊢
    (first | refine s_p ?_ | refine s_c (by omega) ?_)
    refine c_f rfl ?_
    (repeat (first | refine s_p ?_ | refine s_c (by omega) ?_ | refine S.ld ?_ | refine S.ldB ?_ | refine S.ce ?_ | refine S.ceB ?_ | refine s_q ?_ | refine s_qc (by omega) ?_ | refine n_some ?_ | rw [List.getD_cons_zero] | rw [List.getD_cons_succ]))
    refine c_cert_BytesC S.holds hT.up gv3 (may_csm hm) fun w12 e12 => ?_
    have S := S.go e12
    rw [bytesC_may hm, hbk]
    (repeat (first | refine s_p ?_ | refine s_c (by omega) ?_ | refine S.ld ?_ | refine S.ldB ?_ | refine S.ce ?_ | refine S.ceB ?_ | refine s_q ?_ | refine s_qc (by omega) ?_ | refine n_some ?_ | rw [List.getD_cons_zero] | rw [List.getD_cons_succ]))
    refine j_bandH (c := true) (fun _ K6 hK6 => ?_) ?_
    · (first | refine s_p ?_ | refine s_c (by omega) ?_)
      rw [show (s == s) = true by simp]
      exact hK6
    refine j_andX (R := fun x w' => x = true ∧ Ext w w') (fun hh => by cases hh) (fun _ K6 hK6 => k_awake S hT le fun w' e => hK6 _ _ ⟨rfl, e⟩) (fun x w24 hx => ?_)
    obtain ⟨rfl, e⟩ := hx
    exact h _ e
end

end Go.Proofs
end
