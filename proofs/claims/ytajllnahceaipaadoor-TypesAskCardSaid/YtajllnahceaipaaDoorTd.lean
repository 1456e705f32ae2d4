/-
  Contracts: the regions of a type.
-/
import Derived.Test.YtajllnahceaipaaDoorFf
import Derived.Test.YtajllnahceaipaaDoorShL
import Derived.Test.YtajllnahceaipaaDoorTc
namespace Go.Proofs
open Go.Sh
set_option maxRecDepth 100000

namespace TyD
mutual
def chain : TyD → List TyD
  | mk k m re st of => mk k m re st of :: chains of
def chains : List TyD → List TyD
  | [] => []
  | t :: _ => chain t
end
theorem chain_eq : ∀ t : TyD, t.chain = t :: chains t.of
  | mk _ _ _ _ _ => rfl
/-- the regions, from the outermost in -/
def regsL (l : List TyD) : List Int := (l.filter fun u => decide (u.k = 4)).map re
def regs (t : TyD) : List Int := regsL t.chain
theorem regs_eq (t : TyD) : t.regs = (if t.k = 4 then [t.re] else []) ++ regsL (chains t.of) := by
  rw [regs, chain_eq, regsL, List.filter_cons]
  by_cases h : t.k = 4
  · simp only [h, decide_true, if_true]; rfl
  · simp only [h, decide_false, if_false]; rfl
theorem chains_eq {l : List TyD} (h : 0 < l.length) : chains l = chain l[0] := by
  cases l with
  | nil => cases h
  | cons t l => rfl
end TyD
def ints (l : List Int) : List Value := l.map (.int .i64)
theorem ints_ones (l : List Int) : ∀ u ∈ ints l, u.oneCell' = true := by
  intro u hu
  obtain ⟨i, _, rfl⟩ := List.mem_map.1 hu; rfl
theorem ints_len (l : List Int) : (ints l).length = l.length := List.length_map ..
/-- at the address lies the type -/
def NdG (r : Gh) (b off : Nat) (t : TyD) : Prop := ∃ c : List Value, c.length = 5 ∧ (∀ j v, c[j]? = some v → Ob r fun w => w.cell? ⟨b, off + j, none⟩ = some v) ∧ TyG r (.agg c.toArray) t
theorem NdG.up {r s : Gh} {b off : Nat} {t : TyD} (h : NdG r b off t) [l : Le r s] : NdG s b off t := by
  obtain ⟨c, h1, h2, h3⟩ := h; exact ⟨c, h1, fun j v hj => (h2 j v hj).up, h3.up⟩
theorem NdG.of {r : Gh} {p : Option Addr} {of : List TyD} (h : RepS r 5 p 0 (TyD.dats of)) {i : Nat} (hi : i < of.length) : ∃ b off, p = some ⟨b, off, none⟩ ∧ NdG r b (off + i * 5) of[i] := by
  rw [TyD.dats_map] at h
  obtain ⟨c, h1, h2, h3⟩ := h.get (i := i) (List.getElem?_eq_getElem (by simpa using hi))
  obtain ⟨b, off, rfl, _⟩ := h2 0 c[0] (List.getElem?_eq_getElem (by omega))
  rw [List.getElem_map] at h3
  refine ⟨b, off, rfl, c, h1, fun j v hj => ?_, TyG.of_rep h3⟩
  obtain ⟨b', off', hp, ho⟩ := h2 j v hj
  cases hp
  rwa [Nat.zero_add] at ho

theorem c_types_regions_1 {X : Nat → Prop} {w0 w : World} {r q : Gh} {L : List Asr} {bl b off : Nat} {v : Value} {n : Nat} {xs : List Value} {t : TyD} {K : Value → World → Prop}
    (S : StX X w0 r w (.cell bl [v] 68 :: .row v 3 1 n xs :: L)) (hn : NdG q b off t) [Le q r] (hl : n < 1000000000)
    (h : ∀ v' w', StX X w0 r w' (.cell bl [v'] 68 :: .row v' 3 1 (n + 1) (xs ++ [.int .i64 t.re]) :: L) → K (.tuple #[]) w') :
    oCall Tryd.prog Tryd.n_types_regions_1 #[.pointer (some ⟨b, off, none⟩), .pointer (some ⟨bl, 0, none⟩)] w K := by
  refine Tryd.ok_types_regions_1 ?_
  unfold Tryd.F_types_regions_1
  obtain ⟨c, hc, hcell, p, cap, hv, _, _, hof⟩ := hn
  cases hv
  have S := S.go (Ext.drew _)
  (repeat (first | refine s_p ?_ | refine s_c (by omega) ?_ | refine S.ld ?_ | refine S.ldB ?_ | refine S.ce ?_ | refine S.ceB ?_ | refine s_q ?_ | refine s_qc (by omega) ?_ | refine n_some ?_ | rw [List.getD_cons_zero] | rw [List.getD_cons_succ]))
  refine s_ld1 (S.at (hcell 2 _ rfl)) ?_
  refine S.litU (e := 3) (cs := [.int .i64 t.re]) (by kernel_rfl) fun b3 w3 S => ?_
  refine S.ap (Sl.blk (S.blk b3)) (fun v4 w4 S => ?_) (by omega)
  refine S.st (h1 := S.row1 v4) fun w5 S => ?_
  exact h _ _ S.tl
theorem c_types_walk_regs : ∀ (k : Nat) {t : TyD} {X : Nat → Prop} {w0 w : World} {r q : Gh} {L : List Asr} {bl b off : Nat} {v : Value} {n : Nat} {xs : List Value} {K : Value → World → Prop} [Le q r], t.ht ≤ k →
    StX X w0 r w (.cell bl [v] 68 :: .row v 3 1 n xs :: L) → NdG q b off t → n + k < 1000000000 →
    (∀ v' w', StX X w0 r w' (.cell bl [v'] 68 :: .row v' 3 1 (n + t.regs.length) (xs ++ ints t.regs) :: L) → K (.tuple #[]) w') →
    oCall Tryd.prog Tryd.n_types_walk #[.pointer (some ⟨b, off, none⟩), .func (.func Tryd.n_types_regions_1) #[] #[.pointer (some ⟨bl, 0, none⟩)]] w K := by
  intro k
  induction k with
  | zero => intro t X w0 w r q L bl b off v n xs K _ ht; exfalso; cases t with | mk k m re st of => exact absurd ht (Nat.not_succ_le_zero _)
  | succ k ih =>
    intro t X w0 w r q L bl b off v n xs K _ ht S hn hk h
    refine Tryd.ok_types_walk ?_
    unfold Tryd.F_types_walk
    have hn0 := hn
    obtain ⟨c, hc, hcell, p, cap, hv, _, _, hof⟩ := hn
    cases hv
    refine j_intro (fun _ w' => ∃ v', StX X w0 r w' (.cell bl [v'] 68 :: .row v' 3 1 (n + (if t.k = 4 then 1 else 0)) (xs ++ (if t.k = 4 then [.int .i64 t.re] else [])) :: L)) (fun K2 hK2 => ?_) ?_
    · (repeat (first | refine s_p ?_ | refine s_c (by omega) ?_ | refine S.ld ?_ | refine S.ldB ?_ | refine S.ce ?_ | refine S.ceB ?_ | refine s_q ?_ | refine s_qc (by omega) ?_ | refine n_some ?_ | rw [List.getD_cons_zero] | rw [List.getD_cons_succ]))
      refine s_ld1 (S.at (hcell 0 _ rfl)) ?_
      (repeat (first | refine s_p ?_ | refine s_c (by omega) ?_ | refine S.ld ?_ | refine S.ldB ?_ | refine S.ce ?_ | refine S.ceB ?_ | refine s_q ?_ | refine s_qc (by omega) ?_ | refine n_some ?_ | rw [List.getD_cons_zero] | rw [List.getD_cons_succ]))
      refine c_if (fun h4 => ?_) (fun h4 => hK2 _ _ ⟨v, by simpa [h4] using S⟩)
      refine v_func (by kernel_rfl) ?_
      show oCall _ _ #[_, _] _ _
      refine c_types_regions_1 S hn0 (by omega) fun v' w' S => hK2 _ _ ⟨v', by simpa [h4] using S⟩
    · rintro s w' ⟨v', S⟩ d
      (repeat (first | refine s_p ?_ | refine s_c (by omega) ?_ | refine S.ld ?_ | refine S.ldB ?_ | refine S.ce ?_ | refine S.ceB ?_ | refine s_q ?_ | refine s_qc (by omega) ?_ | refine n_some ?_ | rw [List.getD_cons_zero] | rw [List.getD_cons_succ]))
      refine s_ld1 (S.at (hcell 4 _ rfl)) ?_
      (repeat (first | refine s_p ?_ | refine s_c (by omega) ?_ | refine S.ld ?_ | refine S.ldB ?_ | refine S.ce ?_ | refine S.ceB ?_ | refine s_q ?_ | refine s_qc (by omega) ?_ | refine n_some ?_ | rw [List.getD_cons_zero] | rw [List.getD_cons_succ]))
      refine c_if (fun hlen => ?_) (fun hlen => ?_)
      · have hlen : 0 < t.of.length := by omega
        obtain ⟨b2, off2, rfl, hn2⟩ := NdG.of hof hlen
        (repeat (first | refine s_p ?_ | refine s_c (by omega) ?_ | refine S.ld ?_ | refine S.ldB ?_ | refine S.ce ?_ | refine S.ceB ?_ | refine s_q ?_ | refine s_qc (by omega) ?_ | refine n_some ?_ | rw [List.getD_cons_zero] | rw [List.getD_cons_succ]))
        refine s_ld1 (S.at (hcell 4 _ rfl)) ?_
        (repeat (first | refine s_p ?_ | refine s_c (by omega) ?_ | refine S.ld ?_ | refine S.ldB ?_ | refine S.ce ?_ | refine S.ceB ?_ | refine s_q ?_ | refine s_qc (by omega) ?_ | refine n_some ?_ | rw [List.getD_cons_zero] | rw [List.getD_cons_succ]))
        have hh := TyD.ht_of (List.getElem_mem hlen)
        refine ih (t := t.of[0]) (by omega) S hn2 (by split <;> omega) fun v3 w3 S => h v3 w3 ?_
        have h1 : t.regs = (if t.k = 4 then [t.re] else []) ++ t.of[0].regs := by rw [TyD.regs_eq, TyD.chains_eq hlen]; rfl
        rw [h1]
        have e1 : n + (if t.k = 4 then 1 else 0) + t.of[0].regs.length = n + ((if t.k = 4 then [t.re] else []) ++ t.of[0].regs).length := by split <;> simp <;> omega
        have e2 : xs ++ (if t.k = 4 then [.int .i64 t.re] else []) ++ ints t.of[0].regs = xs ++ ints ((if t.k = 4 then [t.re] else []) ++ t.of[0].regs) := by split <;> simp [ints]
        rwa [e1, e2] at S
      · have hz : t.of = [] := List.eq_nil_of_length_eq_zero (by omega)
        have h1 : t.regs = (if t.k = 4 then [t.re] else []) := by rw [TyD.regs_eq, hz]; simp [TyD.chains, TyD.regsL]
        refine h v' _ ?_
        rw [h1]
        have e1 : (if t.k = 4 then [t.re] else []).length = (if t.k = 4 then 1 else 0) := by split <;> rfl
        have e2 : ints (if t.k = 4 then [t.re] else []) = (if t.k = 4 then [.int .i64 t.re] else []) := by split <;> rfl
        rwa [e1, e2]
end Go.Proofs
