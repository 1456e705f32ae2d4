/-
  Types as data: what a value of api.Type tells; typeFits.
-/
import Derived.Test.YtajllnahceaipaaDoorFe
import Derived.Test.YtajllnahceaipaaDoorShK
namespace Go.Proofs
open Go.Sh
set_option maxRecDepth 100000

inductive TyD where
  | mk (k : Int) (m : Bool) (re st : Int) (of : List TyD)
namespace TyD
def k : TyD → Int | mk k _ _ _ _ => k
def m : TyD → Bool | mk _ m _ _ _ => m
def re : TyD → Int | mk _ _ re _ _ => re
def st : TyD → Int | mk _ _ _ st _ => st
def of : TyD → List TyD | mk _ _ _ _ of => of
mutual
def dat : TyD → Dat
  | mk k m re st of => .agg [.int .u8 k, .bool m, .int .i64 re, .int .i64 st, .sl 5 (dats of)]
def dats : List TyD → List Dat
  | [] => []
  | t :: l => dat t :: dats l
end
theorem dats_map : ∀ l : List TyD, dats l = l.map dat
  | [] => rfl
  | t :: l => by rw [dats, dats_map l]; rfl
mutual
def ht : TyD → Nat
  | mk _ _ _ _ of => hts of + 1
def hts : List TyD → Nat
  | [] => 0
  | t :: l => max (ht t) (hts l)
end
theorem ht_lt : ∀ {l : List TyD} {t : TyD}, t ∈ l → ht t ≤ hts l
  | x :: l, t, h => by
    rcases List.mem_cons.1 h with rfl | h
    · exact Nat.le_max_left _ _
    · exact Nat.le_trans (ht_lt h) (Nat.le_max_right _ _)
theorem ht_of {t u : TyD} (h : u ∈ t.of) : ht u < ht t := by
  cases t with | mk k m re st of => exact Nat.lt_succ_of_le (ht_lt h)
end TyD
/-- the value tells the type -/
def TyG (r : Gh) (v : Value) (t : TyD) : Prop :=
  ∃ p cap, v = .agg #[.int .u8 t.k, .bool t.m, .int .i64 t.re, .int .i64 t.st, .slice p t.of.length cap] ∧ (p = none → cap = 0) ∧ t.of.length ≤ cap ∧ RepS r 5 p 0 (TyD.dats t.of)
theorem TyG.up {r s : Gh} {v : Value} {t : TyD} (h : TyG r v t) [l : Le r s] : TyG s v t := by
  obtain ⟨p, cap, h1, h2, h3, h4⟩ := h; exact ⟨p, cap, h1, h2, h3, h4.up⟩
theorem TyG.of_rep {r : Gh} {c : List Value} {t : TyD} (h : Rep r t.dat c) : TyG r (.agg c.toArray) t := by
  cases t with
  | mk k m re st of =>
    obtain ⟨a1, b1, rfl, h1, a2, b2, rfl, h2, a3, b3, rfl, h3, a4, b4, rfl, h4, a5, b5, rfl, h5, h6⟩ := h
    obtain rfl : a1 = _ := h1
    obtain rfl : a2 = _ := h2
    obtain rfl : a3 = _ := h3
    obtain rfl : a4 = _ := h4
    obtain rfl : b5 = [] := h6
    obtain ⟨p, cap, rfl, q1, q2, q3⟩ := h5
    rw [TyD.dats_map, List.length_map] at q2
    refine ⟨p, cap, ?_, q1, q2, q3⟩
    rw [TyD.dats_map, List.length_map]; rfl
theorem TyG.rep {r : Gh} {v : Value} {t : TyD} (h : TyG r v t) : ∃ c, v = .agg c.toArray ∧ c.length = 5 ∧ Rep r t.dat c := by
  obtain ⟨p, cap, rfl, h2, h3, h4⟩ := h
  refine ⟨_, rfl, rfl, ?_⟩
  cases t with
  | mk k m re st of =>
    refine ⟨[_], _, rfl, rfl, [_], _, rfl, rfl, [_], _, rfl, rfl, [_], _, rfl, rfl, [_], [], rfl, ⟨p, cap, ?_, h2, ?_, h4⟩, rfl⟩
    · rw [TyD.dats_map, List.length_map]; rfl
    · rw [TyD.dats_map, List.length_map]; exact h3
/-- what a type has inside, to be read -/
theorem ty_elem {X : Nat → Prop} {w0 w : World} {r q : Gh} {L : List Asr} (S : StX X w0 r w L) {p : Option Addr} {of : List TyD} (h : RepS q 5 p 0 (TyD.dats of)) [l : Le q r] {i : Nat} (hi : i < of.length) :
    ∃ (b off : Nat) (c : List Value), p = some ⟨b, off, none⟩ ∧ c.length = 5 ∧ (∀ j v, c[j]? = some v → w.cell? ⟨b, off + i * 5 + j, none⟩ = some v) ∧ TyG q (.agg c.toArray) of[i] := by
  rw [TyD.dats_map] at h
  obtain ⟨b, off, c, h1, h2, h3, h4⟩ := RepS.at S h (i := i) (by simpa using hi) (by decide)
  rw [List.getElem_map] at h4
  exact ⟨b, off, c, h1, h2, h3, TyG.of_rep h4⟩

theorem c_law06_typeFits : ∀ (n : Nat) {t : TyD} {w : World} {r : Gh} {v : Value} {deep : Int} {K : Value → World → Prop}, 0 ≤ deep → deep ≤ n → n ≤ 60 → Holds r w → TyG r v t →
    (∀ b w', Ext w w' → K (.bool b) w') → oCall Tryd.prog Tryd.n_law06_typeFits #[v, .int .i64 deep] w K := by
  intro n
  induction n with
  | zero =>
    intro t w r v deep K h0 h1 _ hr hv h
    obtain rfl : deep = 0 := by omega
    refine Tryd.ok_law06_typeFits ?_
    unfold Tryd.F_law06_typeFits
    have S := St.start hr
    refine S.box fun b2 w1 S => ?_
    (repeat (first | refine s_p ?_ | refine s_c (by omega) ?_ | refine S.ld ?_ | refine S.ldB ?_ | refine S.ce ?_ | refine S.ceB ?_ | refine s_q ?_ | refine s_qc (by omega) ?_ | refine n_some ?_ | rw [List.getD_cons_zero] | rw [List.getD_cons_succ]))
    refine j_or (fun _ => ?_) (fun hn => absurd rfl hn)
    exact c_T (h _ _ S.ext)
  | succ n ih =>
    intro t w r v deep K h0 h1 h2 hr hv h
    refine Tryd.ok_law06_typeFits ?_
    unfold Tryd.F_law06_typeFits
    obtain ⟨p, cap, rfl, _, _, hof⟩ := hv
    have S := St.start hr
    refine S.box fun b2 w1 S => ?_
    (repeat (first | refine s_p ?_ | refine s_c (by omega) ?_ | refine S.ld ?_ | refine S.ldB ?_ | refine S.ce ?_ | refine S.ceB ?_ | refine s_q ?_ | refine s_qc (by omega) ?_ | refine n_some ?_ | rw [List.getD_cons_zero] | rw [List.getD_cons_succ]))
    refine j_or (fun _ => ?_) (fun hz => ?_)
    · exact c_T (h _ _ S.ext)
    intro K2 hK2; (repeat (first | refine s_p ?_ | refine s_c (by omega) ?_ | refine S.ld ?_ | refine S.ldB ?_ | refine S.ce ?_ | refine S.ceB ?_ | refine s_q ?_ | refine s_qc (by omega) ?_ | refine n_some ?_ | rw [List.getD_cons_zero] | rw [List.getD_cons_succ])); refine hK2 _ _ ?_; clear hK2 K2
    refine c_if (fun _ => h _ _ S.ext) (fun hlen => ?_)
    refine l_intro (ι := Nat) (fun i => [.int .i64 i]) (fun i w' => i ≤ t.of.length ∧ St w r w' _) (fun i => t.of.length - i) 0 rfl ⟨Nat.zero_le _, S⟩ ?_
    clear S
    rintro i d w9 ⟨hi, S⟩ K6 hK6
    simp only [List.getD_cons_zero]
    (repeat (first | refine s_p ?_ | refine s_c (by omega) ?_ | refine S.ld ?_ | refine S.ldB ?_ | refine S.ce ?_ | refine S.ceB ?_ | refine s_q ?_ | refine s_qc (by omega) ?_ | refine n_some ?_ | rw [List.getD_cons_zero] | rw [List.getD_cons_succ]))
    refine c_if (fun hlt => ?_) (fun _ => h _ _ S.ext)
    have hlt : i < t.of.length := by omega
    obtain ⟨b, off, c, rfl, hc, hcell, ht⟩ := ty_elem S hof hlt
    (repeat (first | refine s_p ?_ | refine s_c (by omega) ?_ | refine S.ld ?_ | refine S.ldB ?_ | refine S.ce ?_ | refine S.ceB ?_ | refine s_q ?_ | refine s_qc (by omega) ?_ | refine n_some ?_ | rw [List.getD_cons_zero] | rw [List.getD_cons_succ]))
    refine s_ldN (n := 5) hc (by simpa using hcell) ?_
    (repeat (first | refine s_p ?_ | refine s_c (by omega) ?_ | refine S.ld ?_ | refine S.ldB ?_ | refine S.ce ?_ | refine S.ceB ?_ | refine s_q ?_ | refine s_qc (by omega) ?_ | refine n_some ?_ | rw [List.getD_cons_zero] | rw [List.getD_cons_succ]))
    refine ih (by omega) (by omega) (by omega) S.holds ht fun bb w10 e10 => ?_
    have S := S.go e10
    (repeat (first | refine s_p ?_ | refine s_c (by omega) ?_ | refine S.ld ?_ | refine S.ldB ?_ | refine S.ce ?_ | refine S.ceB ?_ | refine s_q ?_ | refine s_qc (by omega) ?_ | refine n_some ?_ | rw [List.getD_cons_zero] | rw [List.getD_cons_succ]))
    refine c_b (fun _ => h _ _ S.ext) (fun _ => ?_)
    (repeat (first | refine s_p ?_ | refine s_c (by omega) ?_ | refine S.ld ?_ | refine S.ldB ?_ | refine S.ce ?_ | refine S.ceB ?_ | refine s_q ?_ | refine s_qc (by omega) ?_ | refine n_some ?_ | rw [List.getD_cons_zero] | rw [List.getD_cons_succ]))
    exact hK6 (i + 1) _ ⟨hlt, S⟩ (by omega)
end Go.Proofs
