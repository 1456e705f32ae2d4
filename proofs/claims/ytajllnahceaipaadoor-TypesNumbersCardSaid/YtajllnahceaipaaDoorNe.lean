/-
  Types as data: what a value of api.Type tells; typeFits.
  Contracts: which types may be (package types, the document's answer).
  Contracts: types that are alike, the same.
  Contracts: the regions of a type.
  Contracts: Regions, of both sides; which regions one type asks of another (pure).
  Contracts: what one type asks of another.
  Contracts: Asks, of both sides.
  Contracts: Asks, the document's.
  Contracts: the text of a type, of both sides. Itoa of small numbers.
  Contracts: the text of a type, the document's; Itoa of small numbers; Copies.
  Contracts: Structs, May, Words where there are no structs (what awake asks).
  Contracts: the reader of types' texts: comes, take.
  Contracts: the reader of types' texts: digits.
  Contracts: the reader of types' texts: kind, ref.
  Contracts: the reader of types' texts: ref.
  Contracts: the reader of types' texts: kind.
  Contracts: types.Read.
  Arithmetic of unsigned numbers, told by whole numbers where nothing runs over.
  Contracts: the document's reader of types' texts: next, word, number.
  Contracts: the document's reader of types' texts: number.
-/
import Derived.Test.YtajllnahceaipaaDoorNd
import Derived.Test.YtajllnahceaipaaDoorNb
import Derived.Test.YtajllnahceaipaaDoorNc
import Derived.Test.YtajllnahceaipaaDoorNa

section
namespace Go.Proofs
open Go.Sh
set_option maxRecDepth 100000

inductive TyD where
  | mk (k : Int) (m : Bool) (re st : Int) (of : List TyD)
namespace TyD
def k : TyD → Int | mk k _ _ _ _ => k
def m : TyD → Bool | mk _ m _ _ _ => m
def re : TyD → Int | mk _ _ re _ _ => re
def st : TyD → Int | mk _ _ _ st _ => st
def of : TyD → List TyD | mk _ _ _ _ of => of
mutual
def dat : TyD → Dat
  | mk k m re st of => .agg [.int .u8 k, .bool m, .int .i64 re, .int .i64 st, .sl 5 (dats of)]
def dats : List TyD → List Dat
  | [] => []
  | t :: l => dat t :: dats l
end
theorem dats_map : ∀ l : List TyD, dats l = l.map dat
  | [] => rfl
  | t :: l => by rw [dats, dats_map l]; rfl
mutual
def ht : TyD → Nat
  | mk _ _ _ _ of => hts of + 1
def hts : List TyD → Nat
  | [] => 0
  | t :: l => max (ht t) (hts l)
end
theorem ht_lt : ∀ {l : List TyD} {t : TyD}, t ∈ l → ht t ≤ hts l
  | x :: l, t, h => by
    rcases List.mem_cons.1 h with rfl | h
    · exact Nat.le_max_left _ _
    · exact Nat.le_trans (ht_lt h) (Nat.le_max_right _ _)
theorem ht_of {t u : TyD} (h : u ∈ t.of) : ht u < ht t := by
  cases t with | mk k m re st of => exact Nat.lt_succ_of_le (ht_lt h)
end TyD
/-- the value tells the type -/
def TyG (r : Gh) (v : Value) (t : TyD) : Prop :=
  ∃ p cap, v = .agg #[.int .u8 t.k, .bool t.m, .int .i64 t.re, .int .i64 t.st, .slice p t.of.length cap] ∧ (p = none → cap = 0) ∧ t.of.length ≤ cap ∧ RepS r 5 p 0 (TyD.dats t.of)
theorem TyG.up {r s : Gh} {v : Value} {t : TyD} (h : TyG r v t) [l : Le r s] : TyG s v t := by
  obtain ⟨p, cap, h1, h2, h3, h4⟩ := h; exact ⟨p, cap, h1, h2, h3, h4.up⟩
theorem TyG.of_rep {r : Gh} {c : List Value} {t : TyD} (h : Rep r t.dat c) : TyG r (.agg c.toArray) t := by
  cases t with
  | mk k m re st of =>
    obtain ⟨a1, b1, rfl, h1, a2, b2, rfl, h2, a3, b3, rfl, h3, a4, b4, rfl, h4, a5, b5, rfl, h5, h6⟩ := h
    obtain rfl : a1 = _ := h1
    obtain rfl : a2 = _ := h2
    obtain rfl : a3 = _ := h3
    obtain rfl : a4 = _ := h4
    obtain rfl : b5 = [] := h6
    obtain ⟨p, cap, rfl, q1, q2, q3⟩ := h5
    rw [TyD.dats_map, List.length_map] at q2
    refine ⟨p, cap, ?_, q1, q2, q3⟩
    rw [TyD.dats_map, List.length_map]; rfl
theorem TyG.rep {r : Gh} {v : Value} {t : TyD} (h : TyG r v t) : ∃ c, v = .agg c.toArray ∧ c.length = 5 ∧ Rep r t.dat c := by
  obtain ⟨p, cap, rfl, h2, h3, h4⟩ := h
  refine ⟨_, rfl, rfl, ?_⟩
  cases t with
  | mk k m re st of =>
    refine ⟨[_], _, rfl, rfl, [_], _, rfl, rfl, [_], _, rfl, rfl, [_], _, rfl, rfl, [_], [], rfl, ⟨p, cap, ?_, h2, ?_, h4⟩, rfl⟩
    · rw [TyD.dats_map, List.length_map]; rfl
    · rw [TyD.dats_map, List.length_map]; exact h3
/-- what a type has inside, to be read -/
theorem ty_elem {X : Nat → Prop} {w0 w : World} {r q : Gh} {L : List Asr} (S : StX X w0 r w L) {p : Option Addr} {of : List TyD} (h : RepS q 5 p 0 (TyD.dats of)) [l : Le q r] {i : Nat} (hi : i < of.length) :
    ∃ (b off : Nat) (c : List Value), p = some ⟨b, off, none⟩ ∧ c.length = 5 ∧ (∀ j v, c[j]? = some v → w.cell? ⟨b, off + i * 5 + j, none⟩ = some v) ∧ TyG q (.agg c.toArray) of[i] := by
  rw [TyD.dats_map] at h
  obtain ⟨b, off, c, h1, h2, h3, h4⟩ := RepS.at S h (i := i) (by simpa using hi) (by decide)
  rw [List.getElem_map] at h4
  exact ⟨b, off, c, h1, h2, h3, TyG.of_rep h4⟩

theorem c_law06_typeFits : ∀ (n : Nat) {t : TyD} {w : World} {r : Gh} {v : Value} {deep : Int} {K : Value → World → Prop}, 0 ≤ deep → deep ≤ n → n ≤ 60 → Holds r w → TyG r v t →
    (∀ b w', Ext w w' → K (.bool b) w') → oCall Tryd.prog Tryd.n_law06_typeFits #[v, .int .i64 deep] w K := by
  intro n
  induction n with
  | zero =>
    intro t w r v deep K h0 h1 _ hr hv h
    obtain rfl : deep = 0 := by omega
    refine Tryd.ok_law06_typeFits ?_
    unfold Tryd.F_law06_typeFits
    have S := St.start hr
    refine S.box fun b2 w1 S => ?_
    (repeat (first | refine s_p ?_ | refine s_c (by omega) ?_ | refine S.ld ?_ | refine S.ldB ?_ | refine S.ce ?_ | refine S.ceB ?_ | refine s_q ?_ | refine s_qc (by omega) ?_ | refine n_some ?_ | rw [List.getD_cons_zero] | rw [List.getD_cons_succ]))
    refine j_or (fun _ => ?_) (fun hn => absurd rfl hn)
    exact c_T (h _ _ S.ext)
  | succ n ih =>
    intro t w r v deep K h0 h1 h2 hr hv h
    refine Tryd.ok_law06_typeFits ?_
    unfold Tryd.F_law06_typeFits
    obtain ⟨p, cap, rfl, _, _, hof⟩ := hv
    have S := St.start hr
    refine S.box fun b2 w1 S => ?_
    (repeat (first | refine s_p ?_ | refine s_c (by omega) ?_ | refine S.ld ?_ | refine S.ldB ?_ | refine S.ce ?_ | refine S.ceB ?_ | refine s_q ?_ | refine s_qc (by omega) ?_ | refine n_some ?_ | rw [List.getD_cons_zero] | rw [List.getD_cons_succ]))
    refine j_or (fun _ => ?_) (fun hz => ?_)
    · exact c_T (h _ _ S.ext)
    intro K2 hK2; (repeat (first | refine s_p ?_ | refine s_c (by omega) ?_ | refine S.ld ?_ | refine S.ldB ?_ | refine S.ce ?_ | refine S.ceB ?_ | refine s_q ?_ | refine s_qc (by omega) ?_ | refine n_some ?_ | rw [List.getD_cons_zero] | rw [List.getD_cons_succ])); refine hK2 _ _ ?_; clear hK2 K2
    refine c_if (fun _ => h _ _ S.ext) (fun hlen => ?_)
    refine l_intro (ι := Nat) (fun i => [.int .i64 i]) (fun i w' => i ≤ t.of.length ∧ St w r w' _) (fun i => t.of.length - i) 0 rfl ⟨Nat.zero_le _, S⟩ ?_
    clear S
    rintro i d w9 ⟨hi, S⟩ K6 hK6
    simp only [List.getD_cons_zero]
    (repeat (first | refine s_p ?_ | refine s_c (by omega) ?_ | refine S.ld ?_ | refine S.ldB ?_ | refine S.ce ?_ | refine S.ceB ?_ | refine s_q ?_ | refine s_qc (by omega) ?_ | refine n_some ?_ | rw [List.getD_cons_zero] | rw [List.getD_cons_succ]))
    refine c_if (fun hlt => ?_) (fun _ => h _ _ S.ext)
    have hlt : i < t.of.length := by omega
    obtain ⟨b, off, c, rfl, hc, hcell, ht⟩ := ty_elem S hof hlt
    (repeat (first | refine s_p ?_ | refine s_c (by omega) ?_ | refine S.ld ?_ | refine S.ldB ?_ | refine S.ce ?_ | refine S.ceB ?_ | refine s_q ?_ | refine s_qc (by omega) ?_ | refine n_some ?_ | rw [List.getD_cons_zero] | rw [List.getD_cons_succ]))
    refine s_ldN (n := 5) hc (by simpa using hcell) ?_
    (repeat (first | refine s_p ?_ | refine s_c (by omega) ?_ | refine S.ld ?_ | refine S.ldB ?_ | refine S.ce ?_ | refine S.ceB ?_ | refine s_q ?_ | refine s_qc (by omega) ?_ | refine n_some ?_ | rw [List.getD_cons_zero] | rw [List.getD_cons_succ]))
    refine ih (by omega) (by omega) (by omega) S.holds ht fun bb w10 e10 => ?_
    have S := S.go e10
    (repeat (first | refine s_p ?_ | refine s_c (by omega) ?_ | refine S.ld ?_ | refine S.ldB ?_ | refine S.ce ?_ | refine S.ceB ?_ | refine s_q ?_ | refine s_qc (by omega) ?_ | refine n_some ?_ | rw [List.getD_cons_zero] | rw [List.getD_cons_succ]))
    refine c_b (fun _ => h _ _ S.ext) (fun _ => ?_)
    (repeat (first | refine s_p ?_ | refine s_c (by omega) ?_ | refine S.ld ?_ | refine S.ldB ?_ | refine S.ce ?_ | refine S.ceB ?_ | refine s_q ?_ | refine s_qc (by omega) ?_ | refine n_some ?_ | rw [List.getD_cons_zero] | rw [List.getD_cons_succ]))
    exact hK6 (i + 1) _ ⟨hlt, S⟩ (by omega)
end Go.Proofs
end

section
namespace Go.Proofs
open Go.Sh
set_option maxRecDepth 100000

/-- may a type be among so many structs, so deep at most? -/
def lookB (structs : Int) : Nat → TyD → Bool
  | 0, _ => false
  | n + 1, t =>
    let inn := decide (t.of.length = 1) && (match t.of with | u :: _ => lookB structs n u | [] => false)
    let bare := !t.m && decide (t.re = 0)
    if t.k = 1 ∨ t.k = 2 then bare && decide (t.st = 0) && decide (t.of.length = 0)
    else if t.k = 5 then bare && decide (t.of.length = 0) && decide (0 ≤ t.st) && decide (t.st < structs)
    else if t.k = 3 then bare && decide (t.st = 0) && inn
    else if t.k = 4 then decide (-1 ≤ t.re) && decide (t.st = 0) && inn
    else false
def inB (structs : Int) (n : Nat) (t : TyD) : Bool := match t.of with | u :: _ => lookB structs n u | [] => false
theorem inB_of {structs : Int} {n : Nat} : ∀ {t : TyD} {h : 0 < t.of.length}, inB structs n t = lookB structs n t.of[0]
  | .mk _ _ _ _ (_ :: _), _ => rfl
  | .mk _ _ _ _ [], h => absurd h (Nat.not_lt_zero _)
theorem int_zero (n : Nat) : ((n : Int) = 0) ↔ n = 0 := by omega
theorem int_one (n : Nat) : ((n : Int) = 1) ↔ n = 1 := by omega

theorem c_types_look : ∀ (n : Nat) {t : TyD} {w : World} {r : Gh} {v : Value} {structs : Int} {K : Value → World → Prop}, n ≤ 1000 → Holds r w → TyG r v t →
    (∀ w', Ext w w' → K (.bool (lookB structs n t)) w') → oCall Tryd.prog Tryd.n_types_look #[v, .int .i64 structs, .int .i64 (n : Int)] w K := by
  intro n
  induction n with
  | zero =>
    intro t w r v structs K _ hr hv h
    refine Tryd.ok_types_look ?_
    unfold Tryd.F_types_look
    have S := St.start hr
    refine S.box fun b2 w1 S => ?_
    (repeat (first | refine s_p ?_ | refine s_c (by omega) ?_ | refine S.ld ?_ | refine S.ldB ?_ | refine S.ce ?_ | refine S.ceB ?_ | refine s_q ?_ | refine s_qc (by omega) ?_ | refine n_some ?_ | rw [List.getD_cons_zero] | rw [List.getD_cons_succ]))
    exact h _ S.ext
  | succ n ih =>
    intro t w r v structs K hn hr hv h
    refine Tryd.ok_types_look ?_
    unfold Tryd.F_types_look
    obtain ⟨p, cap, rfl, _, _, hof⟩ := hv
    have S := St.start hr
    refine S.box fun b2 w1 S => ?_
    (repeat (first | refine s_p ?_ | refine s_c (by omega) ?_ | refine S.ld ?_ | refine S.ldB ?_ | refine S.ce ?_ | refine S.ceB ?_ | refine s_q ?_ | refine s_qc (by omega) ?_ | refine n_some ?_ | rw [List.getD_cons_zero] | rw [List.getD_cons_succ]))
    refine j_bandE (c := inB structs n t) (fun hb K2 hK2 => ?_) fun w5 e5 => ?_
    · have hlen : t.of.length = 1 := by simpa [int_one] using hb
      (repeat (first | refine s_p ?_ | refine s_c (by omega) ?_ | refine S.ld ?_ | refine S.ldB ?_ | refine S.ce ?_ | refine S.ceB ?_ | refine s_q ?_ | refine s_qc (by omega) ?_ | refine n_some ?_ | rw [List.getD_cons_zero] | rw [List.getD_cons_succ]))
      obtain ⟨b, off, c, rfl, hc, hcell, ht⟩ := ty_elem S hof (i := 0) (by omega)
      (repeat (first | refine s_p ?_ | refine s_c (by omega) ?_ | refine S.ld ?_ | refine S.ldB ?_ | refine S.ce ?_ | refine S.ceB ?_ | refine s_q ?_ | refine s_qc (by omega) ?_ | refine n_some ?_ | rw [List.getD_cons_zero] | rw [List.getD_cons_succ]))
      refine s_ldN (n := 5) hc (by simpa using hcell) ?_
      (repeat (first | refine s_p ?_ | refine s_c (by omega) ?_ | refine S.ld ?_ | refine S.ldB ?_ | refine S.ce ?_ | refine S.ceB ?_ | refine s_q ?_ | refine s_qc (by omega) ?_ | refine n_some ?_ | rw [List.getD_cons_zero] | rw [List.getD_cons_succ]))
      rw [show ((n + 1 : Nat) : Int) - 1 = (n : Int) by omega]
      refine ih (by omega) S.holds ht fun w6 e6 => ?_
      rw [← inB_of]
      exact hK2 _ e6
    have S := S.go e5
    (repeat (first | refine s_p ?_ | refine s_c (by omega) ?_ | refine S.ld ?_ | refine S.ldB ?_ | refine S.ce ?_ | refine S.ceB ?_ | refine s_q ?_ | refine s_qc (by omega) ?_ | refine n_some ?_ | rw [List.getD_cons_zero] | rw [List.getD_cons_succ]))
    refine j_band (fun K2 hK2 => by (repeat (first | refine s_p ?_ | refine s_c (by omega) ?_ | refine S.ld ?_ | refine S.ldB ?_ | refine S.ce ?_ | refine S.ceB ?_ | refine s_q ?_ | refine s_qc (by omega) ?_ | refine n_some ?_ | rw [List.getD_cons_zero] | rw [List.getD_cons_succ])); exact hK2) ?_
    (repeat (first | refine s_p ?_ | refine s_c (by omega) ?_ | refine S.ld ?_ | refine S.ldB ?_ | refine S.ce ?_ | refine S.ceB ?_ | refine s_q ?_ | refine s_qc (by omega) ?_ | refine n_some ?_ | rw [List.getD_cons_zero] | rw [List.getD_cons_succ]))
    intro K11 hK11
    (repeat (first | refine s_p ?_ | refine s_c (by omega) ?_ | refine S.ld ?_ | refine S.ldB ?_ | refine S.ce ?_ | refine S.ceB ?_ | refine s_q ?_ | refine s_qc (by omega) ?_ | refine n_some ?_ | rw [List.getD_cons_zero] | rw [List.getD_cons_succ]))
    refine k_cor (c := decide (t.k = 2)) (hK11 _ _ fun _ => ?_) fun _ hk => ?_
    rotate_left
    · (repeat (first | refine s_p ?_ | refine s_c (by omega) ?_ | refine S.ld ?_ | refine S.ldB ?_ | refine S.ce ?_ | refine S.ceB ?_ | refine s_q ?_ | refine s_qc (by omega) ?_ | refine n_some ?_ | rw [List.getD_cons_zero] | rw [List.getD_cons_succ])); exact hk
    simp only [List.getD_cons_zero]
    have hu : lookB structs (n + 1) t = (if t.k = 1 ∨ t.k = 2 then (!t.m && decide (t.re = 0)) && decide (t.st = 0) && decide (t.of.length = 0)
      else if t.k = 5 then (!t.m && decide (t.re = 0)) && decide (t.of.length = 0) && decide (0 ≤ t.st) && decide (t.st < structs)
      else if t.k = 3 then (!t.m && decide (t.re = 0)) && decide (t.st = 0) && (decide (t.of.length = 1) && inB structs n t)
      else if t.k = 4 then decide (-1 ≤ t.re) && decide (t.st = 0) && (decide (t.of.length = 1) && inB structs n t)
      else false) := rfl
    rw [hu] at h
    refine c_b (fun h12 => ?_) (fun h12 => ?_)
    · have h12 : t.k = 1 ∨ t.k = 2 := by simpa using h12
      rw [if_pos h12] at h
      refine j_band (fun K2 hK2 => by (repeat (first | refine s_p ?_ | refine s_c (by omega) ?_ | refine S.ld ?_ | refine S.ldB ?_ | refine S.ce ?_ | refine S.ceB ?_ | refine s_q ?_ | refine s_qc (by omega) ?_ | refine n_some ?_ | rw [List.getD_cons_zero] | rw [List.getD_cons_succ])); exact hK2) ?_
      refine j_band (fun K2 hK2 => by (repeat (first | refine s_p ?_ | refine s_c (by omega) ?_ | refine S.ld ?_ | refine S.ldB ?_ | refine S.ce ?_ | refine S.ceB ?_ | refine s_q ?_ | refine s_qc (by omega) ?_ | refine n_some ?_ | rw [List.getD_cons_zero] | rw [List.getD_cons_succ])); exact hK2) ?_
      rw [decide_eq_decide.2 (int_zero t.of.length)]
      exact h _ S.ext
    have h12 : ¬ (t.k = 1 ∨ t.k = 2) := by simpa using h12
    rw [if_neg h12] at h
    (repeat (first | refine s_p ?_ | refine s_c (by omega) ?_ | refine S.ld ?_ | refine S.ldB ?_ | refine S.ce ?_ | refine S.ceB ?_ | refine s_q ?_ | refine s_qc (by omega) ?_ | refine n_some ?_ | rw [List.getD_cons_zero] | rw [List.getD_cons_succ]))
    refine c_if (fun h5 => ?_) (fun h5 => ?_)
    · rw [if_pos h5] at h
      refine j_band (fun K2 hK2 => by (repeat (first | refine s_p ?_ | refine s_c (by omega) ?_ | refine S.ld ?_ | refine S.ldB ?_ | refine S.ce ?_ | refine S.ceB ?_ | refine s_q ?_ | refine s_qc (by omega) ?_ | refine n_some ?_ | rw [List.getD_cons_zero] | rw [List.getD_cons_succ])); exact hK2) ?_
      refine j_band (fun K2 hK2 => by (repeat (first | refine s_p ?_ | refine s_c (by omega) ?_ | refine S.ld ?_ | refine S.ldB ?_ | refine S.ce ?_ | refine S.ceB ?_ | refine s_q ?_ | refine s_qc (by omega) ?_ | refine n_some ?_ | rw [List.getD_cons_zero] | rw [List.getD_cons_succ])); exact hK2) ?_
      refine j_band (fun K2 hK2 => by (repeat (first | refine s_p ?_ | refine s_c (by omega) ?_ | refine S.ld ?_ | refine S.ldB ?_ | refine S.ce ?_ | refine S.ceB ?_ | refine s_q ?_ | refine s_qc (by omega) ?_ | refine n_some ?_ | rw [List.getD_cons_zero] | rw [List.getD_cons_succ])); exact hK2) ?_
      rw [decide_eq_decide.2 (int_zero t.of.length)]
      exact h _ S.ext
    rw [if_neg h5] at h
    (repeat (first | refine s_p ?_ | refine s_c (by omega) ?_ | refine S.ld ?_ | refine S.ldB ?_ | refine S.ce ?_ | refine S.ceB ?_ | refine s_q ?_ | refine s_qc (by omega) ?_ | refine n_some ?_ | rw [List.getD_cons_zero] | rw [List.getD_cons_succ]))
    refine c_if (fun h3 => ?_) (fun h3 => ?_)
    · rw [if_pos h3] at h
      refine j_band (fun K2 hK2 => by (repeat (first | refine s_p ?_ | refine s_c (by omega) ?_ | refine S.ld ?_ | refine S.ldB ?_ | refine S.ce ?_ | refine S.ceB ?_ | refine s_q ?_ | refine s_qc (by omega) ?_ | refine n_some ?_ | rw [List.getD_cons_zero] | rw [List.getD_cons_succ])); exact hK2) ?_
      refine j_band (fun K2 hK2 => hK2) ?_
      rw [decide_eq_decide.2 (int_one t.of.length)]
      exact h _ S.ext
    rw [if_neg h3] at h
    (repeat (first | refine s_p ?_ | refine s_c (by omega) ?_ | refine S.ld ?_ | refine S.ldB ?_ | refine S.ce ?_ | refine S.ceB ?_ | refine s_q ?_ | refine s_qc (by omega) ?_ | refine n_some ?_ | rw [List.getD_cons_zero] | rw [List.getD_cons_succ]))
    refine c_if (fun h4 => ?_) (fun h4 => ?_)
    · rw [if_pos h4] at h
      (repeat (first | refine s_p ?_ | refine s_c (by omega) ?_ | refine S.ld ?_ | refine S.ldB ?_ | refine S.ce ?_ | refine S.ceB ?_ | refine s_q ?_ | refine s_qc (by omega) ?_ | refine n_some ?_ | rw [List.getD_cons_zero] | rw [List.getD_cons_succ]))
      refine j_band (fun K2 hK2 => by (repeat (first | refine s_p ?_ | refine s_c (by omega) ?_ | refine S.ld ?_ | refine S.ldB ?_ | refine S.ce ?_ | refine S.ceB ?_ | refine s_q ?_ | refine s_qc (by omega) ?_ | refine n_some ?_ | rw [List.getD_cons_zero] | rw [List.getD_cons_succ])); exact hK2) ?_
      refine j_band (fun K2 hK2 => hK2) ?_
      rw [decide_eq_decide.2 (int_one t.of.length)]
      exact h _ S.ext
    rw [if_neg h4] at h
    exact h _ S.ext
theorem lookB_succ (structs : Int) (n : Nat) (t : TyD) : lookB structs (n + 1) t = (if t.k = 1 ∨ t.k = 2 then (!t.m && decide (t.re = 0)) && decide (t.st = 0) && decide (t.of.length = 0)
      else if t.k = 5 then (!t.m && decide (t.re = 0)) && decide (t.of.length = 0) && decide (0 ≤ t.st) && decide (t.st < structs)
      else if t.k = 3 then (!t.m && decide (t.re = 0)) && decide (t.st = 0) && (decide (t.of.length = 1) && inB structs n t)
      else if t.k = 4 then decide (-1 ≤ t.re) && decide (t.st = 0) && (decide (t.of.length = 1) && inB structs n t)
      else false) := rfl
theorem c_ref06_look : ∀ (n : Nat) {t : TyD} {w : World} {r : Gh} {v : Value} {structs : Int} {K : Value → World → Prop}, n ≤ 1000 → Holds r w → TyG r v t →
    (∀ w', Ext w w' → K (.bool (lookB structs n t)) w') → oCall Tryd.prog Tryd.n_ref06_look #[v, .int .i64 structs, .int .i64 (n : Int)] w K := by
  intro n
  induction n with
  | zero =>
    intro t w r v structs K _ hr hv h
    refine Tryd.ok_ref06_look ?_
    unfold Tryd.F_ref06_look
    have S := St.start hr
    refine S.box fun b2 w1 S => ?_
    (repeat (first | refine s_p ?_ | refine s_c (by omega) ?_ | refine S.ld ?_ | refine S.ldB ?_ | refine S.ce ?_ | refine S.ceB ?_ | refine s_q ?_ | refine s_qc (by omega) ?_ | refine n_some ?_ | rw [List.getD_cons_zero] | rw [List.getD_cons_succ]))
    exact h _ S.ext
  | succ n ih =>
    intro t w r v structs K hn hr hv h
    refine Tryd.ok_ref06_look ?_
    unfold Tryd.F_ref06_look
    obtain ⟨p, cap, rfl, _, _, hof⟩ := hv
    have S := St.start hr
    refine S.box fun b2 w1 S => ?_
    (repeat (first | refine s_p ?_ | refine s_c (by omega) ?_ | refine S.ld ?_ | refine S.ldB ?_ | refine S.ce ?_ | refine S.ceB ?_ | refine s_q ?_ | refine s_qc (by omega) ?_ | refine n_some ?_ | rw [List.getD_cons_zero] | rw [List.getD_cons_succ]))
    intro K11 hK11
    (repeat (first | refine s_p ?_ | refine s_c (by omega) ?_ | refine S.ld ?_ | refine S.ldB ?_ | refine S.ce ?_ | refine S.ceB ?_ | refine s_q ?_ | refine s_qc (by omega) ?_ | refine n_some ?_ | rw [List.getD_cons_zero] | rw [List.getD_cons_succ]))
    refine k_cor (c := decide (t.k = 2)) (hK11 _ _ fun _ => ?_) fun _ hk => ?_
    rotate_left
    · (repeat (first | refine s_p ?_ | refine s_c (by omega) ?_ | refine S.ld ?_ | refine S.ldB ?_ | refine S.ce ?_ | refine S.ceB ?_ | refine s_q ?_ | refine s_qc (by omega) ?_ | refine n_some ?_ | rw [List.getD_cons_zero] | rw [List.getD_cons_succ])); exact hk
    simp only [List.getD_cons_zero]
    rw [lookB_succ] at h
    refine c_b (fun h12 => ?_) (fun h12 => ?_)
    · have h12 : t.k = 1 ∨ t.k = 2 := by simpa using h12
      rw [if_pos h12] at h
      (repeat (first | refine s_p ?_ | refine s_c (by omega) ?_ | refine S.ld ?_ | refine S.ldB ?_ | refine S.ce ?_ | refine S.ceB ?_ | refine s_q ?_ | refine s_qc (by omega) ?_ | refine n_some ?_ | rw [List.getD_cons_zero] | rw [List.getD_cons_succ]))
      refine j_band (fun K2 hK2 => by (repeat (first | refine s_p ?_ | refine s_c (by omega) ?_ | refine S.ld ?_ | refine S.ldB ?_ | refine S.ce ?_ | refine S.ceB ?_ | refine s_q ?_ | refine s_qc (by omega) ?_ | refine n_some ?_ | rw [List.getD_cons_zero] | rw [List.getD_cons_succ])); exact hK2) ?_
      refine j_band (fun K2 hK2 => by (repeat (first | refine s_p ?_ | refine s_c (by omega) ?_ | refine S.ld ?_ | refine S.ldB ?_ | refine S.ce ?_ | refine S.ceB ?_ | refine s_q ?_ | refine s_qc (by omega) ?_ | refine n_some ?_ | rw [List.getD_cons_zero] | rw [List.getD_cons_succ])); exact hK2) ?_
      refine j_band (fun K2 hK2 => by (repeat (first | refine s_p ?_ | refine s_c (by omega) ?_ | refine S.ld ?_ | refine S.ldB ?_ | refine S.ce ?_ | refine S.ceB ?_ | refine s_q ?_ | refine s_qc (by omega) ?_ | refine n_some ?_ | rw [List.getD_cons_zero] | rw [List.getD_cons_succ])); exact hK2) ?_
      rw [decide_eq_decide.2 (int_zero t.of.length)]
      exact h _ S.ext
    have h12 : ¬ (t.k = 1 ∨ t.k = 2) := by simpa using h12
    rw [if_neg h12] at h
    (repeat (first | refine s_p ?_ | refine s_c (by omega) ?_ | refine S.ld ?_ | refine S.ldB ?_ | refine S.ce ?_ | refine S.ceB ?_ | refine s_q ?_ | refine s_qc (by omega) ?_ | refine n_some ?_ | rw [List.getD_cons_zero] | rw [List.getD_cons_succ]))
    refine c_if (fun h5 => ?_) (fun h5 => ?_)
    · rw [if_pos h5] at h
      (repeat (first | refine s_p ?_ | refine s_c (by omega) ?_ | refine S.ld ?_ | refine S.ldB ?_ | refine S.ce ?_ | refine S.ceB ?_ | refine s_q ?_ | refine s_qc (by omega) ?_ | refine n_some ?_ | rw [List.getD_cons_zero] | rw [List.getD_cons_succ]))
      refine j_band (fun K2 hK2 => by (repeat (first | refine s_p ?_ | refine s_c (by omega) ?_ | refine S.ld ?_ | refine S.ldB ?_ | refine S.ce ?_ | refine S.ceB ?_ | refine s_q ?_ | refine s_qc (by omega) ?_ | refine n_some ?_ | rw [List.getD_cons_zero] | rw [List.getD_cons_succ])); exact hK2) ?_
      refine j_band (fun K2 hK2 => by (repeat (first | refine s_p ?_ | refine s_c (by omega) ?_ | refine S.ld ?_ | refine S.ldB ?_ | refine S.ce ?_ | refine S.ceB ?_ | refine s_q ?_ | refine s_qc (by omega) ?_ | refine n_some ?_ | rw [List.getD_cons_zero] | rw [List.getD_cons_succ])); exact hK2) ?_
      refine j_band (fun K2 hK2 => by (repeat (first | refine s_p ?_ | refine s_c (by omega) ?_ | refine S.ld ?_ | refine S.ldB ?_ | refine S.ce ?_ | refine S.ceB ?_ | refine s_q ?_ | refine s_qc (by omega) ?_ | refine n_some ?_ | rw [List.getD_cons_zero] | rw [List.getD_cons_succ])); exact hK2) ?_
      refine j_band (fun K2 hK2 => by (repeat (first | refine s_p ?_ | refine s_c (by omega) ?_ | refine S.ld ?_ | refine S.ldB ?_ | refine S.ce ?_ | refine S.ceB ?_ | refine s_q ?_ | refine s_qc (by omega) ?_ | refine n_some ?_ | rw [List.getD_cons_zero] | rw [List.getD_cons_succ])); exact hK2) ?_
      rw [decide_eq_decide.2 (int_zero t.of.length)]
      have := h _ S.ext
      simpa only [Bool.and_comm, Bool.and_left_comm, Bool.and_assoc] using this
    rw [if_neg h5] at h
    (repeat (first | refine s_p ?_ | refine s_c (by omega) ?_ | refine S.ld ?_ | refine S.ldB ?_ | refine S.ce ?_ | refine S.ceB ?_ | refine s_q ?_ | refine s_qc (by omega) ?_ | refine n_some ?_ | rw [List.getD_cons_zero] | rw [List.getD_cons_succ]))
    refine c_if (fun h3 => ?_) (fun h3 => ?_)
    · rw [if_pos h3] at h
      (repeat (first | refine s_p ?_ | refine s_c (by omega) ?_ | refine S.ld ?_ | refine S.ldB ?_ | refine S.ce ?_ | refine S.ceB ?_ | refine s_q ?_ | refine s_qc (by omega) ?_ | refine n_some ?_ | rw [List.getD_cons_zero] | rw [List.getD_cons_succ]))
      refine j_band (fun K2 hK2 => by (repeat (first | refine s_p ?_ | refine s_c (by omega) ?_ | refine S.ld ?_ | refine S.ldB ?_ | refine S.ce ?_ | refine S.ceB ?_ | refine s_q ?_ | refine s_qc (by omega) ?_ | refine n_some ?_ | rw [List.getD_cons_zero] | rw [List.getD_cons_succ])); exact hK2) ?_
      refine j_band (fun K2 hK2 => by (repeat (first | refine s_p ?_ | refine s_c (by omega) ?_ | refine S.ld ?_ | refine S.ldB ?_ | refine S.ce ?_ | refine S.ceB ?_ | refine s_q ?_ | refine s_qc (by omega) ?_ | refine n_some ?_ | rw [List.getD_cons_zero] | rw [List.getD_cons_succ])); exact hK2) ?_
      refine j_band (fun K2 hK2 => by (repeat (first | refine s_p ?_ | refine s_c (by omega) ?_ | refine S.ld ?_ | refine S.ldB ?_ | refine S.ce ?_ | refine S.ceB ?_ | refine s_q ?_ | refine s_qc (by omega) ?_ | refine n_some ?_ | rw [List.getD_cons_zero] | rw [List.getD_cons_succ])); exact hK2) ?_
      refine j_bandE (c := inB structs n t) (fun hb K2 hK2 => ?_) fun w5 e5 => ?_
      · have hlen : t.of.length = 1 := by simp only [Bool.and_eq_true, decide_eq_true_eq] at hb; omega
        (repeat (first | refine s_p ?_ | refine s_c (by omega) ?_ | refine S.ld ?_ | refine S.ldB ?_ | refine S.ce ?_ | refine S.ceB ?_ | refine s_q ?_ | refine s_qc (by omega) ?_ | refine n_some ?_ | rw [List.getD_cons_zero] | rw [List.getD_cons_succ]))
        obtain ⟨b, off, c, rfl, hc, hcell, ht⟩ := ty_elem S hof (i := 0) (by omega)
        (repeat (first | refine s_p ?_ | refine s_c (by omega) ?_ | refine S.ld ?_ | refine S.ldB ?_ | refine S.ce ?_ | refine S.ceB ?_ | refine s_q ?_ | refine s_qc (by omega) ?_ | refine n_some ?_ | rw [List.getD_cons_zero] | rw [List.getD_cons_succ]))
        refine s_ldN (n := 5) hc (by simpa using hcell) ?_
        (repeat (first | refine s_p ?_ | refine s_c (by omega) ?_ | refine S.ld ?_ | refine S.ldB ?_ | refine S.ce ?_ | refine S.ceB ?_ | refine s_q ?_ | refine s_qc (by omega) ?_ | refine n_some ?_ | rw [List.getD_cons_zero] | rw [List.getD_cons_succ]))
        rw [show ((n + 1 : Nat) : Int) - 1 = (n : Int) by omega]
        refine ih (by omega) S.holds ht fun w6 e6 => ?_
        rw [← inB_of]
        exact hK2 _ e6
      have S := S.go e5
      rw [decide_eq_decide.2 (int_one t.of.length)]
      have := h _ S.ext
      simpa only [Bool.and_assoc] using this
    rw [if_neg h3] at h
    (repeat (first | refine s_p ?_ | refine s_c (by omega) ?_ | refine S.ld ?_ | refine S.ldB ?_ | refine S.ce ?_ | refine S.ceB ?_ | refine s_q ?_ | refine s_qc (by omega) ?_ | refine n_some ?_ | rw [List.getD_cons_zero] | rw [List.getD_cons_succ]))
    refine c_if (fun h4 => ?_) (fun h4 => ?_)
    · rw [if_pos h4] at h
      (repeat (first | refine s_p ?_ | refine s_c (by omega) ?_ | refine S.ld ?_ | refine S.ldB ?_ | refine S.ce ?_ | refine S.ceB ?_ | refine s_q ?_ | refine s_qc (by omega) ?_ | refine n_some ?_ | rw [List.getD_cons_zero] | rw [List.getD_cons_succ]))
      refine j_band (fun K2 hK2 => by (repeat (first | refine s_p ?_ | refine s_c (by omega) ?_ | refine S.ld ?_ | refine S.ldB ?_ | refine S.ce ?_ | refine S.ceB ?_ | refine s_q ?_ | refine s_qc (by omega) ?_ | refine n_some ?_ | rw [List.getD_cons_zero] | rw [List.getD_cons_succ])); exact hK2) ?_
      refine j_band (fun K2 hK2 => by (repeat (first | refine s_p ?_ | refine s_c (by omega) ?_ | refine S.ld ?_ | refine S.ldB ?_ | refine S.ce ?_ | refine S.ceB ?_ | refine s_q ?_ | refine s_qc (by omega) ?_ | refine n_some ?_ | rw [List.getD_cons_zero] | rw [List.getD_cons_succ])); exact hK2) ?_
      refine j_bandE (c := inB structs n t) (fun hb K2 hK2 => ?_) fun w5 e5 => ?_
      · have hlen : t.of.length = 1 := by simp only [Bool.and_eq_true, decide_eq_true_eq] at hb; omega
        (repeat (first | refine s_p ?_ | refine s_c (by omega) ?_ | refine S.ld ?_ | refine S.ldB ?_ | refine S.ce ?_ | refine S.ceB ?_ | refine s_q ?_ | refine s_qc (by omega) ?_ | refine n_some ?_ | rw [List.getD_cons_zero] | rw [List.getD_cons_succ]))
        obtain ⟨b, off, c, rfl, hc, hcell, ht⟩ := ty_elem S hof (i := 0) (by omega)
        (repeat (first | refine s_p ?_ | refine s_c (by omega) ?_ | refine S.ld ?_ | refine S.ldB ?_ | refine S.ce ?_ | refine S.ceB ?_ | refine s_q ?_ | refine s_qc (by omega) ?_ | refine n_some ?_ | rw [List.getD_cons_zero] | rw [List.getD_cons_succ]))
        refine s_ldN (n := 5) hc (by simpa using hcell) ?_
        (repeat (first | refine s_p ?_ | refine s_c (by omega) ?_ | refine S.ld ?_ | refine S.ldB ?_ | refine S.ce ?_ | refine S.ceB ?_ | refine s_q ?_ | refine s_qc (by omega) ?_ | refine n_some ?_ | rw [List.getD_cons_zero] | rw [List.getD_cons_succ]))
        rw [show ((n + 1 : Nat) : Int) - 1 = (n : Int) by omega]
        refine ih (by omega) S.holds ht fun w6 e6 => ?_
        rw [← inB_of]
        exact hK2 _ e6
      have S := S.go e5
      rw [decide_eq_decide.2 (int_one t.of.length)]
      have := h _ S.ext
      simpa only [Bool.and_assoc] using this
    rw [if_neg h4] at h
    exact h _ S.ext
/-- may a type be, whichever the structs? -/
def isB (t : TyD) : Bool := lookB 32 48 t
theorem c_types_may {t : TyD} {w : World} {r : Gh} {v : Value} {K : Value → World → Prop} (hr : Holds r w) (hv : TyG r v t) (h : ∀ w', Ext w w' → K (.bool (isB t)) w') : oCall Tryd.prog Tryd.n_types_may #[v] w K := by
  refine Tryd.ok_types_may ?_
  unfold Tryd.F_types_may
  have hv0 := hv
  obtain ⟨p, cap, rfl, _⟩ := hv
  have S := St.start hr
  refine S.box fun b2 w1 S => ?_
  (repeat (first | refine s_p ?_ | refine s_c (by omega) ?_ | refine S.ld ?_ | refine S.ldB ?_ | refine S.ce ?_ | refine S.ceB ?_ | refine s_q ?_ | refine s_qc (by omega) ?_ | refine n_some ?_ | rw [List.getD_cons_zero] | rw [List.getD_cons_succ]))
  exact c_types_look 48 (by decide) S.holds hv0 fun w2 e2 => h _ (S.go e2).ext
theorem c_ref06_Is {t : TyD} {w : World} {r : Gh} {v : Value} {K : Value → World → Prop} (hr : Holds r w) (hv : TyG r v t) (h : ∀ w', Ext w w' → K (.bool (isB t)) w') : oCall Tryd.prog Tryd.n_ref06_Is #[v] w K := by
  refine Tryd.ok_ref06_Is ?_
  unfold Tryd.F_ref06_Is
  have hv0 := hv
  obtain ⟨p, cap, rfl, _⟩ := hv
  have S := St.start hr
  refine S.box fun b2 w1 S => ?_
  (repeat (first | refine s_p ?_ | refine s_c (by omega) ?_ | refine S.ld ?_ | refine S.ldB ?_ | refine S.ce ?_ | refine S.ceB ?_ | refine s_q ?_ | refine s_qc (by omega) ?_ | refine n_some ?_ | rw [List.getD_cons_zero] | rw [List.getD_cons_succ]))
  exact c_ref06_look 48 (by decide) S.holds hv0 fun w2 e2 => h _ (S.go e2).ext
end Go.Proofs
end

section
namespace Go.Proofs
open Go.Sh
set_option maxRecDepth 100000

theorem look_cases {s : Int} {n : Nat} {t : TyD} (h : lookB s (n + 1) t = true) : (t.of = [] ∧ (t.k = 1 ∨ t.k = 2 ∨ t.k = 5)) ∨ ∃ u, t.of = [u] ∧ lookB s n u = true ∧ (t.k = 3 ∨ t.k = 4) := by
  rw [lookB_succ] at h
  have one : ∀ {b : Bool}, (b && (decide (t.of.length = 1) && inB s n t)) = true → ∃ u, t.of = [u] ∧ lookB s n u = true := by
    intro b hb
    simp only [Bool.and_eq_true, decide_eq_true_eq] at hb
    obtain ⟨_, hl, hi⟩ := hb
    cases t with
    | mk k m re st of =>
      cases of with
      | nil => cases hl
      | cons u l =>
        cases l with
        | nil => exact ⟨u, rfl, hi⟩
        | cons x l => cases hl
  split at h
  · rename_i hk
    simp only [Bool.and_eq_true, decide_eq_true_eq] at h
    exact .inl ⟨List.eq_nil_of_length_eq_zero h.2, hk.elim .inl fun h => .inr (.inl h)⟩
  split at h
  · rename_i hk
    simp only [Bool.and_eq_true, decide_eq_true_eq] at h
    exact .inl ⟨List.eq_nil_of_length_eq_zero h.1.1.2, .inr (.inr hk)⟩
  split at h
  · rename_i hk
    obtain ⟨u, h1, h2⟩ := one h
    exact .inr ⟨u, h1, h2, .inl hk⟩
  split at h
  · rename_i hk
    obtain ⟨u, h1, h2⟩ := one h
    exact .inr ⟨u, h1, h2, .inr hk⟩
  · cases h
/-- are two types, both of which may be, alike? f: of two regions -/
def alikeB (f : Int → Int → Bool) : Nat → TyD → TyD → Bool
  | 0, _, _ => false
  | n + 1, a, b => !(decide (a.k ≠ b.k) || !(a.m == b.m) || decide (a.st ≠ b.st) || !f a.re b.re) && (decide (a.of.length = 0) || (match a.of, b.of with | u :: _, x :: _ => alikeB f n u x | _, _ => false))
theorem alikeB_nil {f : Int → Int → Bool} {n : Nat} {a b : TyD} (h : a.of = []) : alikeB f (n + 1) a b = !(decide (a.k ≠ b.k) || !(a.m == b.m) || decide (a.st ≠ b.st) || !f a.re b.re) := by
  rw [alikeB, h]; simp
theorem alikeB_one {f : Int → Int → Bool} {n : Nat} {a b u x : TyD} (h : a.of = [u]) (h2 : b.of = [x]) : alikeB f (n + 1) a b = (!(decide (a.k ≠ b.k) || !(a.m == b.m) || decide (a.st ≠ b.st) || !f a.re b.re) && alikeB f n u x) := by
  rw [alikeB, h, h2]; simp
theorem alikeB_false {f : Int → Int → Bool} {n : Nat} {a b : TyD} (h : (decide (a.k ≠ b.k) || !(a.m == b.m) || decide (a.st ≠ b.st) || !f a.re b.re) = true) : alikeB f (n + 1) a b = false := by
  rw [alikeB, h]; simp

theorem c_types_alike {f : Int → Int → Bool} {fv : Value} (hf : ∀ (x y : Int) (w : World) (K : Value → World → Prop), K (.bool (f x y)) w → oCallV Tryd.prog fv #[.int .i64 x, .int .i64 y] w K) {s : Int} :
    ∀ (n : Nat) {a b : TyD} {w : World} {r : Gh} {va vb : Value} {K : Value → World → Prop}, Holds r w → TyG r va a → TyG r vb b → lookB s n a = true → lookB s n b = true →
    (∀ w', Ext w w' → K (.bool (alikeB f n a b)) w') → oCall Tryd.prog Tryd.n_types_alike #[va, vb, fv] w K := by
  intro n
  induction n with
  | zero => intro a b w r va vb K _ _ _ h; cases h
  | succ n ih =>
    intro a b w r va vb K hr hva hvb ha hb h
    refine Tryd.ok_types_alike ?_
    unfold Tryd.F_types_alike
    obtain ⟨p, cap, rfl, _, _, hofa⟩ := hva
    obtain ⟨q, cap', rfl, _, _, hofb⟩ := hvb
    have S := St.start hr
    refine S.box fun b3 w1 S => ?_
    refine S.box fun b4 w2 S => ?_
    (repeat (first | refine s_p ?_ | refine s_c (by omega) ?_ | refine S.ld ?_ | refine S.ldB ?_ | refine S.ce ?_ | refine S.ceB ?_ | refine s_q ?_ | refine s_qc (by omega) ?_ | refine n_some ?_ | rw [List.getD_cons_zero] | rw [List.getD_cons_succ]))
    refine j_bor (fun K2 hK2 => by (repeat (first | refine s_p ?_ | refine s_c (by omega) ?_ | refine S.ld ?_ | refine S.ldB ?_ | refine S.ce ?_ | refine S.ceB ?_ | refine s_q ?_ | refine s_qc (by omega) ?_ | refine n_some ?_ | rw [List.getD_cons_zero] | rw [List.getD_cons_succ])); exact hK2) ?_
    refine j_bor (fun K2 hK2 => by (repeat (first | refine s_p ?_ | refine s_c (by omega) ?_ | refine S.ld ?_ | refine S.ldB ?_ | refine S.ce ?_ | refine S.ceB ?_ | refine s_q ?_ | refine s_qc (by omega) ?_ | refine n_some ?_ | rw [List.getD_cons_zero] | rw [List.getD_cons_succ])); exact hK2) ?_
    refine j_bor (c := !f a.re b.re) (fun K2 hK2 => ?_) ?_
    · (repeat (first | refine s_p ?_ | refine s_c (by omega) ?_ | refine S.ld ?_ | refine S.ldB ?_ | refine S.ce ?_ | refine S.ceB ?_ | refine s_q ?_ | refine s_qc (by omega) ?_ | refine n_some ?_ | rw [List.getD_cons_zero] | rw [List.getD_cons_succ]))
      refine hf _ _ _ _ ?_
      (repeat (first | refine s_p ?_ | refine s_c (by omega) ?_ | refine S.ld ?_ | refine S.ldB ?_ | refine S.ce ?_ | refine S.ceB ?_ | refine s_q ?_ | refine s_qc (by omega) ?_ | refine n_some ?_ | rw [List.getD_cons_zero] | rw [List.getD_cons_succ]))
      exact hK2
    refine c_b (fun hne => ?_) (fun heq => ?_)
    · rw [alikeB_false hne] at h
      exact h _ S.ext
    have S := S.go (Ext.drew _)
    (repeat (first | refine s_p ?_ | refine s_c (by omega) ?_ | refine S.ld ?_ | refine S.ldB ?_ | refine S.ce ?_ | refine S.ceB ?_ | refine s_q ?_ | refine s_qc (by omega) ?_ | refine n_some ?_ | rw [List.getD_cons_zero] | rw [List.getD_cons_succ]))
    have hk : a.k = b.k := by
      simp only [Bool.or_eq_false_iff, decide_eq_false_iff_not, Classical.not_not] at heq
      exact heq.1.1.1
    rcases look_cases ha with ⟨hof, hka⟩ | ⟨u, hof, hu, hka⟩
    · rw [alikeB_nil hof, heq] at h
      refine j_or (fun _ => ?_) (fun hn => absurd (by rw [hof]; rfl) hn)
      exact h _ S.ext
    · rcases look_cases hb with ⟨_, hkb⟩ | ⟨x, hofx, hx, hkb⟩
      · exfalso; omega
      rw [alikeB_one hof hofx, heq] at h
      have hla : 0 < a.of.length := by rw [hof]; exact Nat.one_pos
      have hlb : 0 < b.of.length := by rw [hofx]; exact Nat.one_pos
      refine j_or (fun hn => by omega) (fun _ => ?_)
      intro K2 hK2
      obtain ⟨ba, oa, ca, rfl, hca, hcella, hta⟩ := ty_elem S hofa hla
      obtain ⟨bb, ob, cb, rfl, hcb, hcellb, htb⟩ := ty_elem S hofb hlb
      have hau : a.of[0] = u := by simp [hof]
      have hbx : b.of[0] = x := by simp [hofx]
      rw [hau] at hta; rw [hbx] at htb
      (repeat (first | refine s_p ?_ | refine s_c (by omega) ?_ | refine S.ld ?_ | refine S.ldB ?_ | refine S.ce ?_ | refine S.ceB ?_ | refine s_q ?_ | refine s_qc (by omega) ?_ | refine n_some ?_ | rw [List.getD_cons_zero] | rw [List.getD_cons_succ]))
      refine s_ldN (n := 5) hca (by simpa using hcella) ?_
      (repeat (first | refine s_p ?_ | refine s_c (by omega) ?_ | refine S.ld ?_ | refine S.ldB ?_ | refine S.ce ?_ | refine S.ceB ?_ | refine s_q ?_ | refine s_qc (by omega) ?_ | refine n_some ?_ | rw [List.getD_cons_zero] | rw [List.getD_cons_succ]))
      refine s_ldN (n := 5) hcb (by simpa using hcellb) ?_
      (repeat (first | refine s_p ?_ | refine s_c (by omega) ?_ | refine S.ld ?_ | refine S.ldB ?_ | refine S.ce ?_ | refine S.ceB ?_ | refine s_q ?_ | refine s_qc (by omega) ?_ | refine n_some ?_ | rw [List.getD_cons_zero] | rw [List.getD_cons_succ]))
      refine ih S.holds hta htb hu hx fun w5 e5 => ?_
      refine hK2 _ _ ?_
      simpa using h _ (S.go e5).ext
/-- both may be, and are alike -/
def alikeT (f : Int → Int → Bool) (a b : TyD) : Bool := (isB a && isB b) && alikeB f 48 a b
def fAll (_ _ : Int) : Bool := true
def fEq (x y : Int) : Bool := decide (x = y)
theorem hf_fAll (x y : Int) (w : World) (K : Value → World → Prop) (hk : K (.bool (fAll x y)) w) : oCallV Tryd.prog (.func (.func Tryd.n_types_Alike_1) #[] #[]) #[.int .i64 x, .int .i64 y] w K := by
  refine v_func (by kernel_rfl) ?_
  refine Tryd.ok_types_Alike_1 (t0 := .int .i64 x) (t1 := .int .i64 y) ?_
  unfold Tryd.F_types_Alike_1
  exact hk
theorem hf_fEq (x y : Int) (w : World) (K : Value → World → Prop) (hk : K (.bool (fEq x y)) w) : oCallV Tryd.prog (.func (.func Tryd.n_types_Same_1) #[] #[]) #[.int .i64 x, .int .i64 y] w K := by
  refine v_func (by kernel_rfl) ?_
  refine Tryd.ok_types_Same_1 (t0 := .int .i64 x) (t1 := .int .i64 y) ?_
  unfold Tryd.F_types_Same_1
  (first | refine s_p ?_ | refine s_c (by omega) ?_)
  exact hk
theorem c_types_Alike {a b : TyD} {w : World} {r : Gh} {va vb : Value} {K : Value → World → Prop} (hr : Holds r w) (ha : TyG r va a) (hb : TyG r vb b)
    (h : ∀ w', Ext w w' → K (.bool (alikeT fAll a b)) w') : oCall Tryd.prog Tryd.n_types_Alike #[va, vb] w K := by
  refine Tryd.ok_types_Alike ?_
  unfold Tryd.F_types_Alike
  have ha0 := ha; have hb0 := hb
  obtain ⟨p, cap, rfl, _⟩ := ha
  obtain ⟨q, cap', rfl, _⟩ := hb
  have S := St.start hr
  refine S.box fun b2 w1 S => ?_
  refine S.box fun b3 w2 S => ?_
  (repeat (first | refine s_p ?_ | refine s_c (by omega) ?_ | refine S.ld ?_ | refine S.ldB ?_ | refine S.ce ?_ | refine S.ceB ?_ | refine s_q ?_ | refine s_qc (by omega) ?_ | refine n_some ?_ | rw [List.getD_cons_zero] | rw [List.getD_cons_succ]))
  refine c_types_may S.holds ha0 fun w3 e3 => ?_
  have S := S.go e3
  refine j_bandE (c := isB b) (fun _ K2 hK2 => ?_) fun w4 e4 => ?_
  · (repeat (first | refine s_p ?_ | refine s_c (by omega) ?_ | refine S.ld ?_ | refine S.ldB ?_ | refine S.ce ?_ | refine S.ceB ?_ | refine s_q ?_ | refine s_qc (by omega) ?_ | refine n_some ?_ | rw [List.getD_cons_zero] | rw [List.getD_cons_succ]))
    exact c_types_may S.holds hb0 fun w4 e4 => hK2 _ e4
  have S := S.go e4
  refine j_bandE (c := alikeB fAll 48 a b) (fun hab K2 hK2 => ?_) fun w5 e5 => h _ (S.go e5).ext
  simp only [Bool.and_eq_true] at hab
  (repeat (first | refine s_p ?_ | refine s_c (by omega) ?_ | refine S.ld ?_ | refine S.ldB ?_ | refine S.ce ?_ | refine S.ceB ?_ | refine s_q ?_ | refine s_qc (by omega) ?_ | refine n_some ?_ | rw [List.getD_cons_zero] | rw [List.getD_cons_succ]))
  refine c_types_alike (f := fAll) (s := 32) hf_fAll 48 S.holds ha0 hb0 hab.1 hab.2 fun w5 e5 => ?_
  exact hK2 _ e5
theorem c_types_Same {a b : TyD} {w : World} {r : Gh} {va vb : Value} {K : Value → World → Prop} (hr : Holds r w) (ha : TyG r va a) (hb : TyG r vb b)
    (h : ∀ w', Ext w w' → K (.bool (alikeT fEq a b)) w') : oCall Tryd.prog Tryd.n_types_Same #[va, vb] w K := by
  refine Tryd.ok_types_Same ?_
  unfold Tryd.F_types_Same
  have ha0 := ha; have hb0 := hb
  obtain ⟨p, cap, rfl, _⟩ := ha
  obtain ⟨q, cap', rfl, _⟩ := hb
  have S := St.start hr
  refine S.box fun b2 w1 S => ?_
  refine S.box fun b3 w2 S => ?_
  (repeat (first | refine s_p ?_ | refine s_c (by omega) ?_ | refine S.ld ?_ | refine S.ldB ?_ | refine S.ce ?_ | refine S.ceB ?_ | refine s_q ?_ | refine s_qc (by omega) ?_ | refine n_some ?_ | rw [List.getD_cons_zero] | rw [List.getD_cons_succ]))
  refine c_types_may S.holds ha0 fun w3 e3 => ?_
  have S := S.go e3
  refine j_bandE (c := isB b) (fun _ K2 hK2 => ?_) fun w4 e4 => ?_
  · (repeat (first | refine s_p ?_ | refine s_c (by omega) ?_ | refine S.ld ?_ | refine S.ldB ?_ | refine S.ce ?_ | refine S.ceB ?_ | refine s_q ?_ | refine s_qc (by omega) ?_ | refine n_some ?_ | rw [List.getD_cons_zero] | rw [List.getD_cons_succ]))
    exact c_types_may S.holds hb0 fun w4 e4 => hK2 _ e4
  have S := S.go e4
  refine j_bandE (c := alikeB fEq 48 a b) (fun hab K2 hK2 => ?_) fun w5 e5 => h _ (S.go e5).ext
  simp only [Bool.and_eq_true] at hab
  (repeat (first | refine s_p ?_ | refine s_c (by omega) ?_ | refine S.ld ?_ | refine S.ldB ?_ | refine S.ce ?_ | refine S.ceB ?_ | refine s_q ?_ | refine s_qc (by omega) ?_ | refine n_some ?_ | rw [List.getD_cons_zero] | rw [List.getD_cons_succ]))
  refine c_types_alike (f := fEq) (s := 32) hf_fEq 48 S.holds ha0 hb0 hab.1 hab.2 fun w5 e5 => ?_
  exact hK2 _ e5
def fReg (g : Bool) (x y : Int) : Bool := !(g && decide (x ≠ y))
theorem c_ref06_alike {g : Bool} {s : Int} :
    ∀ (n : Nat) {a b : TyD} {w : World} {r : Gh} {va vb : Value} {K : Value → World → Prop}, Holds r w → TyG r va a → TyG r vb b → lookB s n a = true → lookB s n b = true →
    (∀ w', Ext w w' → K (.bool (alikeB (fReg g) n a b)) w') → oCall Tryd.prog Tryd.n_ref06_alike #[va, vb, .bool g] w K := by
  intro n
  induction n with
  | zero => intro a b w r va vb K _ _ _ h; cases h
  | succ n ih =>
    intro a b w r va vb K hr hva hvb ha hb h
    refine Tryd.ok_ref06_alike ?_
    unfold Tryd.F_ref06_alike
    obtain ⟨p, cap, rfl, _, _, hofa⟩ := hva
    obtain ⟨q, cap', rfl, _, _, hofb⟩ := hvb
    have S := St.start hr
    refine S.box fun b3 w1 S => ?_
    refine S.box fun b4 w2 S => ?_
    (repeat (first | refine s_p ?_ | refine s_c (by omega) ?_ | refine S.ld ?_ | refine S.ldB ?_ | refine S.ce ?_ | refine S.ceB ?_ | refine s_q ?_ | refine s_qc (by omega) ?_ | refine n_some ?_ | rw [List.getD_cons_zero] | rw [List.getD_cons_succ]))
    refine j_bor (fun K2 hK2 => by (repeat (first | refine s_p ?_ | refine s_c (by omega) ?_ | refine S.ld ?_ | refine S.ldB ?_ | refine S.ce ?_ | refine S.ceB ?_ | refine s_q ?_ | refine s_qc (by omega) ?_ | refine n_some ?_ | rw [List.getD_cons_zero] | rw [List.getD_cons_succ])); exact hK2) ?_
    refine j_bor (fun K2 hK2 => by (repeat (first | refine s_p ?_ | refine s_c (by omega) ?_ | refine S.ld ?_ | refine S.ldB ?_ | refine S.ce ?_ | refine S.ceB ?_ | refine s_q ?_ | refine s_qc (by omega) ?_ | refine n_some ?_ | rw [List.getD_cons_zero] | rw [List.getD_cons_succ])); exact hK2) ?_
    refine j_borand (c := decide (a.re ≠ b.re)) (fun K2 hK2 => ?_) ?_
    · (repeat (first | refine s_p ?_ | refine s_c (by omega) ?_ | refine S.ld ?_ | refine S.ldB ?_ | refine S.ce ?_ | refine S.ceB ?_ | refine s_q ?_ | refine s_qc (by omega) ?_ | refine n_some ?_ | rw [List.getD_cons_zero] | rw [List.getD_cons_succ]))
      exact hK2
    have hfr : (g && decide (a.re ≠ b.re)) = !fReg g a.re b.re := by simp [fReg]
    rw [hfr]
    refine c_b (fun hne => ?_) (fun heq => ?_)
    · rw [alikeB_false hne] at h
      exact h _ S.ext
    have S := S.go (Ext.drew _)
    (repeat (first | refine s_p ?_ | refine s_c (by omega) ?_ | refine S.ld ?_ | refine S.ldB ?_ | refine S.ce ?_ | refine S.ceB ?_ | refine s_q ?_ | refine s_qc (by omega) ?_ | refine n_some ?_ | rw [List.getD_cons_zero] | rw [List.getD_cons_succ]))
    have hk : a.k = b.k := by
      simp only [Bool.or_eq_false_iff, decide_eq_false_iff_not, Classical.not_not] at heq
      exact heq.1.1.1
    rcases look_cases ha with ⟨hof, hka⟩ | ⟨u, hof, hu, hka⟩
    · rw [alikeB_nil hof, heq] at h
      refine j_or (fun _ => ?_) (fun hn => absurd (by rw [hof]; rfl) hn)
      exact h _ S.ext
    · rcases look_cases hb with ⟨_, hkb⟩ | ⟨x, hofx, hx, hkb⟩
      · exfalso; omega
      rw [alikeB_one hof hofx, heq] at h
      have hla : 0 < a.of.length := by rw [hof]; exact Nat.one_pos
      have hlb : 0 < b.of.length := by rw [hofx]; exact Nat.one_pos
      refine j_or (fun hn => by omega) (fun _ => ?_)
      intro K2 hK2
      obtain ⟨ba, oa, ca, rfl, hca, hcella, hta⟩ := ty_elem S hofa hla
      obtain ⟨bb, ob, cb, rfl, hcb, hcellb, htb⟩ := ty_elem S hofb hlb
      have hau : a.of[0] = u := by simp [hof]
      have hbx : b.of[0] = x := by simp [hofx]
      rw [hau] at hta; rw [hbx] at htb
      (repeat (first | refine s_p ?_ | refine s_c (by omega) ?_ | refine S.ld ?_ | refine S.ldB ?_ | refine S.ce ?_ | refine S.ceB ?_ | refine s_q ?_ | refine s_qc (by omega) ?_ | refine n_some ?_ | rw [List.getD_cons_zero] | rw [List.getD_cons_succ]))
      refine s_ldN (n := 5) hca (by simpa using hcella) ?_
      (repeat (first | refine s_p ?_ | refine s_c (by omega) ?_ | refine S.ld ?_ | refine S.ldB ?_ | refine S.ce ?_ | refine S.ceB ?_ | refine s_q ?_ | refine s_qc (by omega) ?_ | refine n_some ?_ | rw [List.getD_cons_zero] | rw [List.getD_cons_succ]))
      refine s_ldN (n := 5) hcb (by simpa using hcellb) ?_
      (repeat (first | refine s_p ?_ | refine s_c (by omega) ?_ | refine S.ld ?_ | refine S.ldB ?_ | refine S.ce ?_ | refine S.ceB ?_ | refine s_q ?_ | refine s_qc (by omega) ?_ | refine n_some ?_ | rw [List.getD_cons_zero] | rw [List.getD_cons_succ]))
      refine ih S.holds hta htb hu hx fun w5 e5 => ?_
      refine hK2 _ _ ?_
      simpa using h _ (S.go e5).ext
theorem fReg_false : fReg false = fAll := by funext x y; simp [fReg, fAll]
theorem fReg_true : fReg true = fEq := by funext x y; simp [fReg, fEq]
theorem c_ref06_Alike {a b : TyD} {w : World} {r : Gh} {va vb : Value} {K : Value → World → Prop} (hr : Holds r w) (ha : TyG r va a) (hb : TyG r vb b)
    (h : ∀ w', Ext w w' → K (.bool (alikeT fAll a b)) w') : oCall Tryd.prog Tryd.n_ref06_Alike #[va, vb] w K := by
  refine Tryd.ok_ref06_Alike ?_
  unfold Tryd.F_ref06_Alike
  have ha0 := ha; have hb0 := hb
  obtain ⟨p, cap, rfl, _⟩ := ha
  obtain ⟨q, cap', rfl, _⟩ := hb
  have S := St.start hr
  refine S.box fun b2 w1 S => ?_
  refine S.box fun b3 w2 S => ?_
  (repeat (first | refine s_p ?_ | refine s_c (by omega) ?_ | refine S.ld ?_ | refine S.ldB ?_ | refine S.ce ?_ | refine S.ceB ?_ | refine s_q ?_ | refine s_qc (by omega) ?_ | refine n_some ?_ | rw [List.getD_cons_zero] | rw [List.getD_cons_succ]))
  refine c_ref06_Is S.holds ha0 fun w3 e3 => ?_
  have S := S.go e3
  refine j_bandE (c := isB b) (fun _ K2 hK2 => ?_) fun w4 e4 => ?_
  · (repeat (first | refine s_p ?_ | refine s_c (by omega) ?_ | refine S.ld ?_ | refine S.ldB ?_ | refine S.ce ?_ | refine S.ceB ?_ | refine s_q ?_ | refine s_qc (by omega) ?_ | refine n_some ?_ | rw [List.getD_cons_zero] | rw [List.getD_cons_succ]))
    exact c_ref06_Is S.holds hb0 fun w4 e4 => hK2 _ e4
  have S := S.go e4
  refine j_bandE (c := alikeB fAll 48 a b) (fun hab K2 hK2 => ?_) fun w5 e5 => h _ (S.go e5).ext
  simp only [Bool.and_eq_true] at hab
  (repeat (first | refine s_p ?_ | refine s_c (by omega) ?_ | refine S.ld ?_ | refine S.ldB ?_ | refine S.ce ?_ | refine S.ceB ?_ | refine s_q ?_ | refine s_qc (by omega) ?_ | refine n_some ?_ | rw [List.getD_cons_zero] | rw [List.getD_cons_succ]))
  refine c_ref06_alike 48 S.holds ha0 hb0 hab.1 hab.2 fun w5 e5 => ?_
  rw [fReg_false]; exact hK2 _ e5
theorem c_ref06_Same {a b : TyD} {w : World} {r : Gh} {va vb : Value} {K : Value → World → Prop} (hr : Holds r w) (ha : TyG r va a) (hb : TyG r vb b)
    (h : ∀ w', Ext w w' → K (.bool (alikeT fEq a b)) w') : oCall Tryd.prog Tryd.n_ref06_Same #[va, vb] w K := by
  refine Tryd.ok_ref06_Same ?_
  unfold Tryd.F_ref06_Same
  have ha0 := ha; have hb0 := hb
  obtain ⟨p, cap, rfl, _⟩ := ha
  obtain ⟨q, cap', rfl, _⟩ := hb
  have S := St.start hr
  refine S.box fun b2 w1 S => ?_
  refine S.box fun b3 w2 S => ?_
  (repeat (first | refine s_p ?_ | refine s_c (by omega) ?_ | refine S.ld ?_ | refine S.ldB ?_ | refine S.ce ?_ | refine S.ceB ?_ | refine s_q ?_ | refine s_qc (by omega) ?_ | refine n_some ?_ | rw [List.getD_cons_zero] | rw [List.getD_cons_succ]))
  refine c_ref06_Is S.holds ha0 fun w3 e3 => ?_
  have S := S.go e3
  refine j_bandE (c := isB b) (fun _ K2 hK2 => ?_) fun w4 e4 => ?_
  · (repeat (first | refine s_p ?_ | refine s_c (by omega) ?_ | refine S.ld ?_ | refine S.ldB ?_ | refine S.ce ?_ | refine S.ceB ?_ | refine s_q ?_ | refine s_qc (by omega) ?_ | refine n_some ?_ | rw [List.getD_cons_zero] | rw [List.getD_cons_succ]))
    exact c_ref06_Is S.holds hb0 fun w4 e4 => hK2 _ e4
  have S := S.go e4
  refine j_bandE (c := alikeB fEq 48 a b) (fun hab K2 hK2 => ?_) fun w5 e5 => h _ (S.go e5).ext
  simp only [Bool.and_eq_true] at hab
  (repeat (first | refine s_p ?_ | refine s_c (by omega) ?_ | refine S.ld ?_ | refine S.ldB ?_ | refine S.ce ?_ | refine S.ceB ?_ | refine s_q ?_ | refine s_qc (by omega) ?_ | refine n_some ?_ | rw [List.getD_cons_zero] | rw [List.getD_cons_succ]))
  refine c_ref06_alike 48 S.holds ha0 hb0 hab.1 hab.2 fun w5 e5 => ?_
  rw [fReg_true]; exact hK2 _ e5
end Go.Proofs
end

section
namespace Go.Proofs
open Go.Sh
set_option maxRecDepth 100000

namespace TyD
mutual
def chain : TyD → List TyD
  | mk k m re st of => mk k m re st of :: chains of
def chains : List TyD → List TyD
  | [] => []
  | t :: _ => chain t
end
theorem chain_eq : ∀ t : TyD, t.chain = t :: chains t.of
  | mk _ _ _ _ _ => rfl
/-- the regions, from the outermost in -/
def regsL (l : List TyD) : List Int := (l.filter fun u => decide (u.k = 4)).map re
def regs (t : TyD) : List Int := regsL t.chain
theorem regs_eq (t : TyD) : t.regs = (if t.k = 4 then [t.re] else []) ++ regsL (chains t.of) := by
  rw [regs, chain_eq, regsL, List.filter_cons]
  by_cases h : t.k = 4
  · simp only [h, decide_true, if_true]; rfl
  · simp only [h, decide_false, if_false]; rfl
theorem chains_eq {l : List TyD} (h : 0 < l.length) : chains l = chain l[0] := by
  cases l with
  | nil => cases h
  | cons t l => rfl
end TyD
def ints (l : List Int) : List Value := l.map (.int .i64)
theorem ints_ones (l : List Int) : ∀ u ∈ ints l, u.oneCell' = true := by
  intro u hu
  obtain ⟨i, _, rfl⟩ := List.mem_map.1 hu; rfl
theorem ints_len (l : List Int) : (ints l).length = l.length := List.length_map ..
/-- at the address lies the type -/
def NdG (r : Gh) (b off : Nat) (t : TyD) : Prop := ∃ c : List Value, c.length = 5 ∧ (∀ j v, c[j]? = some v → Ob r fun w => w.cell? ⟨b, off + j, none⟩ = some v) ∧ TyG r (.agg c.toArray) t
theorem NdG.up {r s : Gh} {b off : Nat} {t : TyD} (h : NdG r b off t) [l : Le r s] : NdG s b off t := by
  obtain ⟨c, h1, h2, h3⟩ := h; exact ⟨c, h1, fun j v hj => (h2 j v hj).up, h3.up⟩
theorem NdG.of {r : Gh} {p : Option Addr} {of : List TyD} (h : RepS r 5 p 0 (TyD.dats of)) {i : Nat} (hi : i < of.length) : ∃ b off, p = some ⟨b, off, none⟩ ∧ NdG r b (off + i * 5) of[i] := by
  rw [TyD.dats_map] at h
  obtain ⟨c, h1, h2, h3⟩ := h.get (i := i) (List.getElem?_eq_getElem (by simpa using hi))
  obtain ⟨b, off, rfl, _⟩ := h2 0 c[0] (List.getElem?_eq_getElem (by omega))
  rw [List.getElem_map] at h3
  refine ⟨b, off, rfl, c, h1, fun j v hj => ?_, TyG.of_rep h3⟩
  obtain ⟨b', off', hp, ho⟩ := h2 j v hj
  cases hp
  rwa [Nat.zero_add] at ho

theorem c_types_regions_1 {X : Nat → Prop} {w0 w : World} {r q : Gh} {L : List Asr} {bl b off : Nat} {v : Value} {n : Nat} {xs : List Value} {t : TyD} {K : Value → World → Prop}
    (S : StX X w0 r w (.cell bl [v] 68 :: .row v 3 1 n xs :: L)) (hn : NdG q b off t) [Le q r] (hl : n < 1000000000)
    (h : ∀ v' w', StX X w0 r w' (.cell bl [v'] 68 :: .row v' 3 1 (n + 1) (xs ++ [.int .i64 t.re]) :: L) → K (.tuple #[]) w') :
    oCall Tryd.prog Tryd.n_types_regions_1 #[.pointer (some ⟨b, off, none⟩), .pointer (some ⟨bl, 0, none⟩)] w K := by
  refine Tryd.ok_types_regions_1 ?_
  unfold Tryd.F_types_regions_1
  obtain ⟨c, hc, hcell, p, cap, hv, _, _, hof⟩ := hn
  cases hv
  have S := S.go (Ext.drew _)
  (repeat (first | refine s_p ?_ | refine s_c (by omega) ?_ | refine S.ld ?_ | refine S.ldB ?_ | refine S.ce ?_ | refine S.ceB ?_ | refine s_q ?_ | refine s_qc (by omega) ?_ | refine n_some ?_ | rw [List.getD_cons_zero] | rw [List.getD_cons_succ]))
  refine s_ld1 (S.at (hcell 2 _ rfl)) ?_
  refine S.litU (e := 3) (cs := [.int .i64 t.re]) (by kernel_rfl) fun b3 w3 S => ?_
  refine S.ap (Sl.blk (S.blk b3)) (fun v4 w4 S => ?_) (by omega)
  refine S.st (h1 := S.row1 v4) fun w5 S => ?_
  exact h _ _ S.tl
theorem c_types_walk_regs : ∀ (k : Nat) {t : TyD} {X : Nat → Prop} {w0 w : World} {r q : Gh} {L : List Asr} {bl b off : Nat} {v : Value} {n : Nat} {xs : List Value} {K : Value → World → Prop} [Le q r], t.ht ≤ k →
    StX X w0 r w (.cell bl [v] 68 :: .row v 3 1 n xs :: L) → NdG q b off t → n + k < 1000000000 →
    (∀ v' w', StX X w0 r w' (.cell bl [v'] 68 :: .row v' 3 1 (n + t.regs.length) (xs ++ ints t.regs) :: L) → K (.tuple #[]) w') →
    oCall Tryd.prog Tryd.n_types_walk #[.pointer (some ⟨b, off, none⟩), .func (.func Tryd.n_types_regions_1) #[] #[.pointer (some ⟨bl, 0, none⟩)]] w K := by
  intro k
  induction k with
  | zero => intro t X w0 w r q L bl b off v n xs K _ ht; exfalso; cases t with | mk k m re st of => exact absurd ht (Nat.not_succ_le_zero _)
  | succ k ih =>
    intro t X w0 w r q L bl b off v n xs K _ ht S hn hk h
    refine Tryd.ok_types_walk ?_
    unfold Tryd.F_types_walk
    have hn0 := hn
    obtain ⟨c, hc, hcell, p, cap, hv, _, _, hof⟩ := hn
    cases hv
    refine j_intro (fun _ w' => ∃ v', StX X w0 r w' (.cell bl [v'] 68 :: .row v' 3 1 (n + (if t.k = 4 then 1 else 0)) (xs ++ (if t.k = 4 then [.int .i64 t.re] else [])) :: L)) (fun K2 hK2 => ?_) ?_
    · (repeat (first | refine s_p ?_ | refine s_c (by omega) ?_ | refine S.ld ?_ | refine S.ldB ?_ | refine S.ce ?_ | refine S.ceB ?_ | refine s_q ?_ | refine s_qc (by omega) ?_ | refine n_some ?_ | rw [List.getD_cons_zero] | rw [List.getD_cons_succ]))
      refine s_ld1 (S.at (hcell 0 _ rfl)) ?_
      (repeat (first | refine s_p ?_ | refine s_c (by omega) ?_ | refine S.ld ?_ | refine S.ldB ?_ | refine S.ce ?_ | refine S.ceB ?_ | refine s_q ?_ | refine s_qc (by omega) ?_ | refine n_some ?_ | rw [List.getD_cons_zero] | rw [List.getD_cons_succ]))
      refine c_if (fun h4 => ?_) (fun h4 => hK2 _ _ ⟨v, by simpa [h4] using S⟩)
      refine v_func (by kernel_rfl) ?_
      show oCall _ _ #[_, _] _ _
      refine c_types_regions_1 S hn0 (by omega) fun v' w' S => hK2 _ _ ⟨v', by simpa [h4] using S⟩
    · rintro s w' ⟨v', S⟩ d
      (repeat (first | refine s_p ?_ | refine s_c (by omega) ?_ | refine S.ld ?_ | refine S.ldB ?_ | refine S.ce ?_ | refine S.ceB ?_ | refine s_q ?_ | refine s_qc (by omega) ?_ | refine n_some ?_ | rw [List.getD_cons_zero] | rw [List.getD_cons_succ]))
      refine s_ld1 (S.at (hcell 4 _ rfl)) ?_
      (repeat (first | refine s_p ?_ | refine s_c (by omega) ?_ | refine S.ld ?_ | refine S.ldB ?_ | refine S.ce ?_ | refine S.ceB ?_ | refine s_q ?_ | refine s_qc (by omega) ?_ | refine n_some ?_ | rw [List.getD_cons_zero] | rw [List.getD_cons_succ]))
      refine c_if (fun hlen => ?_) (fun hlen => ?_)
      · have hlen : 0 < t.of.length := by omega
        obtain ⟨b2, off2, rfl, hn2⟩ := NdG.of hof hlen
        (repeat (first | refine s_p ?_ | refine s_c (by omega) ?_ | refine S.ld ?_ | refine S.ldB ?_ | refine S.ce ?_ | refine S.ceB ?_ | refine s_q ?_ | refine s_qc (by omega) ?_ | refine n_some ?_ | rw [List.getD_cons_zero] | rw [List.getD_cons_succ]))
        refine s_ld1 (S.at (hcell 4 _ rfl)) ?_
        (repeat (first | refine s_p ?_ | refine s_c (by omega) ?_ | refine S.ld ?_ | refine S.ldB ?_ | refine S.ce ?_ | refine S.ceB ?_ | refine s_q ?_ | refine s_qc (by omega) ?_ | refine n_some ?_ | rw [List.getD_cons_zero] | rw [List.getD_cons_succ]))
        have hh := TyD.ht_of (List.getElem_mem hlen)
        refine ih (t := t.of[0]) (by omega) S hn2 (by split <;> omega) fun v3 w3 S => h v3 w3 ?_
        have h1 : t.regs = (if t.k = 4 then [t.re] else []) ++ t.of[0].regs := by rw [TyD.regs_eq, TyD.chains_eq hlen]; rfl
        rw [h1]
        have e1 : n + (if t.k = 4 then 1 else 0) + t.of[0].regs.length = n + ((if t.k = 4 then [t.re] else []) ++ t.of[0].regs).length := by split <;> simp <;> omega
        have e2 : xs ++ (if t.k = 4 then [.int .i64 t.re] else []) ++ ints t.of[0].regs = xs ++ ints ((if t.k = 4 then [t.re] else []) ++ t.of[0].regs) := by split <;> simp [ints]
        rwa [e1, e2] at S
      · have hz : t.of = [] := List.eq_nil_of_length_eq_zero (by omega)
        have h1 : t.regs = (if t.k = 4 then [t.re] else []) := by rw [TyD.regs_eq, hz]; simp [TyD.chains, TyD.regsL]
        refine h v' _ ?_
        rw [h1]
        have e1 : (if t.k = 4 then [t.re] else []).length = (if t.k = 4 then 1 else 0) := by split <;> rfl
        have e2 : ints (if t.k = 4 then [t.re] else []) = (if t.k = 4 then [.int .i64 t.re] else []) := by split <;> rfl
        rwa [e1, e2]
end Go.Proofs
end

section
namespace Go.Proofs
open Go.Sh
set_option maxRecDepth 100000

theorem one_node {b : Nat} {v : Value} {t : TyD} {r : Gh} {T : TypeId} (h : TyG r v t) : NdG (r.or (one b v.cells.toList T)) b 0 t := by
  obtain ⟨c, rfl, hc, hr⟩ := h.rep
  refine ⟨c, hc, fun j x hj w hw => ?_, (TyG.of_rep hr).up⟩
  have B := one_blk (b := b) (c := (Value.agg c.toArray).cells.toList) (T := T) w (hw.le (h := inferInstance))
  show w.cell? ⟨b, 0 + j, none⟩ = some x
  rw [Nat.zero_add, B.cell]
  exact hj
theorem chain_len : ∀ (n : Nat) {t : TyD}, t.ht ≤ n → t.chain.length ≤ n := by
  intro n
  induction n with
  | zero => intro t h; cases t with | mk k m re st of => exact absurd h (Nat.not_succ_le_zero _)
  | succ n ih =>
    intro t h
    rw [TyD.chain_eq, List.length_cons]
    cases hof : t.of with
    | nil => exact Nat.succ_le_succ (Nat.zero_le _)
    | cons u l =>
      have : u.ht < t.ht := TyD.ht_of (by rw [hof]; exact List.mem_cons_self ..)
      exact Nat.succ_le_succ (ih (t := u) (by omega))
theorem regs_len (t : TyD) : t.regs.length ≤ t.ht := by
  rw [TyD.regs, TyD.regsL, List.length_map]
  exact Nat.le_trans (List.length_filter_le _ _) (chain_len _ (Nat.le_refl _))
theorem look_plain {s : Int} {n : Nat} {t : TyD} (h : lookB s (n + 1) t = true) (hk : t.k ≠ 4) : t.m = false ∧ t.re = 0 := by
  rw [lookB_succ] at h
  split at h
  · simp only [Bool.and_eq_true, decide_eq_true_eq, Bool.not_eq_true'] at h; exact h.1.1
  split at h
  · simp only [Bool.and_eq_true, decide_eq_true_eq, Bool.not_eq_true'] at h; exact h.1.1.1
  split at h
  · simp only [Bool.and_eq_true, decide_eq_true_eq, Bool.not_eq_true'] at h; exact h.1.1
  cases h
theorem look_ht : ∀ {n : Nat} {s : Int} {t : TyD}, lookB s n t = true → t.ht ≤ n
  | 0, _, _, h => by cases h
  | n + 1, s, t, h => by
    cases t with
    | mk k m re st of =>
      rcases look_cases h with ⟨hof, _⟩ | ⟨u, hof, hu, _⟩
      · cases hof; exact Nat.succ_le_succ (Nat.zero_le _)
      · cases hof
        refine Nat.succ_le_succ ?_
        show max u.ht 0 ≤ n
        rw [Nat.max_zero]; exact look_ht hu
theorem isB_ht {t : TyD} (h : isB t = true) : t.ht ≤ 48 := look_ht h
/-- a type that may be: regions -/
theorem look_regs {s : Int} {n : Nat} {t : TyD} (h : lookB s (n + 1) t = true) : (t.k ≠ 4 ∧ t.k ≠ 3 ∧ t.of = [] ∧ t.regs = []) ∨ ∃ u, t.of = [u] ∧ lookB s n u = true ∧ (t.k = 3 ∨ t.k = 4) ∧ t.regs = (if t.k = 4 then [t.re] else []) ++ u.regs := by
  rcases look_cases h with ⟨hof, hk⟩ | ⟨u, hof, hu, hk⟩
  · have h4 : t.k ≠ 4 := by omega
    refine .inl ⟨h4, by omega, hof, ?_⟩
    rw [TyD.regs_eq, hof, if_neg h4]; rfl
  · refine .inr ⟨u, hof, hu, hk, ?_⟩
    rw [TyD.regs_eq, hof]; rfl

theorem c_types_regions {t : TyD} {w : World} {r : Gh} {v : Value} {K : Value → World → Prop} (hr : Holds r w) (hv : TyG r v t) (ht : t.ht ≤ 1000000)
    (h : ∀ v' w', Ext w w' → w'.ownsRow w.heap.size 3 1 v' t.regs.length (ints t.regs) → K v' w') : oCall Tryd.prog Tryd.n_types_regions #[v] w K := by
  refine Tryd.ok_types_regions ?_
  unfold Tryd.F_types_regions
  have S := St.start hr
  refine S.box fun b1 w1 S => ?_
  have S := S.frz
  refine S.al fun b3 w3 S => ?_
  (repeat (first | refine s_p ?_ | refine s_c (by omega) ?_ | refine S.ld ?_ | refine S.ldB ?_ | refine S.ce ?_ | refine S.ceB ?_ | refine s_q ?_ | refine s_qc (by omega) ?_ | refine n_some ?_ | rw [List.getD_cons_zero] | rw [List.getD_cons_succ]))
  have S := (S.ownNil 3 1).swap
  refine c_types_walk_regs t.ht (Nat.le_refl _) S (one_node (T := 25) hv) (by omega) fun v' w' S => ?_
  refine S.ld ?_
  rw [Nat.zero_add, List.nil_append] at S
  exact h v' w' S.ext (S.give v')
/-- what Regions tells -/
def regsT (t : TyD) : List Int := if isB t then t.regs else []
theorem c_types_Regions {t : TyD} {w : World} {r : Gh} {v : Value} {K : Value → World → Prop} (hr : Holds r w) (hv : TyG r v t)
    (h : ∀ v' w', Ext w w' → w'.ownsRow w.heap.size 3 1 v' (regsT t).length (ints (regsT t)) → K v' w') : oCall Tryd.prog Tryd.n_types_Regions #[v] w K := by
  refine Tryd.ok_types_Regions ?_
  unfold Tryd.F_types_Regions
  have hv0 := hv
  obtain ⟨p, cap, rfl, _⟩ := hv
  have S := St.start hr
  refine S.box fun b1 w1 S => ?_
  (repeat (first | refine s_p ?_ | refine s_c (by omega) ?_ | refine S.ld ?_ | refine S.ldB ?_ | refine S.ce ?_ | refine S.ceB ?_ | refine s_q ?_ | refine s_qc (by omega) ?_ | refine n_some ?_ | rw [List.getD_cons_zero] | rw [List.getD_cons_succ]))
  refine c_types_may S.holds hv0 fun w2 e2 => ?_
  have S := S.go e2
  (repeat (first | refine s_p ?_ | refine s_c (by omega) ?_ | refine S.ld ?_ | refine S.ldB ?_ | refine S.ce ?_ | refine S.ceB ?_ | refine s_q ?_ | refine s_qc (by omega) ?_ | refine n_some ?_ | rw [List.getD_cons_zero] | rw [List.getD_cons_succ]))
  refine c_b (fun hn => ?_) (fun hb => ?_)
  · have hb : isB t = false := by simpa using hn
    refine h _ _ S.ext ?_
    rw [regsT, hb]
    exact World.ownsRow_nil _ _ _ _
  have hb : isB t = true := by simpa using hb
  (repeat (first | refine s_p ?_ | refine s_c (by omega) ?_ | refine S.ld ?_ | refine S.ldB ?_ | refine S.ce ?_ | refine S.ceB ?_ | refine s_q ?_ | refine s_qc (by omega) ?_ | refine n_some ?_ | rw [List.getD_cons_zero] | rw [List.getD_cons_succ]))
  have e02 := S.ext
  refine c_types_regions S.holds hv0 (by have := isB_ht hb; omega) fun v3 w3 e3 ho => ?_
  have S := S.take e3 ho
  refine h _ _ S.ext ?_
  rw [regsT, hb]
  exact S.give v3
theorem c_ref06_Regions {t : TyD} {w : World} {r : Gh} {v : Value} {K : Value → World → Prop} (hr : Holds r w) (hv : TyG r v t)
    (h : ∀ v' w', Ext w w' → w'.ownsRow w.heap.size 3 1 v' (regsT t).length (ints (regsT t)) → K v' w') : oCall Tryd.prog Tryd.n_ref06_Regions #[v] w K := by
  refine Tryd.ok_ref06_Regions ?_
  unfold Tryd.F_ref06_Regions
  have hv0 := hv
  obtain ⟨p, cap, rfl, _⟩ := hv
  have S := St.start hr
  refine S.box fun b1 w1 S => ?_
  (repeat (first | refine s_p ?_ | refine s_c (by omega) ?_ | refine S.ld ?_ | refine S.ldB ?_ | refine S.ce ?_ | refine S.ceB ?_ | refine s_q ?_ | refine s_qc (by omega) ?_ | refine n_some ?_ | rw [List.getD_cons_zero] | rw [List.getD_cons_succ]))
  refine c_ref06_Is S.holds hv0 fun w2 e2 => ?_
  have S := S.go e2
  (repeat (first | refine s_p ?_ | refine s_c (by omega) ?_ | refine S.ld ?_ | refine S.ldB ?_ | refine S.ce ?_ | refine S.ceB ?_ | refine s_q ?_ | refine s_qc (by omega) ?_ | refine n_some ?_ | rw [List.getD_cons_zero] | rw [List.getD_cons_succ]))
  refine c_b (fun hn => ?_) (fun hb => ?_)
  · have hb : isB t = false := by simpa using hn
    refine h _ _ S.ext ?_
    rw [regsT, hb]
    exact World.ownsRow_nil _ _ _ _
  have hb : isB t = true := by simpa using hb
  have hreg : regsT t = t.regs := by rw [regsT, hb]; rfl
  rw [hreg] at h
  have hlen := Nat.le_trans (regs_len t) (isB_ht hb)
  obtain ⟨c1, hc1, hc15, hrep⟩ := hv0.rep
  rw [show (Value.agg #[.int .u8 t.k, .bool t.m, .int .i64 t.re, .int .i64 t.st, .slice p t.of.length cap]).cells.toList = c1 by rw [hc1]; rfl] at S
  refine l_intro (ι := TyD × Value × List Int × List Value × Nat) (fun i => [i.2.1])
    (fun i w' => lookB 32 i.2.2.2.2 i.1 = true ∧ t.regs = i.2.2.1 ++ i.1.regs ∧ i.2.2.2.1.length = 5 ∧ TyG r (.agg i.2.2.2.1.toArray) i.1 ∧ St w r w' [.row i.2.1 3 1 i.2.2.1.length (ints i.2.2.1), .cell b1 i.2.2.2.1 25])
    (fun i => i.2.2.2.2) (t, .slice none 0 0, [], c1, 48) rfl ⟨hb, rfl, hc15, hc1 ▸ hv0, S.ownNil 3 1⟩ ?_
  clear S
  rintro ⟨u, v4, ds, c, n⟩ d w4 ⟨hu, hds, hc, hty, S⟩ K6 hK6
  simp only at hu hds hc hty S ⊢
  obtain ⟨n, rfl⟩ : ∃ m, n = m + 1 := by cases n with | zero => cases hu | succ n => exact ⟨n, rfl⟩
  obtain ⟨p, cap, hcv, _, _, hof⟩ := hty
  have hcv : c = [.int .u8 u.k, .bool u.m, .int .i64 u.re, .int .i64 u.st, .slice p u.of.length cap] := by
    have := Value.agg.inj hcv; exact List.toArray_inj this
  subst hcv
  (repeat (first | refine s_p ?_ | refine s_c (by omega) ?_ | refine S.ld ?_ | refine S.ldB ?_ | refine S.ce ?_ | refine S.ceB ?_ | refine s_q ?_ | refine s_qc (by omega) ?_ | refine n_some ?_ | rw [List.getD_cons_zero] | rw [List.getD_cons_succ]))
  refine j_bor (fun K2 hK2 => by (repeat (first | refine s_p ?_ | refine s_c (by omega) ?_ | refine S.ld ?_ | refine S.ldB ?_ | refine S.ce ?_ | refine S.ceB ?_ | refine s_q ?_ | refine s_qc (by omega) ?_ | refine n_some ?_ | rw [List.getD_cons_zero] | rw [List.getD_cons_succ])); exact hK2) ?_
  refine c_b (fun hk => ?_) (fun hk => ?_)
  · rcases look_regs hu with ⟨h4, h3, _⟩ | ⟨x, hofx, hx, hk34, hrg⟩
    · exfalso; simp [h4, h3] at hk
    rw [hrg, ← List.append_assoc] at hds
    have hl : 0 < u.of.length := by rw [hofx]; exact Nat.one_pos
    have hux : u.of[0] = x := by simp [hofx]
    refine j_intro (fun s w' => ∃ v', s = [v'] ∧ St w r w' [.row v' 3 1 (ds ++ (if u.k = 4 then [u.re] else [])).length (ints (ds ++ (if u.k = 4 then [u.re] else []))), .cell b1 [.int .u8 u.k, .bool u.m, .int .i64 u.re, .int .i64 u.st, .slice p u.of.length cap] 25]) (fun K2 hK2 => ?_) ?_
    · (repeat (first | refine s_p ?_ | refine s_c (by omega) ?_ | refine S.ld ?_ | refine S.ldB ?_ | refine S.ce ?_ | refine S.ceB ?_ | refine s_q ?_ | refine s_qc (by omega) ?_ | refine n_some ?_ | rw [List.getD_cons_zero] | rw [List.getD_cons_succ]))
      refine c_if (fun h4 => ?_) (fun h4 => hK2 _ _ ⟨v4, rfl, by simpa [h4] using S⟩)
      have hlen2 : ds.length ≤ 48 := by
        have := congrArg List.length hds
        simp only [List.length_append] at this
        omega
      (repeat (first | refine s_p ?_ | refine s_c (by omega) ?_ | refine S.ld ?_ | refine S.ldB ?_ | refine S.ce ?_ | refine S.ceB ?_ | refine s_q ?_ | refine s_qc (by omega) ?_ | refine n_some ?_ | rw [List.getD_cons_zero] | rw [List.getD_cons_succ]))
      refine S.lit (e := 3) (cs := [.int .i64 u.re]) (by kernel_rfl) fun b3 w3 S => ?_
      refine S.ap (Sl.blk (S.blk b3)) (fun v5 w5 S => ?_) (by omega)
      refine hK2 _ _ ⟨v5, rfl, ?_⟩
      simpa [h4, ints] using S.tl
    · rintro s w7 ⟨v5, rfl, S⟩ d7
      (repeat (first | refine s_p ?_ | refine s_c (by omega) ?_ | refine S.ld ?_ | refine S.ldB ?_ | refine S.ce ?_ | refine S.ceB ?_ | refine s_q ?_ | refine s_qc (by omega) ?_ | refine n_some ?_ | rw [List.getD_cons_zero] | rw [List.getD_cons_succ]))
      obtain ⟨ba, oa, ca, rfl, hca, hcella, hta⟩ := ty_elem S hof hl
      rw [hux] at hta
      (repeat (first | refine s_p ?_ | refine s_c (by omega) ?_ | refine S.ld ?_ | refine S.ldB ?_ | refine S.ce ?_ | refine S.ceB ?_ | refine s_q ?_ | refine s_qc (by omega) ?_ | refine n_some ?_ | rw [List.getD_cons_zero] | rw [List.getD_cons_succ]))
      refine s_ldN (n := 5) hca (by simpa using hcella) ?_
      have h1 : ∀ y ∈ ca.toArray.toList, y.oneCell' = true := by
        obtain ⟨p9, cap9, hv9, _⟩ := hta
        rw [Value.agg.inj hv9]; simp [Value.oneCell']
      refine S.stB (hc := by simpa using hca) (h1 := h1) fun w8 S => ?_
      exact hK6 (x, v5, ds ++ (if u.k = 4 then [u.re] else []), ca, n) _ ⟨hx, hds, hca, hta, S⟩ (Nat.lt_succ_self _)
  · rcases look_regs hu with ⟨h4, h3, hofx, hrg⟩ | ⟨x, hofx, hx, hk34, hrg⟩
    · rw [hrg, List.append_nil] at hds
      refine h _ _ S.ext ?_
      rw [hds]
      exact S.give v4
    · exfalso; rcases hk34 with h | h <;> simp [h] at hk
end Go.Proofs
end

section
namespace Go.Proofs
open Go.Sh
set_option maxRecDepth 100000

theorem c_IndexFunc_int {f : Int → Bool} {fv : Value} (hf : ∀ (x : Int) (w : World) (K : Value → World → Prop), K (.bool (f x)) w → oCallV Tryd.prog fv #[.int .i64 x] w K) {w : World} {p : Option Addr} {l : List Int} {cap : Nat} {K : Value → World → Prop}
    (hl : Sl w p (ints l)) (hb : l.length ≤ 1000000000) (h : ∀ i : Int, (0 ≤ i ↔ l.any f = true) → K (.int .i64 i) w) : oCall Tryd.prog Tryd.n_slices_IndexFunc_int_int #[.slice p l.length cap, fv] w K := by
  refine Tryd.ok_slices_IndexFunc_int_int ?_
  unfold Tryd.F_slices_IndexFunc_int_int
  (first | refine s_p ?_ | refine s_c (by omega) ?_)
  refine l_intro (ι := Nat) (fun i => [.int .i64 i]) (fun i w' => w' = w ∧ i ≤ l.length ∧ (l.take i).any f = false) (fun i => l.length - i) 0 rfl ⟨rfl, Nat.zero_le _, by simp⟩ ?_
  rintro i d w' ⟨rfl, hi, hn⟩ K6 hK6
  simp only [List.getD_cons_zero]
  (first | refine s_p ?_ | refine s_c (by omega) ?_)
  refine c_if (fun hlt => ?_) (fun hge => ?_)
  · have hlt : i < l.length := by omega
    obtain ⟨b, off, rfl, hc⟩ := hl.at (i := i) (by rw [ints_len]; exact hlt)
    (first | refine s_p ?_ | refine s_c (by omega) ?_)
    have hv : (ints l)[i]'(by rw [ints_len]; exact hlt) = .int .i64 l[i] := by simp [ints]
    rw [hv] at hc
    refine s_ld1 (by simpa using hc) ?_
    refine hf _ _ _ ?_
    have ht : (l.take (i + 1)).any f = ((l.take i).any f || f l[i]) := by
      rw [List.take_succ_eq_append_getElem hlt, List.any_append]; simp only [List.any_cons, List.any_nil, Bool.or_false]
    refine c_b (fun hy => ?_) (fun hno => ?_)
    · refine h _ ⟨fun _ => ?_, fun _ => Int.natCast_nonneg _⟩
      exact List.any_eq_true.2 ⟨l[i], List.getElem_mem hlt, hy⟩
    · (first | refine s_p ?_ | refine s_c (by omega) ?_)
      refine hK6 (i + 1) _ ⟨rfl, hlt, ?_⟩ (by omega)
      rw [ht, hn, hno]; rfl
  · have : i = l.length := by omega
    subst this
    rw [List.take_length] at hn
    exact h _ ⟨fun h => by omega, fun h => by rw [hn] at h; cases h⟩
theorem c_ContainsFunc_int {f : Int → Bool} {fv : Value} (hf : ∀ (x : Int) (w : World) (K : Value → World → Prop), K (.bool (f x)) w → oCallV Tryd.prog fv #[.int .i64 x] w K) {w : World} {p : Option Addr} {l : List Int} {cap : Nat} {K : Value → World → Prop}
    (hl : Sl w p (ints l)) (hb : l.length ≤ 1000000000) (h : K (.bool (l.any f)) w) : oCall Tryd.prog Tryd.n_slices_ContainsFunc_int_int #[.slice p l.length cap, fv] w K := by
  refine Tryd.ok_slices_ContainsFunc_int_int ?_
  unfold Tryd.F_slices_ContainsFunc_int_int
  refine c_IndexFunc_int hf hl hb fun i hi => ?_
  (first | refine s_p ?_ | refine s_c (by omega) ?_)
  have e : decide (i ≥ 0) = l.any f := by
    by_cases hh : l.any f = true
    · rw [hh]; exact decide_eq_true (hi.2 hh)
    · rw [Bool.eq_false_iff.2 hh]; exact decide_eq_false fun h => hh (hi.1 h)
  rw [e]; exact h

/-- pairs of regions, as they lie -/
def cons2 (l : List (Int × Int)) : List Value := l.flatMap fun p => [.int .i64 p.1, .int .i64 p.2]
theorem cons2_append (a b : List (Int × Int)) : cons2 (a ++ b) = cons2 a ++ cons2 b := List.flatMap_append ..
theorem cons2_len (l : List (Int × Int)) : (cons2 l).length = l.length * 2 := by
  induction l with
  | nil => rfl
  | cons p l ih => simp only [cons2, List.flatMap_cons, List.length_append] at *; simp [ih]; omega
theorem cons2_ones (l : List (Int × Int)) : ∀ u ∈ cons2 l, u.oneCell' = true := by
  intro u hu
  obtain ⟨p, _, hu⟩ := List.mem_flatMap.1 hu
  rcases List.mem_cons.1 hu with rfl | hu
  · rfl
  · rcases List.mem_cons.1 hu with rfl | hu
    · rfl
    · cases hu
def stepL (both : Bool) (a b : TyD) : List (Int × Int) := if a.k = 4 then (a.re, b.re) :: (if both then [(b.re, a.re)] else []) else []
def bothL (both : Bool) (a : TyD) : Bool := if a.k = 4 then both || a.m else both
/-- what the types along one chain ask of those along another -/
def asksC : Bool → List TyD → List TyD → List (Int × Int)
  | both, a :: l, b :: m => stepL both a b ++ asksC (bothL both a) l m
  | _, _, _ => []
def asksD (both : Bool) (a b : TyD) : List (Int × Int) := asksC both a.chain b.chain
/-- two that may be and are alike -/
def Alk (n : Nat) (a b : TyD) : Prop := lookB 32 n a = true ∧ lookB 32 n b = true ∧ alikeB fAll n a b = true
theorem alk_cases {n : Nat} {a b : TyD} (h : Alk n a b) : ∃ m, n = m + 1 ∧ a.k = b.k ∧ ((a.k ≠ 4 ∧ a.k ≠ 3 ∧ a.of = [] ∧ ∀ g, asksD g a b = []) ∨
    ∃ x y, a.of = [x] ∧ b.of = [y] ∧ Alk m x y ∧ (a.k = 3 ∨ a.k = 4) ∧ ∀ g, asksD g a b = stepL g a b ++ asksD (bothL g a) x y) := by
  obtain ⟨h1, h2, h3⟩ := h
  cases n with
  | zero => cases h1
  | succ m =>
    have hk : a.k = b.k := by
      rw [alikeB] at h3
      simp only [Bool.and_eq_true, Bool.not_eq_true', Bool.or_eq_false_iff, decide_eq_false_iff_not, Classical.not_not] at h3
      exact h3.1.1.1.1
    refine ⟨m, rfl, hk, ?_⟩
    rcases look_cases h1 with ⟨ha, hka⟩ | ⟨x, ha, hx, hka⟩
    · refine .inl ⟨by omega, by omega, ha, fun g => ?_⟩
      have h4 : a.k ≠ 4 := by omega
      rw [asksD, TyD.chain_eq a, TyD.chain_eq b, asksC, ha, stepL, if_neg h4, TyD.chains]
      rfl
    · rcases look_cases h2 with ⟨_, hkb⟩ | ⟨y, hb, hy, hkb⟩
      · exfalso; omega
      rw [alikeB_one ha hb] at h3
      refine .inr ⟨x, y, ha, hb, ⟨hx, hy, (Bool.and_eq_true _ _ ▸ h3).2⟩, hka, fun g => ?_⟩
      rw [asksD, TyD.chain_eq a, TyD.chain_eq b, asksC, ha, hb]; rfl
theorem asksC_len : ∀ (l m : List TyD) (g : Bool), (asksC g l m).length ≤ 2 * l.length
  | [], _, _ => by simp [asksC]
  | a :: l, [], _ => by simp [asksC]
  | a :: l, b :: m, g => by
    rw [asksC, List.length_append, List.length_cons]
    have := asksC_len l m (bothL g a)
    have : (stepL g a b).length ≤ 2 := by
      rw [stepL]; split
      · split <;> simp
      · simp
    omega
theorem asksD_len {n : Nat} {a b : TyD} {g : Bool} (h : Alk n a b) : (asksD g a b).length ≤ 2 * n := by
  have := asksC_len a.chain b.chain g
  have := chain_len n (look_ht h.1)
  rw [asksD]; omega
theorem c_types_Asks_2 {X : Nat → Prop} {w0 w : World} {r : Gh} {L : List Asr} {bl : Nat} {v : Value} {ds : List (Int × Int)} {x y : Int} {K : Value → World → Prop}
    (S : StX X w0 r w (.cell bl [v] 28 :: .row v 35 2 ds.length (cons2 ds) :: L)) (hl : ds.length < 1000000000)
    (h : ∀ v' w', StX X w0 r w' (.cell bl [v'] 28 :: .row v' 35 2 (ds ++ [(x, y)]).length (cons2 (ds ++ [(x, y)])) :: L) → K (.tuple #[]) w') :
    oCall Tryd.prog Tryd.n_types_Asks_2 #[.int .i64 x, .int .i64 y, .pointer (some ⟨bl, 0, none⟩)] w K := by
  refine Tryd.ok_types_Asks_2 ?_
  unfold Tryd.F_types_Asks_2
  (repeat (first | refine s_p ?_ | refine s_c (by omega) ?_ | refine S.ld ?_ | refine S.ldB ?_ | refine S.ce ?_ | refine S.ceB ?_ | refine s_q ?_ | refine s_qc (by omega) ?_ | refine n_some ?_ | rw [List.getD_cons_zero] | rw [List.getD_cons_succ]))
  refine S.lit (e := 35) (cs := [.int .i64 x, .int .i64 y]) (by kernel_rfl) fun b3 w3 S => ?_
  refine S.ap (Sl.blk (S.blk b3)) (fun v4 w4 S => ?_) (by omega)
  refine S.st (h1 := S.row1 v4) fun w5 S => ?_
  refine h v4 w5 ?_
  rw [cons2_append, List.length_append]
  exact S.tl
end Go.Proofs
end

section
namespace Go.Proofs
open Go.Sh
set_option maxRecDepth 100000

/-- what Asks tells: the pairs, and the error's number -/
def asksT (a b : TyD) : List (Int × Int) × Int :=
  if alikeT fAll a b then (if (a.regs ++ b.regs).any (fun x => decide (x < 0)) then ([], 2) else (asksD false a b, 0)) else ([], 2)
theorem alk_of {a b : TyD} (h : alikeT fAll a b = true) : Alk 48 a b := by
  simp only [alikeT, Bool.and_eq_true] at h
  exact ⟨h.1.1, h.1.2, h.2⟩
theorem asksT_len {a b : TyD} : (asksT a b).1.length ≤ 96 := by
  rw [asksT]
  split
  · rename_i h
    split
    · simp
    · exact asksD_len (alk_of h)
  · simp
theorem hf_neg (x : Int) (w : World) (K : Value → World → Prop) (hk : K (.bool (decide (x < 0))) w) : oCallV Tryd.prog (.func (.func Tryd.n_types_Asks_1) #[] #[]) #[.int .i64 x] w K := by
  refine v_func (by kernel_rfl) ?_
  refine Tryd.ok_types_Asks_1 (t0 := .int .i64 x) ?_
  unfold Tryd.F_types_Asks_1
  (first | refine s_p ?_ | refine s_c (by omega) ?_)
  exact hk
theorem ints_append (a b : List Int) : ints (a ++ b) = ints a ++ ints b := List.map_append ..
structure AskI where
  a : TyD
  b : TyD
  v : Value
  ds : List (Int × Int)
  ca : List Value
  cb : List Value
  g : Bool
  n : Nat
theorem cells_of {r : Gh} {c : List Value} {t : TyD} (h : TyG r (.agg c.toArray) t) : ∃ p cap, c = [.int .u8 t.k, .bool t.m, .int .i64 t.re, .int .i64 t.st, .slice p t.of.length cap] ∧ RepS r 5 p 0 (TyD.dats t.of) := by
  obtain ⟨p, cap, hv, _, _, hof⟩ := h
  exact ⟨p, cap, List.toArray_inj (Value.agg.inj hv), hof⟩
theorem ty_ones {r : Gh} {c : List Value} {t : TyD} (h : TyG r (.agg c.toArray) t) : ∀ y ∈ c.toArray.toList, y.oneCell' = true := by
  obtain ⟨p, cap, rfl, _⟩ := cells_of h
  simp [Value.oneCell']
theorem c_types_Asks {a b : TyD} {w : World} {r : Gh} {va vb : Value} {K : Value → World → Prop} (hr : Holds r w) (ha : TyG r va a) (hb : TyG r vb b)
    (h : ∀ v' w', Ext w w' → w'.ownsRow w.heap.size 35 2 v' (asksT a b).1.length (cons2 (asksT a b).1) → K (.tuple #[v', .int .i64 (asksT a b).2]) w') : oCall Tryd.prog Tryd.n_types_Asks #[va, vb] w K := by
  refine Tryd.ok_types_Asks ?_
  unfold Tryd.F_types_Asks
  obtain ⟨ca, rfl, hca, hra⟩ := ha.rep
  obtain ⟨cb, rfl, hcb, hrb⟩ := hb.rep
  have S := St.start hr
  refine S.box fun b2 w1 S => ?_
  refine S.box fun b3 w2 S => ?_
  rw [show (Value.agg ca.toArray).cells.toList = ca from rfl, show (Value.agg cb.toArray).cells.toList = cb from rfl] at S
  refine S.ldB ?_ hca
  refine S.ldB ?_ hcb
  refine c_types_Alike S.holds ha hb fun w3 e3 => ?_
  have S := S.go e3
  (repeat (first | refine s_p ?_ | refine s_c (by omega) ?_ | refine S.ld ?_ | refine S.ldB ?_ | refine S.ce ?_ | refine S.ceB ?_ | refine s_q ?_ | refine s_qc (by omega) ?_ | refine n_some ?_ | rw [List.getD_cons_zero] | rw [List.getD_cons_succ]))
  refine c_b (fun hn => ?_) (fun hal => ?_)
  · have hal : alikeT fAll a b = false := by simpa using hn
    have e : asksT a b = ([], 2) := by rw [asksT, hal]; rfl
    rw [e] at h
    exact h _ _ S.ext (World.ownsRow_nil _ _ _ _)
  have hal : alikeT fAll a b = true := by simpa using hal
  have hk := alk_of hal
  have hta := look_ht hk.1
  have htb := look_ht hk.2.1
  have hla := regs_len a
  have hlb := regs_len b
  have S := S.go (Ext.drew _)
  refine S.ldB ?_ hca
  refine S.ldB ?_ hcb
  refine c_types_regions S.holds ha (by omega) fun v4 w4 e4 o4 => ⟨e4, ?_⟩
  have S := S.take e4 o4
  refine c_types_regions S.holds hb (by omega) fun v5 w5 e5 o5 => ?_
  have S := S.take e5 o5
  obtain ⟨p5, cap5, rfl, hp5, _, _, hs5⟩ := S.rowS v5
  refine S.ap hs5 (fun v6 w6 S => ?_) (by omega) (by rw [ints_len]; omega) hp5 (ints_ones _)
  rw [← ints_append, ← List.length_append] at S
  obtain ⟨p6, cap6, rfl, hp6, _, _, hs6⟩ := S.rowS v6
  refine c_ContainsFunc_int (f := fun x => decide (x < 0)) hf_neg hs6 (by simp; omega) ?_
  refine c_b (fun hneg => ?_) (fun hneg => ?_)
  · have e : asksT a b = ([], 2) := by rw [asksT, hal, hneg]; rfl
    rw [e] at h
    exact h _ _ S.ext (World.ownsRow_nil _ _ _ _)
  have e : asksT a b = (asksD false a b, 0) := by rw [asksT, hal, hneg]; rfl
  rw [e] at h
  simp only at h
  have hlen := asksD_len (g := false) hk
  refine S.al fun b7 w7 S => ?_
  have S := S.less (fun _ _ h => h) (.cons_cons _ (.cons _ (.cons _ (List.Sublist.refl _))))
  have S := (S.ownNil 35 2).swap
  (repeat (first | refine s_p ?_ | refine s_c (by omega) ?_ | refine S.ld ?_ | refine S.ldB ?_ | refine S.ce ?_ | refine S.ceB ?_ | refine s_q ?_ | refine s_qc (by omega) ?_ | refine n_some ?_ | rw [List.getD_cons_zero] | rw [List.getD_cons_succ]))
  refine l_intro (ι := AskI) (fun i => [.bool i.g])
    (fun i w' => Alk i.n i.a i.b ∧ asksD false a b = i.ds ++ asksD i.g i.a i.b ∧ i.ca.length = 5 ∧ i.cb.length = 5 ∧ TyG r (.agg i.ca.toArray) i.a ∧ TyG r (.agg i.cb.toArray) i.b ∧
      St w r w' [.cell b7 [i.v] 28, .row i.v 35 2 i.ds.length (cons2 i.ds), .cell b3 i.cb 25, .cell b2 i.ca 25])
    (fun i => i.n) ⟨a, b, .slice none 0 0, [], ca, cb, false, 48⟩ rfl ⟨hk, rfl, hca, hcb, ha, hb, S⟩ ?_
  clear S
  rintro ⟨a', b', v, ds, ca', cb', g, n⟩ d w4 ⟨hk', hds, hca', hcb', ha', hb', S⟩ K6 hK6
  simp only at hk' hds hca' hcb' ha' hb' S ⊢
  rw [List.getD_cons_zero]
  obtain ⟨pa, capa, rfl, hofa⟩ := cells_of ha'
  obtain ⟨pb, capb, rfl, hofb⟩ := cells_of hb'
  have hdl : ds.length ≤ 96 := by
    have := congrArg List.length hds
    simp only [List.length_append] at this; omega
  refine j_intro (fun s w' => ∃ v', s = [.bool (bothL g a')] ∧ St w r w' [.cell b7 [v'] 28, .row v' 35 2 (ds ++ stepL g a' b').length (cons2 (ds ++ stepL g a' b')),
      .cell b3 [.int .u8 b'.k, .bool b'.m, .int .i64 b'.re, .int .i64 b'.st, .slice pb b'.of.length capb] 25, .cell b2 [.int .u8 a'.k, .bool a'.m, .int .i64 a'.re, .int .i64 a'.st, .slice pa a'.of.length capa] 25]) (fun K2 hK2 => ?_) ?_
  · (repeat (first | refine s_p ?_ | refine s_c (by omega) ?_ | refine S.ld ?_ | refine S.ldB ?_ | refine S.ce ?_ | refine S.ceB ?_ | refine s_q ?_ | refine s_qc (by omega) ?_ | refine n_some ?_ | rw [List.getD_cons_zero] | rw [List.getD_cons_succ]))
    refine c_if (fun h4 => ?_) (fun h4 => hK2 _ _ ⟨v, by rw [bothL, if_neg h4], by rw [stepL, if_neg h4, List.append_nil]; exact S⟩)
    (repeat (first | refine s_p ?_ | refine s_c (by omega) ?_ | refine S.ld ?_ | refine S.ldB ?_ | refine S.ce ?_ | refine S.ceB ?_ | refine s_q ?_ | refine s_qc (by omega) ?_ | refine n_some ?_ | rw [List.getD_cons_zero] | rw [List.getD_cons_succ]))
    refine v_func (by kernel_rfl) ?_
    show oCall _ _ #[_, _, _] _ _
    refine c_types_Asks_2 S (by omega) fun v8 w8 S => ?_
    refine j_intro (fun _ w' => ∃ v', St w r w' [.cell b7 [v'] 28, .row v' 35 2 (ds ++ stepL g a' b').length (cons2 (ds ++ stepL g a' b')),
      .cell b3 [.int .u8 b'.k, .bool b'.m, .int .i64 b'.re, .int .i64 b'.st, .slice pb b'.of.length capb] 25, .cell b2 [.int .u8 a'.k, .bool a'.m, .int .i64 a'.re, .int .i64 a'.st, .slice pa a'.of.length capa] 25]) (fun K3 hK3 => ?_) ?_
    · refine c_b (fun hg => ?_) (fun hg => hK3 _ _ ⟨v8, by rw [stepL, if_pos h4, hg]; exact S⟩)
      (repeat (first | refine s_p ?_ | refine s_c (by omega) ?_ | refine S.ld ?_ | refine S.ldB ?_ | refine S.ce ?_ | refine S.ceB ?_ | refine s_q ?_ | refine s_qc (by omega) ?_ | refine n_some ?_ | rw [List.getD_cons_zero] | rw [List.getD_cons_succ]))
      refine v_func (by kernel_rfl) ?_
      show oCall _ _ #[_, _, _] _ _
      refine c_types_Asks_2 S (by simp; omega) fun v9 w9 S => hK3 _ _ ⟨v9, ?_⟩
      rw [stepL, if_pos h4, hg]
      simpa using S
    · rintro s9 w9 ⟨v9, S⟩ d9
      refine j_bor (c := a'.m) (fun K4 hK4 => ?_) ?_
      · (repeat (first | refine s_p ?_ | refine s_c (by omega) ?_ | refine S.ld ?_ | refine S.ldB ?_ | refine S.ce ?_ | refine S.ceB ?_ | refine s_q ?_ | refine s_qc (by omega) ?_ | refine n_some ?_ | rw [List.getD_cons_zero] | rw [List.getD_cons_succ]))
        exact hK4
      exact hK2 _ _ ⟨v9, by rw [bothL, if_pos h4], S⟩
  · rintro s w5 ⟨v5, rfl, S⟩ d5
    rw [List.getD_cons_zero]
    obtain ⟨m, rfl, hkk, hc⟩ := alk_cases hk'
    rcases hc with ⟨h4, h3, hof, hnil⟩ | ⟨x, y, hofa1, hofb1, hxy, hk34, hst⟩
    · (repeat (first | refine s_p ?_ | refine s_c (by omega) ?_ | refine S.ld ?_ | refine S.ldB ?_ | refine S.ce ?_ | refine S.ceB ?_ | refine s_q ?_ | refine s_qc (by omega) ?_ | refine n_some ?_ | rw [List.getD_cons_zero] | rw [List.getD_cons_succ]))
      refine c_if (fun _ => ?_) (fun hn => absurd (by rw [hof]; rfl) hn)
      (repeat (first | refine s_p ?_ | refine s_c (by omega) ?_ | refine S.ld ?_ | refine S.ldB ?_ | refine S.ce ?_ | refine S.ceB ?_ | refine s_q ?_ | refine s_qc (by omega) ?_ | refine n_some ?_ | rw [List.getD_cons_zero] | rw [List.getD_cons_succ]))
      rw [hnil, List.append_nil] at hds
      rw [stepL, if_neg h4, List.append_nil] at S
      refine h v5 w5 S.ext ?_
      rw [hds]
      exact S.give v5
    · have hl1 : 0 < a'.of.length := by rw [hofa1]; exact Nat.one_pos
      have hl2 : 0 < b'.of.length := by rw [hofb1]; exact Nat.one_pos
      obtain ⟨ba, oa, rfl, ca2, hca2, hcella, hta2⟩ := NdG.of hofa hl1
      obtain ⟨bb, ob, rfl, cb2, hcb2, hcellb, htb2⟩ := NdG.of hofb hl2
      have hax : a'.of[0] = x := by simp [hofa1]
      have hby : b'.of[0] = y := by simp [hofb1]
      rw [hax] at hta2; rw [hby] at htb2
      (repeat (first | refine s_p ?_ | refine s_c (by omega) ?_ | refine S.ld ?_ | refine S.ldB ?_ | refine S.ce ?_ | refine S.ceB ?_ | refine s_q ?_ | refine s_qc (by omega) ?_ | refine n_some ?_ | rw [List.getD_cons_zero] | rw [List.getD_cons_succ]))
      refine c_if (fun hz => by omega) (fun _ => ?_)
      have S := S.go (Ext.drew _)
      (repeat (first | refine s_p ?_ | refine s_c (by omega) ?_ | refine S.ld ?_ | refine S.ldB ?_ | refine S.ce ?_ | refine S.ceB ?_ | refine s_q ?_ | refine s_qc (by omega) ?_ | refine n_some ?_ | rw [List.getD_cons_zero] | rw [List.getD_cons_succ]))
      refine s_ldN (n := 5) hca2 (fun j v hj => by simpa using S.at (hcella j v hj)) ?_
      (repeat (first | refine s_p ?_ | refine s_c (by omega) ?_ | refine S.ld ?_ | refine S.ldB ?_ | refine S.ce ?_ | refine S.ceB ?_ | refine s_q ?_ | refine s_qc (by omega) ?_ | refine n_some ?_ | rw [List.getD_cons_zero] | rw [List.getD_cons_succ]))
      have hone1 := ty_ones hta2
      have hone2 := ty_ones htb2
      have hq : ∀ w9, St w r w9 [.cell b7 [v5] 28, .row v5 35 2 (ds ++ stepL g a' b').length (cons2 (ds ++ stepL g a' b')), .cell b3 cb2 25, .cell b2 ca2 25] → K6 [.bool (bothL g a')] w9 := fun w9 S => by
        rw [hst, ← List.append_assoc] at hds
        exact hK6 ⟨x, y, v5, ds ++ stepL g a' b', ca2, cb2, bothL g a', m⟩ w9 ⟨hxy, hds, hca2, hcb2, hta2, htb2, S⟩ (Nat.lt_succ_self _)
      refine ⟨w_qE ?_, ?_⟩
      · (repeat (first | refine s_p ?_ | refine s_c (by omega) ?_ | refine S.ld ?_ | refine S.ldB ?_ | refine S.ce ?_ | refine S.ceB ?_ | refine s_q ?_ | refine s_qc (by omega) ?_ | refine n_some ?_ | rw [List.getD_cons_zero] | rw [List.getD_cons_succ]))
        refine ⟨w_qE ?_, ?_⟩
        · refine s_ldN (n := 5) hcb2 (fun j v hj => by simpa using S.at (hcellb j v hj)) ?_
          refine S.stB (hc := by simpa using hca2) (h1 := hone1) fun w6 S => ?_
          refine S.stB (hc := by simpa using hcb2) (h1 := hone2) fun w7 S => ?_
          exact hq _ S
        · refine S.stB (hc := by simpa using hca2) (h1 := hone1) fun w6 S => ?_
          refine w_qE ?_
          refine s_ldN (n := 5) hcb2 (fun j v hj => by simpa using S.at (hcellb j v hj)) ?_
          refine S.stB (hc := by simpa using hcb2) (h1 := hone2) fun w7 S => ?_
          exact hq _ S
      · refine S.stB (hc := by simpa using hca2) (h1 := hone1) fun w6 S => ?_
        refine w_qE ?_
        (repeat (first | refine s_p ?_ | refine s_c (by omega) ?_ | refine S.ld ?_ | refine S.ldB ?_ | refine S.ce ?_ | refine S.ceB ?_ | refine s_q ?_ | refine s_qc (by omega) ?_ | refine n_some ?_ | rw [List.getD_cons_zero] | rw [List.getD_cons_succ]))
        refine w_qE ?_
        refine s_ldN (n := 5) hcb2 (fun j v hj => by simpa using S.at (hcellb j v hj)) ?_
        refine S.stB (hc := by simpa using hcb2) (h1 := hone2) fun w7 S => ?_
        exact hq _ S
end Go.Proofs
end

section
namespace Go.Proofs
open Go.Sh
set_option maxRecDepth 100000

theorem c_ref06_asks : ∀ (n : Nat) {a b : TyD} {g : Bool} {w : World} {r : Gh} {va vb : Value} {K : Value → World → Prop}, n ≤ 48 → Alk n a b → Holds r w → TyG r va a → TyG r vb b →
    (∀ v' w', Ext w w' → w'.ownsRow w.heap.size 35 2 v' (asksD g a b).length (cons2 (asksD g a b)) → K v' w') → oCall Tryd.prog Tryd.n_ref06_asks #[va, vb, .bool g] w K := by
  intro n
  induction n with
  | zero => intro a b g w r va vb K _ hk; obtain ⟨m, hm, _⟩ := alk_cases hk; cases hm
  | succ n ih =>
    intro a b g w r va vb K hn hk hr ha hb h
    refine Tryd.ok_ref06_asks ?_
    unfold Tryd.F_ref06_asks
    obtain ⟨pa, capa, rfl, _, _, hofa⟩ := ha
    obtain ⟨pb, capb, rfl, _, _, hofb⟩ := hb
    obtain ⟨m, hm, hkk, hc⟩ := alk_cases hk
    cases hm
    have hlen := asksD_len (g := g) hk
    have S := St.start hr
    refine S.box fun b3 w1 S => ?_
    refine S.box fun b4 w2 S => ?_
    (repeat (first | refine s_p ?_ | refine s_c (by omega) ?_ | refine S.ld ?_ | refine S.ldB ?_ | refine S.ce ?_ | refine S.ceB ?_ | refine s_q ?_ | refine s_qc (by omega) ?_ | refine n_some ?_ | rw [List.getD_cons_zero] | rw [List.getD_cons_succ]))
    rcases hc with ⟨h4, h3, hof, hnil⟩ | ⟨x, y, hofa1, hofb1, hxy, hk34, hst⟩
    · refine c_if (fun _ => ?_) (fun hn => absurd (by rw [hof]; rfl) hn)
      rw [hnil] at h
      exact h _ _ S.ext (World.ownsRow_nil _ _ _ _)
    have hl1 : 0 < a.of.length := by rw [hofa1]; exact Nat.one_pos
    have hl2 : 0 < b.of.length := by rw [hofb1]; exact Nat.one_pos
    obtain ⟨ba, oa, rfl, ca2, hca2, hcella, hta2⟩ := NdG.of hofa hl1
    obtain ⟨bb, ob, rfl, cb2, hcb2, hcellb, htb2⟩ := NdG.of hofb hl2
    have hax : a.of[0] = x := by simp [hofa1]
    have hby : b.of[0] = y := by simp [hofb1]
    rw [hax] at hta2; rw [hby] at htb2
    rw [hst] at h hlen
    refine c_if (fun hz => by omega) (fun _ => ?_)
    (repeat (first | refine s_p ?_ | refine s_c (by omega) ?_ | refine S.ld ?_ | refine S.ldB ?_ | refine S.ce ?_ | refine S.ceB ?_ | refine s_q ?_ | refine s_qc (by omega) ?_ | refine n_some ?_ | rw [List.getD_cons_zero] | rw [List.getD_cons_succ]))
    refine c_if (fun h3 => ?_) (fun h3 => ?_)
    · have h4 : a.k ≠ 4 := by omega
      rw [stepL, if_neg h4, bothL, if_neg h4, List.nil_append] at h
      have S := S.go (Ext.drew _)
      (repeat (first | refine s_p ?_ | refine s_c (by omega) ?_ | refine S.ld ?_ | refine S.ldB ?_ | refine S.ce ?_ | refine S.ceB ?_ | refine s_q ?_ | refine s_qc (by omega) ?_ | refine n_some ?_ | rw [List.getD_cons_zero] | rw [List.getD_cons_succ]))
      refine s_ldN (n := 5) hca2 (fun j v hj => by simpa using S.at (hcella j v hj)) ?_
      (repeat (first | refine s_p ?_ | refine s_c (by omega) ?_ | refine S.ld ?_ | refine S.ldB ?_ | refine S.ce ?_ | refine S.ceB ?_ | refine s_q ?_ | refine s_qc (by omega) ?_ | refine n_some ?_ | rw [List.getD_cons_zero] | rw [List.getD_cons_succ]))
      refine s_ldN (n := 5) hcb2 (fun j v hj => by simpa using S.at (hcellb j v hj)) ?_
      refine ih (by omega) hxy S.holds hta2 htb2 fun v' w' e' o' => ?_
      have S := S.take e' o'
      exact h _ _ S.ext (S.give v')
    have h4 : a.k = 4 := by omega
    (repeat (first | refine s_p ?_ | refine s_c (by omega) ?_ | refine S.ld ?_ | refine S.ldB ?_ | refine S.ce ?_ | refine S.ceB ?_ | refine s_q ?_ | refine s_qc (by omega) ?_ | refine n_some ?_ | rw [List.getD_cons_zero] | rw [List.getD_cons_succ]))
    refine S.lit (e := 35) (cs := [.int .i64 a.re, .int .i64 b.re]) (by kernel_rfl) fun b5 w5 S => ?_
    have S := S.toRow 1 2 rfl (by decide)
    refine j_intro (fun s w' => ∃ v', s = [v'] ∧ St w r w' [.row v' 35 2 (stepL g a b).length (cons2 (stepL g a b)), .cell b4 [.int .u8 b.k, .bool b.m, .int .i64 b.re, .int .i64 b.st, .slice (some ⟨bb, ob, none⟩) b.of.length capb] 25,
      .cell b3 [.int .u8 a.k, .bool a.m, .int .i64 a.re, .int .i64 a.st, .slice (some ⟨ba, oa, none⟩) a.of.length capa] 25]) (fun K2 hK2 => ?_) ?_
    · refine c_b (fun hg => ?_) (fun hg => hK2 _ _ ⟨_, rfl, by rw [stepL, if_pos h4, hg]; exact S⟩)
      (repeat (first | refine s_p ?_ | refine s_c (by omega) ?_ | refine S.ld ?_ | refine S.ldB ?_ | refine S.ce ?_ | refine S.ceB ?_ | refine s_q ?_ | refine s_qc (by omega) ?_ | refine n_some ?_ | rw [List.getD_cons_zero] | rw [List.getD_cons_succ]))
      refine S.lit (e := 35) (cs := [.int .i64 b.re, .int .i64 a.re]) (by kernel_rfl) fun b6 w6 S => ?_
      refine S.ap (Sl.blk (S.blk b6)) (fun v7 w7 S => ?_) (by omega)
      refine hK2 _ _ ⟨v7, rfl, ?_⟩
      rw [stepL, if_pos h4, hg]
      exact S.tl
    rintro s w7 ⟨v7, rfl, S⟩ d7
    rw [List.getD_cons_zero]
    have S := S.go (Ext.drew _)
    (repeat (first | refine s_p ?_ | refine s_c (by omega) ?_ | refine S.ld ?_ | refine S.ldB ?_ | refine S.ce ?_ | refine S.ceB ?_ | refine s_q ?_ | refine s_qc (by omega) ?_ | refine n_some ?_ | rw [List.getD_cons_zero] | rw [List.getD_cons_succ]))
    refine s_ldN (n := 5) hca2 (fun j v hj => by simpa using S.at (hcella j v hj)) ?_
    (repeat (first | refine s_p ?_ | refine s_c (by omega) ?_ | refine S.ld ?_ | refine S.ldB ?_ | refine S.ce ?_ | refine S.ceB ?_ | refine s_q ?_ | refine s_qc (by omega) ?_ | refine n_some ?_ | rw [List.getD_cons_zero] | rw [List.getD_cons_succ]))
    refine s_ldN (n := 5) hcb2 (fun j v hj => by simpa using S.at (hcellb j v hj)) ?_
    refine j_bor (c := a.m) (fun K4 hK4 => ?_) ?_
    · (repeat (first | refine s_p ?_ | refine s_c (by omega) ?_ | refine S.ld ?_ | refine S.ldB ?_ | refine S.ce ?_ | refine S.ceB ?_ | refine s_q ?_ | refine s_qc (by omega) ?_ | refine n_some ?_ | rw [List.getD_cons_zero] | rw [List.getD_cons_succ]))
      exact hK4
    have hg2 : bothL g a = (g || a.m) := by rw [bothL, if_pos h4]
    rw [← hg2]
    refine ih (by omega) hxy S.holds hta2 htb2 fun v8 w8 e8 o8 => ?_
    have S := S.take e8 o8
    obtain ⟨p8, cap8, rfl, hp8, _, _, hs8⟩ := S.rowS v8
    simp only [List.length_append] at hlen
    refine S.ap hs8 (fun v9 w9 S => ?_) (by omega) (cons2_len _) hp8 (cons2_ones _)
    rw [← cons2_append, ← List.length_append] at S
    exact h v9 w9 S.ext (S.give v9)
theorem c_ref06_Asks {a b : TyD} {w : World} {r : Gh} {va vb : Value} {K : Value → World → Prop} (hr : Holds r w) (ha : TyG r va a) (hb : TyG r vb b)
    (h : ∀ v' w', Ext w w' → w'.ownsRow w.heap.size 35 2 v' (asksT a b).1.length (cons2 (asksT a b).1) → K (.tuple #[v', .int .i64 (asksT a b).2]) w') : oCall Tryd.prog Tryd.n_ref06_Asks #[va, vb] w K := by
  refine Tryd.ok_ref06_Asks ?_
  unfold Tryd.F_ref06_Asks
  obtain ⟨ca, rfl, hca, hra⟩ := ha.rep
  obtain ⟨cb, rfl, hcb, hrb⟩ := hb.rep
  have S := St.start hr
  refine S.box fun b2 w1 S => ?_
  refine S.box fun b3 w2 S => ?_
  rw [show (Value.agg ca.toArray).cells.toList = ca from rfl, show (Value.agg cb.toArray).cells.toList = cb from rfl] at S
  refine S.ldB ?_ hca
  refine S.ldB ?_ hcb
  refine c_ref06_Alike S.holds ha hb fun w3 e3 => ?_
  have S := S.go e3
  (repeat (first | refine s_p ?_ | refine s_c (by omega) ?_ | refine S.ld ?_ | refine S.ldB ?_ | refine S.ce ?_ | refine S.ceB ?_ | refine s_q ?_ | refine s_qc (by omega) ?_ | refine n_some ?_ | rw [List.getD_cons_zero] | rw [List.getD_cons_succ]))
  refine c_b (fun hn => ?_) (fun hal => ?_)
  · have hal : alikeT fAll a b = false := by simpa using hn
    have e : asksT a b = ([], 2) := by rw [asksT, hal]; rfl
    rw [e] at h
    exact h _ _ S.ext (World.ownsRow_nil _ _ _ _)
  have hal : alikeT fAll a b = true := by simpa using hal
  have hk := alk_of hal
  have hisa : isB a = true := hk.1
  have hisb : isB b = true := hk.2.1
  have hra' : regsT a = a.regs := by rw [regsT, hisa]; rfl
  have hrb' : regsT b = b.regs := by rw [regsT, hisb]; rfl
  have hta := look_ht hk.1
  have htb := look_ht hk.2.1
  have hla := regs_len a
  have hlb := regs_len b
  refine S.ldB ?_ hca
  refine c_ref06_Regions S.holds ha fun v4 w4 e4 o4 => ?_
  rw [hra'] at o4
  have S := S.take e4 o4
  refine S.ldB ?_ hcb
  refine c_ref06_Regions S.holds hb fun v5 w5 e5 o5 => ?_
  rw [hrb'] at o5
  have S := S.take e5 o5
  obtain ⟨p5, cap5, rfl, hp5, _, _, hs5⟩ := S.rowS v5
  refine S.ap hs5 (fun v6 w6 S => ?_) (by omega) (by rw [ints_len]; omega) hp5 (ints_ones _)
  rw [← ints_append, ← List.length_append] at S
  obtain ⟨p6, cap6, rfl, hp6, _, _, hs6⟩ := S.rowS v6
  have hll : (a.regs ++ b.regs).length ≤ 96 := by rw [List.length_append]; omega
  generalize hreg : a.regs ++ b.regs = rs at *
  refine l_intro (ι := Nat) (fun i => [.int .i64 i]) (fun i w' => w' = w6 ∧ i ≤ rs.length ∧ (rs.take i).any (fun x => decide (x < 0)) = false) (fun i => rs.length - i) 0 rfl ⟨rfl, Nat.zero_le _, by simp⟩ ?_
  rintro i d w' ⟨rfl, hi, hn⟩ K6 hK6
  simp only [List.getD_cons_zero]
  (first | refine s_p ?_ | refine s_c (by omega) ?_)
  (first | refine s_p ?_ | refine s_c (by omega) ?_)
  refine c_if (fun hlt => ?_) (fun hge => ?_)
  · have hlt : i < rs.length := by omega
    obtain ⟨b9, off, rfl, hc⟩ := hs6.at (i := i) (by rw [ints_len]; exact hlt)
    (first | refine s_p ?_ | refine s_c (by omega) ?_)
    have hv : (ints rs)[i]'(by rw [ints_len]; exact hlt) = .int .i64 rs[i] := by simp [ints]
    rw [hv] at hc
    refine s_ld1 (by simpa using hc) ?_
    (first | refine s_p ?_ | refine s_c (by omega) ?_)
    refine c_if (fun hneg => ?_) (fun hpos => ?_)
    · have hany : rs.any (fun x => decide (x < 0)) = true := List.any_eq_true.2 ⟨rs[i], List.getElem_mem hlt, by simpa using hneg⟩
      have e : asksT a b = ([], 2) := by rw [asksT, hal, hreg, hany]; rfl
      rw [e] at h
      exact h _ _ S.ext (World.ownsRow_nil _ _ _ _)
    · (first | refine s_p ?_ | refine s_c (by omega) ?_)
      refine hK6 (i + 1) _ ⟨rfl, hlt, ?_⟩ (by omega)
      rw [List.take_succ_eq_append_getElem hlt, List.any_append, hn]
      simp only [List.any_cons, List.any_nil, Bool.or_false, Bool.false_or, decide_eq_false_iff_not]
      exact hpos
  · have : i = rs.length := by omega
    subst this
    rw [List.take_length] at hn
    have e : asksT a b = (asksD false a b, 0) := by rw [asksT, hal, hreg, hn]; rfl
    rw [e] at h
    refine S.ldB ?_ hca
    refine S.ldB ?_ hcb
    refine c_ref06_asks 48 (Nat.le_refl _) hk S.holds ha hb fun v8 w8 e8 o8 => ?_
    have S := S.take e8 o8
    exact h v8 w8 S.ext (S.give v8)
end Go.Proofs
end

section
namespace Go.Proofs
open Go.Sh
set_option maxRecDepth 100000

/-- a number's digits -/
def digsF : Nat → Nat → List UInt8
  | 0, _ => []
  | f + 1, n => if n < 10 then [UInt8.ofNat (48 + n)] else digsF f (n / 10) ++ [UInt8.ofNat (48 + n % 10)]
def itoa (x : Int) : List UInt8 := digsF 20 x.toNat
theorem digsF_len : ∀ f n, (digsF f n).length ≤ f
  | 0, _ => Nat.le_refl _
  | f + 1, n => by
    rw [digsF]; split
    · exact Nat.succ_le_succ (Nat.zero_le _)
    · rw [List.length_append]; exact Nat.succ_le_succ (digsF_len f _)
theorem itoa_len (x : Int) : (itoa x).length ≤ 20 := digsF_len _ _
/-- strconv.Itoa tells this number well, in every world that holds r -/
def ItoaOK (r : Gh) (x : Int) : Prop := ∀ (w : World) (K : Value → World → Prop), Holds r w → (∀ w', Ext w w' → K (.string (bs (itoa x))) w') → oCall Tryd.prog Tryd.n_strconv_Itoa #[.int .i64 x] w K
theorem ItoaOK.up {r s : Gh} {x : Int} (h : ItoaOK r x) [l : Le r s] : ItoaOK s x := fun w K hr k => h w K (hr.le (h := l)) k

def headB (re : Int) (m : Bool) : List UInt8 := ([38] ++ (if 0 ≤ re then [39] ++ itoa re ++ [32] else [])) ++ (if m then [109, 117, 116, 32] else [])
def inText (f : TyD → List UInt8) : List TyD → List UInt8
  | u :: _ => f u
  | [] => []
/-- a type's text -/
def textB : Nat → TyD → List UInt8
  | 0, _ => []
  | n + 1, t => if t.k = 1 then [105, 54, 52] else if t.k = 2 then [98, 111, 111, 108] else
    if t.k = 3 then [66, 111, 120, 60] ++ inText (textB n) t.of ++ [62] else if t.k = 5 then [35] ++ itoa t.st else
    (if headB t.re t.m == [38] && decide (byteAt (inText (textB n) t.of) 0 = 38) then [38, 32] else headB t.re t.m) ++ inText (textB n) t.of
theorem headB_len (re : Int) (m : Bool) : (headB re m).length ≤ 27 := by
  have := itoa_len re
  unfold headB
  split <;> split <;> simp only [List.length_append, List.length_cons, List.length_nil] <;> omega
theorem textB_len : ∀ (n : Nat) (t : TyD), (textB n t).length ≤ 40 * n := by
  intro n
  induction n with
  | zero => intro t; exact Nat.le_refl _
  | succ n ih =>
    intro t
    have hi : (inText (textB n) t.of).length ≤ 40 * n := by
      cases t.of with
      | nil => exact Nat.zero_le _
      | cons u l => exact ih u
    have := itoa_len t.st
    have := headB_len t.re t.m
    rw [textB]
    split
    · simp only [List.length_cons, List.length_nil]; omega
    split
    · simp only [List.length_cons, List.length_nil]; omega
    split
    · simp only [List.length_append, List.length_cons, List.length_nil]; omega
    split
    · simp only [List.length_append, List.length_cons, List.length_nil]; omega
    · rw [List.length_append]
      split
      · simp only [List.length_cons, List.length_nil]; omega
      · omega
theorem headB_pos (re : Int) (m : Bool) : 0 < (headB re m).length := by
  unfold headB; simp only [List.length_append, List.length_cons, List.length_nil]; omega
theorem textB_pos : ∀ (n : Nat) (t : TyD), 0 < (textB (n + 1) t).length := by
  intro n t
  rw [textB]
  have := headB_pos t.re t.m
  split
  · decide
  split
  · decide
  split
  · simp
  split
  · simp
  · rw [List.length_append]
    split
    · simp only [List.length_cons, List.length_nil]; omega
    · omega
/-- Itoa tells all numbers of a type well -/
def NumsOK (r : Gh) (t : TyD) : Prop := ∀ u ∈ t.chain, (0 ≤ u.re → ItoaOK r u.re) ∧ (0 ≤ u.st → ItoaOK r u.st)
theorem NumsOK.up {r s : Gh} {t : TyD} (h : NumsOK r t) [l : Le r s] : NumsOK s t := fun u hu => ⟨fun h0 => ((h u hu).1 h0).up, fun h0 => ((h u hu).2 h0).up⟩
theorem NumsOK.inn {r : Gh} {t u : TyD} (h : NumsOK r t) (ho : t.of = [u]) : NumsOK r u := fun x hx => h x (by rw [TyD.chain_eq, ho]; exact List.mem_cons_of_mem _ hx)
theorem NumsOK.top {r : Gh} {t : TyD} (h : NumsOK r t) : (0 ≤ t.re → ItoaOK r t.re) ∧ (0 ≤ t.st → ItoaOK r t.st) := h t (by rw [TyD.chain_eq]; exact List.mem_cons_self ..)

theorem c_types_text {s : Int} : ∀ (n : Nat) {t : TyD} {w : World} {r : Gh} {v : Value} {K : Value → World → Prop}, n ≤ 1000 → lookB s n t = true → NumsOK r t → Holds r w → TyG r v t →
    (∀ w', Ext w w' → K (.string (bs (textB n t))) w') → oCall Tryd.prog Tryd.n_types_text #[v] w K := by
  intro n
  induction n with
  | zero => intro t w r v K _ h; cases h
  | succ n ih =>
    intro t w r v K hn hl hI hr hv h
    refine Tryd.ok_types_text ?_
    unfold Tryd.F_types_text
    obtain ⟨p, cap, rfl, _, _, hof⟩ := hv
    have S := St.start hr
    refine S.box fun b1 w1 S => ?_
    rw [textB] at h
    (repeat (first | refine s_p ?_ | refine s_c (by omega) ?_ | refine S.ld ?_ | refine S.ldB ?_ | refine S.ce ?_ | refine S.ceB ?_ | refine s_q ?_ | refine s_qc (by omega) ?_ | refine n_some ?_ | rw [List.getD_cons_zero] | rw [List.getD_cons_succ]))
    refine c_if (fun h1 => ?_) (fun h1 => ?_)
    · rw [if_pos h1] at h; exact h _ S.ext
    rw [if_neg h1] at h
    (repeat (first | refine s_p ?_ | refine s_c (by omega) ?_ | refine S.ld ?_ | refine S.ldB ?_ | refine S.ce ?_ | refine S.ceB ?_ | refine s_q ?_ | refine s_qc (by omega) ?_ | refine n_some ?_ | rw [List.getD_cons_zero] | rw [List.getD_cons_succ]))
    refine c_if (fun h2 => ?_) (fun h2 => ?_)
    · rw [if_pos h2] at h; exact h _ S.ext
    rw [if_neg h2] at h
    (repeat (first | refine s_p ?_ | refine s_c (by omega) ?_ | refine S.ld ?_ | refine S.ldB ?_ | refine S.ce ?_ | refine S.ceB ?_ | refine s_q ?_ | refine s_qc (by omega) ?_ | refine n_some ?_ | rw [List.getD_cons_zero] | rw [List.getD_cons_succ]))
    have hbig := textB_len (n + 1) t
    have one : t.k ≠ 5 → ∃ (u : TyD) (ba oa : Nat) (c : List Value), t.of = [u] ∧ p = some ⟨ba, oa, none⟩ ∧ c.length = 5 ∧ (∀ j v, c[j]? = some v → Ob r fun w => w.cell? ⟨ba, oa + 0 * 5 + j, none⟩ = some v) ∧ TyG r (.agg c.toArray) u ∧ lookB s n u = true := by
      intro h5
      rcases look_cases hl with ⟨_, hk⟩ | ⟨u, hofu, hu, _⟩
      · exfalso; omega
      obtain ⟨ba, oa, rfl, c, hc, hcell, ht⟩ := NdG.of hof (i := 0) (by rw [hofu]; exact Nat.one_pos)
      refine ⟨u, ba, oa, c, hofu, rfl, hc, hcell, ?_, hu⟩
      simpa [hofu] using ht
    refine c_if (fun h3 => ?_) (fun h3 => ?_)
    · rw [if_pos h3] at h
      obtain ⟨u, ba, oa, c, hofu, rfl, hc, hcell, ht, hu⟩ := one (by omega)
      rw [hofu] at h
      have hb := textB_len n u
      have hlen : (t.of.length : Int) = 1 := by rw [hofu]; rfl
      (repeat (first | refine s_p ?_ | refine s_c (by omega) ?_ | refine S.ld ?_ | refine S.ldB ?_ | refine S.ce ?_ | refine S.ceB ?_ | refine s_q ?_ | refine s_qc (by omega) ?_ | refine n_some ?_ | rw [List.getD_cons_zero] | rw [List.getD_cons_succ]))
      refine s_ldN (n := 5) hc (fun j v hj => by simpa using S.at (hcell j v hj)) ?_
      refine ih (by omega) hu (hI.inn hofu) S.holds ht fun w2 e2 => ?_
      refine s_c (by simp only [List.length_cons, List.length_nil]; omega) ?_
      refine s_c (by simp only [List.length_append, List.length_cons, List.length_nil]; omega) ?_
      exact h _ (S.go e2).ext
    rw [if_neg h3] at h
    (repeat (first | refine s_p ?_ | refine s_c (by omega) ?_ | refine S.ld ?_ | refine S.ldB ?_ | refine S.ce ?_ | refine S.ceB ?_ | refine s_q ?_ | refine s_qc (by omega) ?_ | refine n_some ?_ | rw [List.getD_cons_zero] | rw [List.getD_cons_succ]))
    refine c_if (fun h5 => ?_) (fun h5 => ?_)
    · rw [if_pos h5] at h
      have hst : 0 ≤ t.st := by
        rw [lookB_succ, if_neg (by omega), if_pos h5] at hl
        simp only [Bool.and_eq_true, decide_eq_true_eq] at hl; exact hl.1.2
      (repeat (first | refine s_p ?_ | refine s_c (by omega) ?_ | refine S.ld ?_ | refine S.ldB ?_ | refine S.ce ?_ | refine S.ceB ?_ | refine s_q ?_ | refine s_qc (by omega) ?_ | refine n_some ?_ | rw [List.getD_cons_zero] | rw [List.getD_cons_succ]))
      refine hI.top.2 hst _ _ S.holds fun w2 e2 => ?_
      have := itoa_len t.st
      refine s_c (by simp only [List.length_cons, List.length_nil]; omega) ?_
      exact h _ (S.go e2).ext
    rw [if_neg h5] at h
    obtain ⟨u, ba, oa, c, hofu, rfl, hc, hcell, ht, hu⟩ := one h5
    rw [hofu] at h
    have hb := textB_len n u
    have hlen : (t.of.length : Int) = 1 := by rw [hofu]; rfl
    have hnp : 0 < (textB n u).length := by
      cases n with
      | zero => cases hu
      | succ n => exact textB_pos n u
    (repeat (first | refine s_p ?_ | refine s_c (by omega) ?_ | refine S.ld ?_ | refine S.ldB ?_ | refine S.ce ?_ | refine S.ceB ?_ | refine s_q ?_ | refine s_qc (by omega) ?_ | refine n_some ?_ | rw [List.getD_cons_zero] | rw [List.getD_cons_succ]))
    refine s_ldN (n := 5) hc (fun j v hj => by simpa using S.at (hcell j v hj)) ?_
    refine ih (by omega) hu (hI.inn hofu) S.holds ht fun w2 e2 => ?_
    have S := S.go e2
    have hil := itoa_len t.re
    refine j_intro (fun x w' => ∃ l, x = [.string (bs l)] ∧ l = [38] ++ (if 0 ≤ t.re then [39] ++ itoa t.re ++ [32] else []) ∧ StX noX w r w' [.cell b1 (Value.agg #[.int .u8 t.k, .bool t.m, .int .i64 t.re, .int .i64 t.st, .slice (some ⟨ba, oa, none⟩) t.of.length cap]).cells.toList 25]) (fun K2 hK2 => ?_) ?_
    · (repeat (first | refine s_p ?_ | refine s_c (by omega) ?_ | refine S.ld ?_ | refine S.ldB ?_ | refine S.ce ?_ | refine S.ceB ?_ | refine s_q ?_ | refine s_qc (by omega) ?_ | refine n_some ?_ | rw [List.getD_cons_zero] | rw [List.getD_cons_succ]))
      refine c_if (fun h0 => ?_) (fun h0 => hK2 _ _ ⟨_, rfl, by rw [if_neg h0]; rfl, S⟩)
      (repeat (first | refine s_p ?_ | refine s_c (by omega) ?_ | refine S.ld ?_ | refine S.ldB ?_ | refine S.ce ?_ | refine S.ceB ?_ | refine s_q ?_ | refine s_qc (by omega) ?_ | refine n_some ?_ | rw [List.getD_cons_zero] | rw [List.getD_cons_succ]))
      refine hI.top.1 h0 _ _ S.holds fun w3 e3 => ?_
      have S := S.go e3
      refine s_c (by simp only [List.length_cons, List.length_nil]; omega) ?_
      refine s_c (by simp only [List.length_append, List.length_cons, List.length_nil]; omega) ?_
      refine s_c (by simp only [List.length_append, List.length_cons, List.length_nil]; omega) ?_
      exact hK2 _ _ ⟨_, rfl, by rw [if_pos h0], S⟩
    rintro x w3 ⟨l, rfl, hl1, S⟩ d3
    rw [List.getD_cons_zero]
    have hll : l.length ≤ 23 := by rw [hl1]; split <;> simp only [List.length_append, List.length_cons, List.length_nil] <;> omega
    refine j_intro (fun x w' => x = [.string (bs (headB t.re t.m))] ∧ Ext w w') (fun K2 hK2 => ?_) ?_
    · (repeat (first | refine s_p ?_ | refine s_c (by omega) ?_ | refine S.ld ?_ | refine S.ldB ?_ | refine S.ce ?_ | refine S.ceB ?_ | refine s_q ?_ | refine s_qc (by omega) ?_ | refine n_some ?_ | rw [List.getD_cons_zero] | rw [List.getD_cons_succ]))
      refine c_b (fun hm => ?_) (fun hm => hK2 _ _ ⟨?_, S.ext⟩)
      · refine s_c (by simp only [List.length_cons, List.length_nil]; omega) ?_
        exact hK2 _ _ ⟨by rw [headB, ← hl1, hm]; rfl, S.ext⟩
      · rw [headB, ← hl1, hm]; simp
    rintro x w4 ⟨rfl, e4⟩ d4
    rw [List.getD_cons_zero]
    have hhl := headB_len t.re t.m
    refine j_intro (fun x w' => x = [.string (bs (if headB t.re t.m == [38] && decide (byteAt (textB n u) 0 = 38) then [38, 32] else headB t.re t.m))] ∧ Ext w w') (fun K2 hK2 => ?_) ?_
    · (first | refine s_p ?_ | refine s_c (by omega) ?_)
      refine j_band (c := decide (byteAt (textB n u) 0 = 38)) (fun K3 hK3 => ?_) ?_
      · refine s_c ⟨by omega, by omega⟩ ?_
        (first | refine s_p ?_ | refine s_c (by omega) ?_)
        exact hK3
      refine c_b (fun hc => hK2 _ _ ⟨?_, e4⟩) (fun hc => hK2 _ _ ⟨?_, e4⟩)
      · rw [if_pos hc]
      · rw [if_neg (by rw [hc]; simp)]
    rintro x w5 ⟨rfl, e5⟩ d5
    rw [List.getD_cons_zero]
    refine s_c (by
      split
      · simp only [List.length_cons, List.length_nil]; omega
      · omega) ?_
    exact h _ e5
/-- what Text tells -/
def textT (t : TyD) : List UInt8 × Int := if isB t then (textB 48 t, 0) else ([], 2)
theorem c_types_Text {t : TyD} {w : World} {r : Gh} {v : Value} {K : Value → World → Prop} (hr : Holds r w) (hv : TyG r v t) (hI : NumsOK r t)
    (h : ∀ w', Ext w w' → K (.tuple #[.string (bs (textT t).1), .int .i64 (textT t).2]) w') : oCall Tryd.prog Tryd.n_types_Text #[v] w K := by
  refine Tryd.ok_types_Text ?_
  unfold Tryd.F_types_Text
  have hv0 := hv
  obtain ⟨p, cap, rfl, _⟩ := hv
  have S := St.start hr
  refine S.box fun b1 w1 S => ?_
  (repeat (first | refine s_p ?_ | refine s_c (by omega) ?_ | refine S.ld ?_ | refine S.ldB ?_ | refine S.ce ?_ | refine S.ceB ?_ | refine s_q ?_ | refine s_qc (by omega) ?_ | refine n_some ?_ | rw [List.getD_cons_zero] | rw [List.getD_cons_succ]))
  refine c_types_may S.holds hv0 fun w2 e2 => ?_
  have S := S.go e2
  (repeat (first | refine s_p ?_ | refine s_c (by omega) ?_ | refine S.ld ?_ | refine S.ldB ?_ | refine S.ce ?_ | refine S.ceB ?_ | refine s_q ?_ | refine s_qc (by omega) ?_ | refine n_some ?_ | rw [List.getD_cons_zero] | rw [List.getD_cons_succ]))
  refine c_b (fun hn => ?_) (fun hb => ?_)
  · have hb : isB t = false := by simpa using hn
    rw [textT, hb] at h; exact h _ S.ext
  have hb : isB t = true := by simpa using hb
  rw [textT, hb] at h
  (repeat (first | refine s_p ?_ | refine s_c (by omega) ?_ | refine S.ld ?_ | refine S.ldB ?_ | refine S.ce ?_ | refine S.ceB ?_ | refine s_q ?_ | refine s_qc (by omega) ?_ | refine n_some ?_ | rw [List.getD_cons_zero] | rw [List.getD_cons_succ]))
  exact c_types_text 48 (by decide) hb hI S.holds hv0 fun w3 e3 => h _ (S.go e3).ext
end Go.Proofs
end

section
namespace Go.Proofs
open Go.Sh
set_option maxRecDepth 100000

theorem c_ref06_text {s : Int} : ∀ (n : Nat) {t : TyD} {w : World} {r : Gh} {v : Value} {K : Value → World → Prop}, n ≤ 1000 → lookB s n t = true → NumsOK r t → Holds r w → TyG r v t →
    (∀ w', Ext w w' → K (.string (bs (textB n t))) w') → oCall Tryd.prog Tryd.n_ref06_text #[v] w K := by
  intro n
  induction n with
  | zero => intro t w r v K _ h; cases h
  | succ n ih =>
    intro t w r v K hn hl hI hr hv h
    refine Tryd.ok_ref06_text ?_
    unfold Tryd.F_ref06_text
    obtain ⟨p, cap, rfl, _, _, hof⟩ := hv
    have S := St.start hr
    refine S.box fun b1 w1 S => ?_
    rw [textB] at h
    (repeat (first | refine s_p ?_ | refine s_c (by omega) ?_ | refine S.ld ?_ | refine S.ldB ?_ | refine S.ce ?_ | refine S.ceB ?_ | refine s_q ?_ | refine s_qc (by omega) ?_ | refine n_some ?_ | rw [List.getD_cons_zero] | rw [List.getD_cons_succ]))
    refine c_if (fun h1 => ?_) (fun h1 => ?_)
    · rw [if_pos h1] at h; exact h _ S.ext
    rw [if_neg h1] at h
    (repeat (first | refine s_p ?_ | refine s_c (by omega) ?_ | refine S.ld ?_ | refine S.ldB ?_ | refine S.ce ?_ | refine S.ceB ?_ | refine s_q ?_ | refine s_qc (by omega) ?_ | refine n_some ?_ | rw [List.getD_cons_zero] | rw [List.getD_cons_succ]))
    refine c_if (fun h2 => ?_) (fun h2 => ?_)
    · rw [if_pos h2] at h; exact h _ S.ext
    rw [if_neg h2] at h
    (repeat (first | refine s_p ?_ | refine s_c (by omega) ?_ | refine S.ld ?_ | refine S.ldB ?_ | refine S.ce ?_ | refine S.ceB ?_ | refine s_q ?_ | refine s_qc (by omega) ?_ | refine n_some ?_ | rw [List.getD_cons_zero] | rw [List.getD_cons_succ]))
    have one : t.k ≠ 5 → ∃ (u : TyD) (ba oa : Nat) (c : List Value), t.of = [u] ∧ p = some ⟨ba, oa, none⟩ ∧ c.length = 5 ∧ (∀ j v, c[j]? = some v → Ob r fun w => w.cell? ⟨ba, oa + 0 * 5 + j, none⟩ = some v) ∧ TyG r (.agg c.toArray) u ∧ lookB s n u = true := by
      intro h5
      rcases look_cases hl with ⟨_, hk⟩ | ⟨u, hofu, hu, _⟩
      · exfalso; omega
      obtain ⟨ba, oa, rfl, c, hc, hcell, ht⟩ := NdG.of hof (i := 0) (by rw [hofu]; exact Nat.one_pos)
      refine ⟨u, ba, oa, c, hofu, rfl, hc, hcell, ?_, hu⟩
      simpa [hofu] using ht
    refine c_if (fun h3 => ?_) (fun h3 => ?_)
    · rw [if_pos h3] at h
      obtain ⟨u, ba, oa, c, hofu, rfl, hc, hcell, ht, hu⟩ := one (by omega)
      rw [hofu] at h
      have hb := textB_len n u
      have hlen : (t.of.length : Int) = 1 := by rw [hofu]; rfl
      (repeat (first | refine s_p ?_ | refine s_c (by omega) ?_ | refine S.ld ?_ | refine S.ldB ?_ | refine S.ce ?_ | refine S.ceB ?_ | refine s_q ?_ | refine s_qc (by omega) ?_ | refine n_some ?_ | rw [List.getD_cons_zero] | rw [List.getD_cons_succ]))
      refine s_ldN (n := 5) hc (fun j v hj => by simpa using S.at (hcell j v hj)) ?_
      refine ih (by omega) hu (hI.inn hofu) S.holds ht fun w2 e2 => ?_
      refine s_c (by simp only [List.length_cons, List.length_nil]; omega) ?_
      refine s_c (by simp only [List.length_append, List.length_cons, List.length_nil]; omega) ?_
      exact h _ (S.go e2).ext
    rw [if_neg h3] at h
    (repeat (first | refine s_p ?_ | refine s_c (by omega) ?_ | refine S.ld ?_ | refine S.ldB ?_ | refine S.ce ?_ | refine S.ceB ?_ | refine s_q ?_ | refine s_qc (by omega) ?_ | refine n_some ?_ | rw [List.getD_cons_zero] | rw [List.getD_cons_succ]))
    refine c_if (fun h5 => ?_) (fun h5 => ?_)
    · rw [if_pos h5] at h
      have hst : 0 ≤ t.st := by
        rw [lookB_succ, if_neg (by omega), if_pos h5] at hl
        simp only [Bool.and_eq_true, decide_eq_true_eq] at hl; exact hl.1.2
      (repeat (first | refine s_p ?_ | refine s_c (by omega) ?_ | refine S.ld ?_ | refine S.ldB ?_ | refine S.ce ?_ | refine S.ceB ?_ | refine s_q ?_ | refine s_qc (by omega) ?_ | refine n_some ?_ | rw [List.getD_cons_zero] | rw [List.getD_cons_succ]))
      refine hI.top.2 hst _ _ S.holds fun w2 e2 => ?_
      have := itoa_len t.st
      refine s_c (by simp only [List.length_cons, List.length_nil]; omega) ?_
      exact h _ (S.go e2).ext
    rw [if_neg h5] at h
    obtain ⟨u, ba, oa, c, hofu, rfl, hc, hcell, ht, hu⟩ := one h5
    rw [hofu] at h
    have hb := textB_len n u
    have hlen : (t.of.length : Int) = 1 := by rw [hofu]; rfl
    have hnp : 0 < (textB n u).length := by
      cases n with
      | zero => cases hu
      | succ n => exact textB_pos n u
    have hil := itoa_len t.re
    refine j_intro (fun x w' => ∃ l, x = [.string (bs l)] ∧ l = [38] ++ (if 0 ≤ t.re then [39] ++ itoa t.re ++ [32] else []) ∧ StX noX w r w' [.cell b1 (Value.agg #[.int .u8 t.k, .bool t.m, .int .i64 t.re, .int .i64 t.st, .slice (some ⟨ba, oa, none⟩) t.of.length cap]).cells.toList 25]) (fun K2 hK2 => ?_) ?_
    · (repeat (first | refine s_p ?_ | refine s_c (by omega) ?_ | refine S.ld ?_ | refine S.ldB ?_ | refine S.ce ?_ | refine S.ceB ?_ | refine s_q ?_ | refine s_qc (by omega) ?_ | refine n_some ?_ | rw [List.getD_cons_zero] | rw [List.getD_cons_succ]))
      refine c_if (fun h0 => ?_) (fun h0 => hK2 _ _ ⟨_, rfl, by rw [if_neg h0]; rfl, S⟩)
      refine s_c (by simp only [List.length_cons, List.length_nil]; omega) ?_
      (repeat (first | refine s_p ?_ | refine s_c (by omega) ?_ | refine S.ld ?_ | refine S.ldB ?_ | refine S.ce ?_ | refine S.ceB ?_ | refine s_q ?_ | refine s_qc (by omega) ?_ | refine n_some ?_ | rw [List.getD_cons_zero] | rw [List.getD_cons_succ]))
      refine hI.top.1 h0 _ _ S.holds fun w3 e3 => ?_
      have S := S.go e3
      refine s_c (by simp only [List.length_append, List.length_cons, List.length_nil]; omega) ?_
      refine s_c (by simp only [List.length_append, List.length_cons, List.length_nil]; omega) ?_
      exact hK2 _ _ ⟨_, rfl, by rw [if_pos h0]; simp only [List.append_assoc], S⟩
    rintro x w3 ⟨l, rfl, hl1, S⟩ d3
    rw [List.getD_cons_zero]
    have hll : l.length ≤ 23 := by rw [hl1]; split <;> simp only [List.length_append, List.length_cons, List.length_nil] <;> omega
    refine j_intro (fun x w' => x = [.string (bs (headB t.re t.m))] ∧ StX noX w r w' [.cell b1 (Value.agg #[.int .u8 t.k, .bool t.m, .int .i64 t.re, .int .i64 t.st, .slice (some ⟨ba, oa, none⟩) t.of.length cap]).cells.toList 25]) (fun K2 hK2 => ?_) ?_
    · (repeat (first | refine s_p ?_ | refine s_c (by omega) ?_ | refine S.ld ?_ | refine S.ldB ?_ | refine S.ce ?_ | refine S.ceB ?_ | refine s_q ?_ | refine s_qc (by omega) ?_ | refine n_some ?_ | rw [List.getD_cons_zero] | rw [List.getD_cons_succ]))
      refine c_b (fun hm => ?_) (fun hm => hK2 _ _ ⟨?_, S⟩)
      · refine s_c (by simp only [List.length_cons, List.length_nil]; omega) ?_
        exact hK2 _ _ ⟨by rw [headB, ← hl1, hm]; rfl, S⟩
      · rw [headB, ← hl1, hm]; simp
    rintro x w4 ⟨rfl, S⟩ d4
    rw [List.getD_cons_zero]
    have hhl := headB_len t.re t.m
    (repeat (first | refine s_p ?_ | refine s_c (by omega) ?_ | refine S.ld ?_ | refine S.ldB ?_ | refine S.ce ?_ | refine S.ceB ?_ | refine s_q ?_ | refine s_qc (by omega) ?_ | refine n_some ?_ | rw [List.getD_cons_zero] | rw [List.getD_cons_succ]))
    refine s_ldN (n := 5) hc (fun j v hj => by simpa using S.at (hcell j v hj)) ?_
    refine ih (by omega) hu (hI.inn hofu) S.holds ht fun w5 e5 => ?_
    have S := S.go e5
    refine j_intro (fun x w' => x = [.string (bs (if headB t.re t.m == [38] && decide (byteAt (textB n u) 0 = 38) then [38, 32] else headB t.re t.m))] ∧ Ext w w') (fun K2 hK2 => ?_) ?_
    · (first | refine s_p ?_ | refine s_c (by omega) ?_)
      refine j_band (c := decide (byteAt (textB n u) 0 = 38)) (fun K3 hK3 => ?_) ?_
      · refine s_c ⟨by omega, by omega⟩ ?_
        (first | refine s_p ?_ | refine s_c (by omega) ?_)
        exact hK3
      refine c_b (fun hc => hK2 _ _ ⟨?_, S.ext⟩) (fun hc => hK2 _ _ ⟨?_, S.ext⟩)
      · rw [if_pos hc]
      · rw [if_neg (by rw [hc]; simp)]
    rintro x w5 ⟨rfl, e5⟩ d5
    rw [List.getD_cons_zero]
    refine s_c (by
      split
      · simp only [List.length_cons, List.length_nil]; omega
      · omega) ?_
    exact h _ e5
theorem c_ref06_Text {t : TyD} {w : World} {r : Gh} {v : Value} {K : Value → World → Prop} (hr : Holds r w) (hv : TyG r v t) (hI : NumsOK r t)
    (h : ∀ w', Ext w w' → K (.tuple #[.string (bs (textT t).1), .int .i64 (textT t).2]) w') : oCall Tryd.prog Tryd.n_ref06_Text #[v] w K := by
  refine Tryd.ok_ref06_Text ?_
  unfold Tryd.F_ref06_Text
  have hv0 := hv
  obtain ⟨p, cap, rfl, _⟩ := hv
  have S := St.start hr
  refine S.box fun b1 w1 S => ?_
  (repeat (first | refine s_p ?_ | refine s_c (by omega) ?_ | refine S.ld ?_ | refine S.ldB ?_ | refine S.ce ?_ | refine S.ceB ?_ | refine s_q ?_ | refine s_qc (by omega) ?_ | refine n_some ?_ | rw [List.getD_cons_zero] | rw [List.getD_cons_succ]))
  refine c_ref06_Is S.holds hv0 fun w2 e2 => ?_
  have S := S.go e2
  (repeat (first | refine s_p ?_ | refine s_c (by omega) ?_ | refine S.ld ?_ | refine S.ldB ?_ | refine S.ce ?_ | refine S.ceB ?_ | refine s_q ?_ | refine s_qc (by omega) ?_ | refine n_some ?_ | rw [List.getD_cons_zero] | rw [List.getD_cons_succ]))
  refine c_b (fun hn => ?_) (fun hb => ?_)
  · have hb : isB t = false := by simpa using hn
    rw [textT, hb] at h; exact h _ S.ext
  have hb : isB t = true := by simpa using hb
  rw [textT, hb] at h
  (repeat (first | refine s_p ?_ | refine s_c (by omega) ?_ | refine S.ld ?_ | refine S.ldB ?_ | refine S.ce ?_ | refine S.ceB ?_ | refine s_q ?_ | refine s_qc (by omega) ?_ | refine n_some ?_ | rw [List.getD_cons_zero] | rw [List.getD_cons_succ]))
  exact c_ref06_text 48 (by decide) hb hI S.holds hv0 fun w3 e3 => h _ (S.go e3).ext

/-! ### Itoa of small numbers -/
theorem small_lo : ∀ n : Nat, n < 10 → (([48, 49, 50, 51, 52, 53, 54, 55, 56, 57, 97, 98, 99, 100, 101, 102, 103, 104, 105, 106, 107, 108, 109, 110, 111, 112, 113, 114, 115, 116, 117, 118, 119, 120, 121, 122] : List UInt8).take (n + 1)).drop n = digsF 20 n := by decide +kernel
theorem c_small {x : Int} {w : World} {K : Value → World → Prop} (h0 : 0 ≤ x) (h1 : x < 10) (h : K (.string (bs (itoa x))) w) : oCall Tryd.prog Tryd.n_internal_strconv_small #[.int .i64 x] w K := by
  refine Tryd.ok_internal_strconv_small ?_
  unfold Tryd.F_internal_strconv_small
  (first | refine s_p ?_ | refine s_c (by omega) ?_)
  refine c_if (fun _ => ?_) (fun hn => absurd h1 hn)
  (first | refine s_p ?_ | refine s_c (by omega) ?_)
  refine s_c ⟨h0, by omega, by simp only [List.length_cons, List.length_nil]; omega⟩ ?_
  have e := small_lo x.toNat (by omega)
  rw [show (x + 1).toNat = x.toNat + 1 by omega, e]
  exact h
theorem itoa_ok_small {r : Gh} {x : Int} (h0 : 0 ≤ x) (h1 : x < 10) : ItoaOK r x := by
  intro w K hr h
  refine Tryd.ok_strconv_Itoa ?_
  unfold Tryd.F_strconv_Itoa
  refine Tryd.ok_internal_strconv_Itoa ?_
  unfold Tryd.F_internal_strconv_Itoa
  refine Tryd.ok_internal_strconv_FormatInt ?_
  unfold Tryd.F_internal_strconv_FormatInt
  (first | refine s_p ?_ | refine s_c (by omega) ?_)
  refine c_if (fun _ => ?_) (fun hn => absurd rfl hn)
  (first | refine s_p ?_ | refine s_c (by omega) ?_)
  refine j_band (c := decide (x < 100)) (fun K3 hK3 => ?_) ?_
  · (first | refine s_p ?_ | refine s_c (by omega) ?_)
    exact hK3
  refine c_t (by simp only [Bool.and_eq_true, decide_eq_true_eq]; omega) ?_
  exact c_small h0 h1 (h _ (Ext.refl _))
/-! ### Copies -/
def copiesB (t : TyD) : Bool := isB t && ((decide (t.k = 1) || decide (t.k = 2)) || (decide (t.k = 4) && !t.m))
theorem c_types_Copies {t : TyD} {w : World} {r : Gh} {v : Value} {K : Value → World → Prop} (hr : Holds r w) (hv : TyG r v t)
    (h : ∀ w', Ext w w' → K (.bool (copiesB t)) w') : oCall Tryd.prog Tryd.n_types_Copies #[v] w K := by
  refine Tryd.ok_types_Copies ?_
  unfold Tryd.F_types_Copies
  have hv0 := hv
  obtain ⟨p, cap, rfl, _⟩ := hv
  have S := St.start hr
  refine S.box fun b1 w1 S => ?_
  (repeat (first | refine s_p ?_ | refine s_c (by omega) ?_ | refine S.ld ?_ | refine S.ldB ?_ | refine S.ce ?_ | refine S.ceB ?_ | refine s_q ?_ | refine s_qc (by omega) ?_ | refine n_some ?_ | rw [List.getD_cons_zero] | rw [List.getD_cons_succ]))
  refine c_types_may S.holds hv0 fun w2 e2 => ?_
  have S := S.go e2
  (repeat (first | refine s_p ?_ | refine s_c (by omega) ?_ | refine S.ld ?_ | refine S.ldB ?_ | refine S.ce ?_ | refine S.ceB ?_ | refine s_q ?_ | refine s_qc (by omega) ?_ | refine n_some ?_ | rw [List.getD_cons_zero] | rw [List.getD_cons_succ]))
  refine c_b (fun hn => ?_) (fun hb => ?_)
  · have hb : isB t = false := by simpa using hn
    rw [copiesB, hb] at h; exact h _ S.ext
  have hb : isB t = true := by simpa using hb
  rw [copiesB, hb, Bool.true_and] at h
  (repeat (first | refine s_p ?_ | refine s_c (by omega) ?_ | refine S.ld ?_ | refine S.ldB ?_ | refine S.ce ?_ | refine S.ceB ?_ | refine s_q ?_ | refine s_qc (by omega) ?_ | refine n_some ?_ | rw [List.getD_cons_zero] | rw [List.getD_cons_succ]))
  intro K11 hK11
  (repeat (first | refine s_p ?_ | refine s_c (by omega) ?_ | refine S.ld ?_ | refine S.ldB ?_ | refine S.ce ?_ | refine S.ceB ?_ | refine s_q ?_ | refine s_qc (by omega) ?_ | refine n_some ?_ | rw [List.getD_cons_zero] | rw [List.getD_cons_succ]))
  refine k_cor (c := decide (t.k = 2)) (hK11 _ _ fun _ => ?_) fun _ hk => ?_
  rotate_left
  · (repeat (first | refine s_p ?_ | refine s_c (by omega) ?_ | refine S.ld ?_ | refine S.ldB ?_ | refine S.ce ?_ | refine S.ceB ?_ | refine s_q ?_ | refine s_qc (by omega) ?_ | refine n_some ?_ | rw [List.getD_cons_zero] | rw [List.getD_cons_succ])); exact hk
  simp only [List.getD_cons_zero]
  refine c_b (fun h12 => ?_) (fun h12 => ?_)
  · rw [h12, Bool.true_or] at h; exact h _ S.ext
  rw [h12, Bool.false_or] at h
  (repeat (first | refine s_p ?_ | refine s_c (by omega) ?_ | refine S.ld ?_ | refine S.ldB ?_ | refine S.ce ?_ | refine S.ceB ?_ | refine s_q ?_ | refine s_qc (by omega) ?_ | refine n_some ?_ | rw [List.getD_cons_zero] | rw [List.getD_cons_succ]))
  refine c_if (fun h4 => ?_) (fun h4 => ?_)
  · rw [show decide (t.k = 4) = true from decide_eq_true h4, Bool.true_and] at h
    (repeat (first | refine s_p ?_ | refine s_c (by omega) ?_ | refine S.ld ?_ | refine S.ldB ?_ | refine S.ce ?_ | refine S.ceB ?_ | refine s_q ?_ | refine s_qc (by omega) ?_ | refine n_some ?_ | rw [List.getD_cons_zero] | rw [List.getD_cons_succ]))
    exact h _ S.ext
  · rw [show decide (t.k = 4) = false from decide_eq_false h4, Bool.false_and] at h
    exact h _ S.ext
end Go.Proofs
end

section
namespace Go.Proofs
open Go.Sh
set_option maxRecDepth 100000

theorem c_types_first_none {v : Value} {w : World} {K : Value → World → Prop} (h : K (.int .i64 0) w) : oCall Tryd.prog Tryd.n_types_first #[.int .i64 0, v] w K := by
  refine Tryd.ok_types_first ?_
  unfold Tryd.F_types_first
  refine l_intro (ι := Unit) (fun _ => [.int .i64 0]) (fun _ w' => w' = w) (fun _ => 0) () rfl rfl ?_
  rintro _ d w' rfl K6 hK6
  simp only [List.getD_cons_zero]
  (first | refine s_p ?_ | refine s_c (by omega) ?_)
  exact h
theorem c_types_Structs_none {w : World} {K : Value → World → Prop} (h : ∀ w', Ext w w' → K (.tuple #[.int .i64 0, .int .i64 0]) w') : oCall Tryd.prog Tryd.n_types_Structs #[.slice none 0 0] w K := by
  refine Tryd.ok_types_Structs ?_
  unfold Tryd.F_types_Structs
  have S := St.start (r := nothing) (w := w) (fun _ _ h => h.elim)
  refine S.box fun b1 w1 S => ?_
  (repeat (first | refine s_p ?_ | refine s_c (by omega) ?_ | refine S.ld ?_ | refine S.ldB ?_ | refine S.ce ?_ | refine S.ceB ?_ | refine s_q ?_ | refine s_qc (by omega) ?_ | refine n_some ?_ | rw [List.getD_cons_zero] | rw [List.getD_cons_succ]))
  refine S.al fun b2 w2 S => ?_
  refine S.st fun w3 S => ?_
  (repeat (first | refine s_p ?_ | refine s_c (by omega) ?_ | refine S.ld ?_ | refine S.ldB ?_ | refine S.ce ?_ | refine S.ceB ?_ | refine s_q ?_ | refine s_qc (by omega) ?_ | refine n_some ?_ | rw [List.getD_cons_zero] | rw [List.getD_cons_succ]))
  refine S.lit (e := 82) (cs := [.func (.func Tryd.n_types_Structs_1) #[] #[.pointer (some ⟨b1, 0, none⟩), .pointer (some ⟨b2, 0, none⟩)], .func (.func Tryd.n_types_Structs_2) #[] #[.pointer (some ⟨b1, 0, none⟩)], .func (.func Tryd.n_types_Structs_3) #[] #[.pointer (some ⟨b1, 0, none⟩)]]) (by kernel_rfl) fun b4 w4 S => ?_
  (repeat (first | refine s_p ?_ | refine s_c (by omega) ?_ | refine S.ld ?_ | refine S.ldB ?_ | refine S.ce ?_ | refine S.ceB ?_ | refine s_q ?_ | refine s_qc (by omega) ?_ | refine n_some ?_ | rw [List.getD_cons_zero] | rw [List.getD_cons_succ]))
  refine l_intro (ι := Nat) (fun i => [.int .i64 i]) (fun i w' => i ≤ 3 ∧ St w nothing w' _) (fun i => 3 - i) 0 rfl ⟨Nat.zero_le _, S⟩ ?_
  clear S
  rintro i d w5 ⟨hi, S⟩ K6 hK6
  simp only [List.getD_cons_zero]
  (first | refine s_p ?_ | refine s_c (by omega) ?_)
  refine c_if (fun hlt => ?_) (fun _ => h _ S.ext)
  have hlt : i < 3 := by omega
  refine s_c (by omega) ?_
  obtain ⟨fv, hf⟩ : ∃ fv, ([.func (.func Tryd.n_types_Structs_1) #[] #[.pointer (some ⟨b1, 0, none⟩), .pointer (some ⟨b2, 0, none⟩)], .func (.func Tryd.n_types_Structs_2) #[] #[.pointer (some ⟨b1, 0, none⟩)], .func (.func Tryd.n_types_Structs_3) #[] #[.pointer (some ⟨b1, 0, none⟩)]] : List Value)[i]? = some fv :=
    ⟨_, List.getElem?_eq_getElem (by simpa using hlt)⟩
  refine S.ld (hc := by simpa using hf) ?_
  (repeat (first | refine s_p ?_ | refine s_c (by omega) ?_ | refine S.ld ?_ | refine S.ldB ?_ | refine S.ce ?_ | refine S.ceB ?_ | refine s_q ?_ | refine s_qc (by omega) ?_ | refine n_some ?_ | rw [List.getD_cons_zero] | rw [List.getD_cons_succ]))
  refine c_types_first_none ?_
  (repeat (first | refine s_p ?_ | refine s_c (by omega) ?_ | refine S.ld ?_ | refine S.ldB ?_ | refine S.ce ?_ | refine S.ceB ?_ | refine s_q ?_ | refine s_qc (by omega) ?_ | refine n_some ?_ | rw [List.getD_cons_zero] | rw [List.getD_cons_succ]))
  exact hK6 (i + 1) _ ⟨hlt, S⟩ (by omega)
theorem c_types_May_none {t : TyD} {w : World} {r : Gh} {v : Value} {K : Value → World → Prop} (hr : Holds r w) (hv : TyG r v t)
    (h : ∀ w', Ext w w' → K (.bool (lookB 0 48 t)) w') : oCall Tryd.prog Tryd.n_types_May #[.slice none 0 0, v] w K := by
  refine Tryd.ok_types_May ?_
  unfold Tryd.F_types_May
  have hv0 := hv
  obtain ⟨p, cap, rfl, _⟩ := hv
  have S := St.start hr
  refine S.box fun b1 w1 S => ?_
  refine c_types_Structs_none fun w2 e2 => ?_
  have S := S.go e2
  (repeat (first | refine s_p ?_ | refine s_c (by omega) ?_ | refine S.ld ?_ | refine S.ldB ?_ | refine S.ce ?_ | refine S.ceB ?_ | refine s_q ?_ | refine s_qc (by omega) ?_ | refine n_some ?_ | rw [List.getD_cons_zero] | rw [List.getD_cons_succ]))
  refine j_bandE (c := lookB 0 48 t) (fun _ K2 hK2 => ?_) fun w3 e3 => ?_
  · (repeat (first | refine s_p ?_ | refine s_c (by omega) ?_ | refine S.ld ?_ | refine S.ldB ?_ | refine S.ce ?_ | refine S.ceB ?_ | refine s_q ?_ | refine s_qc (by omega) ?_ | refine n_some ?_ | rw [List.getD_cons_zero] | rw [List.getD_cons_succ]))
    exact c_types_look 48 (by decide) S.holds hv0 fun w4 e4 => hK2 _ e4
  exact h _ (S.go e3).ext
theorem c_types_words_one {t : TyD} {w : World} {r : Gh} {v vs : Value} {K : Value → World → Prop} (hr : Holds r w) (hv : TyG r v t) (hk : t.k ≠ 5)
    (h : ∀ w', Ext w w' → K (.int .i64 1) w') : oCall Tryd.prog Tryd.n_types_words #[vs, v] w K := by
  refine Tryd.ok_types_words ?_
  unfold Tryd.F_types_words
  obtain ⟨p, cap, rfl, _⟩ := hv
  have S := St.start hr
  refine S.box fun b1 w1 S => ?_
  (repeat (first | refine s_p ?_ | refine s_c (by omega) ?_ | refine S.ld ?_ | refine S.ldB ?_ | refine S.ce ?_ | refine S.ceB ?_ | refine s_q ?_ | refine s_qc (by omega) ?_ | refine n_some ?_ | rw [List.getD_cons_zero] | rw [List.getD_cons_succ]))
  refine c_if (fun _ => h _ S.ext) (fun hn => absurd hk (by simpa using hn))
theorem c_types_Words_none {t : TyD} {w : World} {r : Gh} {v : Value} {K : Value → World → Prop} (hr : Holds r w) (hv : TyG r v t)
    (h : ∀ w', Ext w w' → K (if lookB 0 48 t then .tuple #[.int .i64 1, .int .i64 0] else .tuple #[.int .i64 0, .int .i64 2]) w') : oCall Tryd.prog Tryd.n_types_Words #[.slice none 0 0, v] w K := by
  refine Tryd.ok_types_Words ?_
  unfold Tryd.F_types_Words
  have hv0 := hv
  obtain ⟨p, cap, rfl, _⟩ := hv
  have S := St.start hr
  refine S.box fun b1 w1 S => ?_
  (repeat (first | refine s_p ?_ | refine s_c (by omega) ?_ | refine S.ld ?_ | refine S.ldB ?_ | refine S.ce ?_ | refine S.ceB ?_ | refine s_q ?_ | refine s_qc (by omega) ?_ | refine n_some ?_ | rw [List.getD_cons_zero] | rw [List.getD_cons_succ]))
  refine c_types_May_none S.holds hv0 fun w2 e2 => ?_
  have S := S.go e2
  (repeat (first | refine s_p ?_ | refine s_c (by omega) ?_ | refine S.ld ?_ | refine S.ldB ?_ | refine S.ce ?_ | refine S.ceB ?_ | refine s_q ?_ | refine s_qc (by omega) ?_ | refine n_some ?_ | rw [List.getD_cons_zero] | rw [List.getD_cons_succ]))
  refine c_b (fun hn => ?_) (fun hb => ?_)
  · have hb : lookB 0 48 t = false := by simpa using hn
    rw [hb] at h; exact h _ S.ext
  have hb : lookB 0 48 t = true := by simpa using hb
  rw [hb] at h
  (repeat (first | refine s_p ?_ | refine s_c (by omega) ?_ | refine S.ld ?_ | refine S.ldB ?_ | refine S.ce ?_ | refine S.ceB ?_ | refine s_q ?_ | refine s_qc (by omega) ?_ | refine n_some ?_ | rw [List.getD_cons_zero] | rw [List.getD_cons_succ]))
  refine c_types_words_one S.holds hv0 (fun h5 => ?_) fun w3 e3 => h _ (S.go e3).ext
  rw [lookB_succ, if_neg (by omega), if_pos h5] at hb
  simp only [Bool.and_eq_true, decide_eq_true_eq] at hb
  omega
end Go.Proofs
end

section
namespace Go.Proofs
open Go.Sh
set_option maxRecDepth 100000

theorem j_bandH {w : World} {A : (List Value → World → Prop) → Prop} {Z : Value → World → Prop} {b c : Bool} (hA : b = true → ∀ K : List Value → World → Prop, K [.bool c] w → A K) (hZ : Z (.bool (b && c)) w) :
    sJoin (fun K => gIf (.bool b) true (A K) (K [undef] w)) fun s _ w' => oPick (.bool b) (s.getD 0 undef) (.bool false) fun t => Z t w' := by
  intro K hK
  cases b with
  | true => exact hA rfl K (hK _ _ fun _ => ⟨true, rfl, by simpa using hZ⟩)
  | false => exact hK _ _ fun _ => ⟨false, rfl, by simpa using hZ⟩
theorem j_borH {w : World} {A : (List Value → World → Prop) → Prop} {Z : Value → World → Prop} {b c : Bool} (hA : b = false → ∀ K : List Value → World → Prop, K [.bool c] w → A K) (hZ : Z (.bool (b || c)) w) :
    sJoin (fun K => gIf (.bool b) false (A K) (K [undef] w)) fun s _ w' => oPick (.bool b) (.bool true) (s.getD 0 undef) fun t => Z t w' := by
  intro K hK
  cases b with
  | true => exact hK _ _ fun _ => ⟨true, rfl, by simpa using hZ⟩
  | false => exact hA rfl K (hK _ _ fun _ => ⟨false, rfl, by simpa using hZ⟩)
theorem P_of_oCall {P : Program} {f : FuncId} {args : Array Value} {w : World} {K : Value → World → Prop} {Kp : List PanicEntry → World → Prop} (h : oCall P f args w K) : oCallP P f args w K Kp :=
  Calls.mono h fun e w' he => by obtain ⟨v, rfl, hk⟩ := he; exact hk
def prefB (l p : List UInt8) : Bool := decide ((p.length : Int) ≤ l.length) && (l.take p.length == p)
theorem c_HasPrefix {l p : List UInt8} {w : World} {K : Value → World → Prop} (h : K (.bool (prefB l p)) w) : oCall Tryd.prog Tryd.n_strings_HasPrefix #[.string (bs l), .string (bs p)] w K := by
  refine Tryd.ok_strings_HasPrefix ?_
  unfold Tryd.F_strings_HasPrefix
  refine Tryd.ok_internal_stringslite_HasPrefix ?_
  unfold Tryd.F_internal_stringslite_HasPrefix
  (first | refine s_p ?_ | refine s_c (by omega) ?_)
  (first | refine s_p ?_ | refine s_c (by omega) ?_)
  (first | refine s_p ?_ | refine s_c (by omega) ?_)
  refine j_bandH (c := l.take p.length == p) (fun hb K2 hK2 => ?_) h
  have hb : (p.length : Int) ≤ l.length := by simpa using hb
  (first | refine s_p ?_ | refine s_c (by omega) ?_)
  (first | refine s_p ?_ | refine s_c (by omega) ?_)
  (first | refine s_p ?_ | refine s_c (by omega) ?_)
  exact hK2
/-- where the reader stands -/
abbrev rdC (rb : Nat) (s : List UInt8) (a : Nat) : Asr := .cell rb [.string (bs s), .int .i64 (a : Int)] 88
abbrev rdP (rb : Nat) : Value := .pointer (some ⟨rb, 0, none⟩)
/-- what a reader that is stuck throws -/
abbrev stuckV : List PanicEntry := [{ v := .iface 90 (.agg #[]), recovered := false }]
section
variable {X : Nat → Prop} {w0 w : World} {r : Gh} {L : List Asr} {rb : Nat} {s p : List UInt8} {a : Nat} {K : Value → World → Prop} {Kp : List PanicEntry → World → Prop}
theorem c_comes (S : StX X w0 r w (rdC rb s a :: L)) (ha : a ≤ s.length) (h : ∀ w', StX X w0 r w' (rdC rb s a :: L) → K (.bool (prefB (s.drop a) p)) w') :
    oCallP Tryd.prog Tryd.n_types_reader_comes #[rdP rb, .string (bs p)] w K Kp := by
  refine P_of_oCall ?_
  refine Tryd.ok_types_reader_comes ?_
  unfold Tryd.F_types_reader_comes
  have S := S.go (Ext.drew _)
  (repeat (first | refine s_p ?_ | refine s_c (by omega) ?_ | refine S.ld ?_ | refine S.ldB ?_ | refine S.ce ?_ | refine S.ceB ?_ | refine s_q ?_ | refine s_qc (by omega) ?_ | refine n_some ?_ | rw [List.getD_cons_zero] | rw [List.getD_cons_succ]))
  exact c_HasPrefix (h _ S)
/-- take a text, byte by byte -/
def takeR (s : List UInt8) : List UInt8 → Nat → Nat × Bool
  | [], a => (a, true)
  | c :: p, a => if (decide ((a : Int) = s.length) || decide (byteAt s a ≠ (c.toNat : Int))) then (a, false) else takeR s p (a + 1)
theorem takeR_le : ∀ (p : List UInt8) (a : Nat), a ≤ s.length → (takeR s p a).1 ≤ s.length
  | [], _, h => h
  | c :: p, a, h => by
    rw [takeR]; split
    · exact h
    · rename_i hn
      simp only [Bool.or_eq_true, decide_eq_true_eq, not_or] at hn
      exact takeR_le p (a + 1) (by omega)
theorem takeR_ge : ∀ (p : List UInt8) (a : Nat), a ≤ (takeR s p a).1
  | [], _ => Nat.le_refl _
  | c :: p, a => by
    rw [takeR]; split
    · exact Nat.le_refl _
    · exact Nat.le_trans (Nat.le_succ _) (takeR_ge p (a + 1))
theorem c_take (S : StX X w0 r w (rdC rb s a :: L)) (ha : a ≤ s.length) (hs : s.length ≤ 1000000000) (hp : p.length ≤ 1000000)
    (h : ∀ w', StX X w0 r w' (rdC rb s (takeR s p a).1 :: L) → if (takeR s p a).2 then K (.tuple #[]) w' else Kp stuckV w') :
    oCallP Tryd.prog Tryd.n_types_reader_take #[rdP rb, .string (bs p)] w K Kp := by
  refine Tryd.ok_types_reader_take ?_
  unfold Tryd.F_types_reader_take
  (first | refine s_p ?_ | refine s_c (by omega) ?_)
  refine l_intro (ι := Nat) (fun i => [.int .i64 i]) (fun i w' => i ≤ p.length ∧ a + i ≤ s.length ∧ takeR s p a = takeR s (p.drop i) (a + i) ∧ StX X w0 r w' (rdC rb s (a + i) :: L)) (fun i => p.length - i) 0 rfl ⟨Nat.zero_le _, ha, rfl, S⟩ ?_
  clear S
  rintro i d w1 ⟨hi, hai, hrec, S⟩ K6 hK6
  simp only [List.getD_cons_zero]
  (first | refine s_p ?_ | refine s_c (by omega) ?_)
  refine c_if (fun hlt => ?_) (fun hge => ?_)
  · have hlt : i < p.length := by omega
    rw [List.drop_eq_getElem_cons hlt, takeR] at hrec
    have hpi : byteAt p i = (p[i].toNat : Int) := by rw [byteAt, List.getD_eq_getElem?_getD, List.getElem?_eq_getElem hlt]; rfl
    refine j_intro (fun _ w' => (decide (((a + i : Nat) : Int) = s.length) || decide (byteAt s (a + i) ≠ (p[i].toNat : Int))) = false ∧ StX X w0 r w' (rdC rb s (a + i) :: L)) (fun K2 hK2 => ?_) ?_
    · have S := S.go (Ext.drew _)
      (repeat (first | refine s_p ?_ | refine s_c (by omega) ?_ | refine S.ld ?_ | refine S.ldB ?_ | refine S.ce ?_ | refine S.ceB ?_ | refine s_q ?_ | refine s_qc (by omega) ?_ | refine n_some ?_ | rw [List.getD_cons_zero] | rw [List.getD_cons_succ]))
      refine j_borH (c := decide (byteAt s (a + i) ≠ (p[i].toNat : Int))) (fun hb K3 hK3 => ?_) ?_
      · have hb : ¬ ((a + i : Nat) : Int) = s.length := by simpa using hb
        (repeat (first | refine s_p ?_ | refine s_c (by omega) ?_ | refine S.ld ?_ | refine S.ldB ?_ | refine S.ce ?_ | refine S.ceB ?_ | refine s_q ?_ | refine s_qc (by omega) ?_ | refine n_some ?_ | rw [List.getD_cons_zero] | rw [List.getD_cons_succ]))
        rw [Int.toNat_natCast, Int.toNat_natCast, hpi]; exact hK3
      refine c_b (fun hc => ?_) (fun hc => hK2 _ _ ⟨hc, S⟩)
      rw [if_pos hc] at hrec
      (first | refine s_p ?_ | refine s_c (by omega) ?_)
      (first | refine s_p ?_ | refine s_c (by omega) ?_)
      refine ⟨_, _, rfl, (fun h => by cases h), ?_⟩
      have := h w1.drew (by rw [hrec]; exact S)
      rw [hrec] at this
      exact this
    · rintro _ w2 ⟨hc, S⟩ d2
      rw [hc, if_neg (by simp)] at hrec
      simp only [Bool.or_eq_false_iff, decide_eq_false_iff_not] at hc
      (repeat (first | refine s_p ?_ | refine s_c (by omega) ?_ | refine S.ld ?_ | refine S.ldB ?_ | refine S.ce ?_ | refine S.ceB ?_ | refine s_q ?_ | refine s_qc (by omega) ?_ | refine n_some ?_ | rw [List.getD_cons_zero] | rw [List.getD_cons_succ]))
      refine S.st fun w3 S => ?_
      (first | refine s_p ?_ | refine s_c (by omega) ?_)
      refine hK6 (i + 1) _ ⟨hlt, by omega, hrec, ?_⟩ (by omega)
      exact S
  · have : i = p.length := by omega
    subst this
    rw [List.drop_length, takeR] at hrec
    have := h w1 (by rw [hrec]; exact S)
    rw [hrec] at this
    exact this
end
end Go.Proofs
end

section
namespace Go.Proofs
open Go.Sh
set_option maxRecDepth 100000

theorem wrapU8 {n : Int} (h : 0 ≤ n ∧ n < 256) : IntKind.u8.wrap n = n := by
  rw [IntKind.wrap_u8]; exact Int.emod_eq_of_lt h.1 h.2
instance {P : Program} {t : TypeId} {c : Bool} {a b : Int} : PCond P (bsem .sub t c (.int .u8 a) (.int .u8 b)) (.int .u8 (a - b)) (0 ≤ a - b ∧ a - b < 256) := .of fun h _ k =>
  p_of (fun w => by rw [bsem_int]; simp [binOp, Op.intArith, wrapU8 h]) k
/-- a number's digits, as far as they go: where they end, the number -/
def digR (s : List UInt8) (most : Int) (fr : Nat) : Nat → Nat → Int → Nat × Int
  | 0, a, n => (a, n)
  | f + 1, a, n =>
    if (decide ((a : Int) < s.length) && decide (48 ≤ byteAt s a)) && decide (byteAt s a ≤ 57) then
      if (decide ((fr : Int) < a) && decide (byteAt s fr = 48)) || decide ((most - (byteAt s a - 48)) / 10 < n) then (a, n)
      else digR s most fr f (a + 1) (10 * n + (byteAt s a - 48))
    else (a, n)
def digT (s : List UInt8) (most : Int) (a : Nat) : Nat × Option Int :=
  let x := digR s most a (s.length + 1 - a) a 0
  if x.1 = a then (a, none) else (x.1, some x.2)
section
variable {X : Nat → Prop} {w0 w : World} {r : Gh} {L : List Asr} {rb : Nat} {s : List UInt8} {a : Nat} {K : Value → World → Prop} {Kp : List PanicEntry → World → Prop}
theorem digR_le {most : Int} {fr : Nat} : ∀ (f a : Nat) (n : Int), a ≤ s.length → 0 ≤ n → n ≤ most → 9 ≤ most → a ≤ (digR s most fr f a n).1 ∧ (digR s most fr f a n).1 ≤ s.length ∧ 0 ≤ (digR s most fr f a n).2 ∧ (digR s most fr f a n).2 ≤ most
  | 0, a, n, h, h0, h1, _ => ⟨Nat.le_refl _, h, h0, h1⟩
  | f + 1, a, n, h, h0, h1, h9 => by
    rw [digR]
    split
    · rename_i hd
      simp only [Bool.and_eq_true, decide_eq_true_eq] at hd
      split
      · exact ⟨Nat.le_refl _, h, h0, h1⟩
      · rename_i hn
        simp only [Bool.or_eq_true, decide_eq_true_eq, not_or, Int.not_lt] at hn
        have := digR_le (most := most) (fr := fr) f (a + 1) (10 * n + (byteAt s a - 48)) (by omega) (by omega) (by omega) h9
        exact ⟨by omega, this.2.1, this.2.2.1, this.2.2.2⟩
    · exact ⟨Nat.le_refl _, h, h0, h1⟩
theorem c_digits {most : Int} (S : StX X w0 r w (rdC rb s a :: L)) (ha : a ≤ s.length) (hs : s.length ≤ 1000000000) (hm : 9 ≤ most) (hm2 : most < 9223372036854775808)
    (h : ∀ w', StX X w0 r w' (rdC rb s (digT s most a).1 :: L) → match (digT s most a).2 with | some n => K (.int .i64 n) w' | none => Kp stuckV w') :
    oCallP Tryd.prog Tryd.n_types_reader_digits #[rdP rb, .int .i64 most] w K Kp := by
  refine Tryd.ok_types_reader_digits ?_
  unfold Tryd.F_types_reader_digits
  (repeat (first | refine s_p ?_ | refine s_c (by omega) ?_ | refine S.ld ?_ | refine S.ldB ?_ | refine S.ce ?_ | refine S.ceB ?_ | refine s_q ?_ | refine s_qc (by omega) ?_ | refine n_some ?_ | rw [List.getD_cons_zero] | rw [List.getD_cons_succ]))
  refine j_intro (fun x w' => x = [.int .i64 (digR s most a (s.length + 1 - a) a 0).2] ∧ StX X w0 r w' (rdC rb s (digR s most a (s.length + 1 - a) a 0).1 :: L)) (fun K2 hK2 => ?_) ?_
  · refine l_intro (ι := Nat × Int × Nat) (fun i => [.int .i64 i.2.1]) (fun i w' => a ≤ i.1 ∧ i.1 ≤ s.length ∧ i.2.2 = s.length + 1 - i.1 ∧ 0 ≤ i.2.1 ∧ i.2.1 ≤ most ∧ digR s most a (s.length + 1 - a) a 0 = digR s most a i.2.2 i.1 i.2.1 ∧ StX X w0 r w' (rdC rb s i.1 :: L))
      (fun i => i.2.2) (a, 0, s.length + 1 - a) rfl ⟨Nat.le_refl _, ha, rfl, Int.le_refl _, by simp only; omega, rfl, S⟩ ?_
    clear S
    rintro ⟨b, n, f⟩ d w1 ⟨hab, hbs, hf, hn0, hnm, hrec, S⟩ K6 hK6
    simp only at hab hbs hf hn0 hnm hrec S ⊢
    rw [List.getD_cons_zero]
    rw [hrec] at hK2
    obtain ⟨f, rfl⟩ : ∃ g, f = g + 1 := ⟨f - 1, by omega⟩
    rw [digR] at hrec hK2
    have hby := byteAt_lt s b
    have S := S.go (Ext.drew _)
    (repeat (first | refine s_p ?_ | refine s_c (by omega) ?_ | refine S.ld ?_ | refine S.ldB ?_ | refine S.ce ?_ | refine S.ceB ?_ | refine s_q ?_ | refine s_qc (by omega) ?_ | refine n_some ?_ | rw [List.getD_cons_zero] | rw [List.getD_cons_succ]))
    refine j_bandH (c := decide (48 ≤ byteAt s b)) (fun hb K3 hK3 => ?_) ?_
    · have hb : (b : Int) < s.length := by simpa using hb
      (repeat (first | refine s_p ?_ | refine s_c (by omega) ?_ | refine S.ld ?_ | refine S.ldB ?_ | refine S.ce ?_ | refine S.ceB ?_ | refine s_q ?_ | refine s_qc (by omega) ?_ | refine n_some ?_ | rw [List.getD_cons_zero] | rw [List.getD_cons_succ]))
      rw [Int.toNat_natCast]; exact hK3
    refine j_bandH (c := decide (byteAt s b ≤ 57)) (fun hb K3 hK3 => ?_) ?_
    · have hb : (b : Int) < s.length := by simp only [Bool.and_eq_true, decide_eq_true_eq] at hb; exact hb.1
      (repeat (first | refine s_p ?_ | refine s_c (by omega) ?_ | refine S.ld ?_ | refine S.ldB ?_ | refine S.ce ?_ | refine S.ceB ?_ | refine s_q ?_ | refine s_qc (by omega) ?_ | refine n_some ?_ | rw [List.getD_cons_zero] | rw [List.getD_cons_succ]))
      rw [Int.toNat_natCast]; exact hK3
    refine c_b (fun hd => ?_) (fun hd => ?_)
    · rw [if_pos hd] at hK2 hrec
      simp only [Bool.and_eq_true, decide_eq_true_eq] at hd
      obtain ⟨⟨hd1, hd2⟩, hd3⟩ := hd
      have S := S.go (Ext.drew _)
      (repeat (first | refine s_p ?_ | refine s_c (by omega) ?_ | refine S.ld ?_ | refine S.ldB ?_ | refine S.ce ?_ | refine S.ceB ?_ | refine s_q ?_ | refine s_qc (by omega) ?_ | refine n_some ?_ | rw [List.getD_cons_zero] | rw [List.getD_cons_succ]))
      rw [Int.toNat_natCast]
      (repeat (first | refine s_p ?_ | refine s_c (by omega) ?_ | refine S.ld ?_ | refine S.ldB ?_ | refine S.ce ?_ | refine S.ceB ?_ | refine s_q ?_ | refine s_qc (by omega) ?_ | refine n_some ?_ | rw [List.getD_cons_zero] | rw [List.getD_cons_succ]))
      refine j_bandH (c := decide (byteAt s a = 48)) (fun hb K3 hK3 => ?_) ?_
      · have hb : (a : Int) < b := by simpa using hb
        (repeat (first | refine s_p ?_ | refine s_c (by omega) ?_ | refine S.ld ?_ | refine S.ldB ?_ | refine S.ce ?_ | refine S.ceB ?_ | refine s_q ?_ | refine s_qc (by omega) ?_ | refine n_some ?_ | rw [List.getD_cons_zero] | rw [List.getD_cons_succ]))
        rw [Int.toNat_natCast]
        (repeat (first | refine s_p ?_ | refine s_c (by omega) ?_ | refine S.ld ?_ | refine S.ldB ?_ | refine S.ce ?_ | refine S.ceB ?_ | refine s_q ?_ | refine s_qc (by omega) ?_ | refine n_some ?_ | rw [List.getD_cons_zero] | rw [List.getD_cons_succ]))
        exact hK3
      refine j_borH (c := decide ((most - (byteAt s b - 48)) / 10 < n)) (fun hb K3 hK3 => ?_) ?_
      · (repeat (first | refine s_p ?_ | refine s_c (by omega) ?_ | refine S.ld ?_ | refine S.ldB ?_ | refine S.ce ?_ | refine S.ceB ?_ | refine s_q ?_ | refine s_qc (by omega) ?_ | refine n_some ?_ | rw [List.getD_cons_zero] | rw [List.getD_cons_succ]))
        exact hK3
      refine c_b (fun hc => ?_) (fun hc => ?_)
      · rw [if_pos hc] at hK2
        exact hK2 _ _ ⟨rfl, S⟩
      · rw [if_neg (by rw [hc]; simp)] at hrec
        simp only [Bool.or_eq_false_iff, decide_eq_false_iff_not, Int.not_lt] at hc
        (repeat (first | refine s_p ?_ | refine s_c (by omega) ?_ | refine S.ld ?_ | refine S.ldB ?_ | refine S.ce ?_ | refine S.ceB ?_ | refine s_q ?_ | refine s_qc (by omega) ?_ | refine n_some ?_ | rw [List.getD_cons_zero] | rw [List.getD_cons_succ]))
        refine S.st fun w3 S => ?_
        refine hK6 (b + 1, 10 * n + (byteAt s b - 48), f) _ ⟨by omega, by omega, by simp only; omega, by simp only; omega, by simp only; omega, hrec, S⟩ (Nat.lt_succ_self _)
    · rw [if_neg (by rw [hd]; simp)] at hK2
      exact hK2 _ _ ⟨rfl, S⟩
  · rintro x w2 ⟨rfl, S⟩ d2
    rw [List.getD_cons_zero]
    have hle := digR_le (s := s) (most := most) (fr := a) (s.length + 1 - a) a 0 ha (Int.le_refl _) (by omega) hm
    have hT : digT s most a = if (digR s most a (s.length + 1 - a) a 0).1 = a then (a, none) else ((digR s most a (s.length + 1 - a) a 0).1, some (digR s most a (s.length + 1 - a) a 0).2) := rfl
    rw [hT] at h
    generalize digR s most a (s.length + 1 - a) a 0 = x at *
    refine j_intro (fun _ w' => x.1 ≠ a ∧ StX X w0 r w' (rdC rb s x.1 :: L)) (fun K2 hK2 => ?_) ?_
    · (repeat (first | refine s_p ?_ | refine s_c (by omega) ?_ | refine S.ld ?_ | refine S.ldB ?_ | refine S.ce ?_ | refine S.ceB ?_ | refine s_q ?_ | refine s_qc (by omega) ?_ | refine n_some ?_ | rw [List.getD_cons_zero] | rw [List.getD_cons_succ]))
      refine c_if (fun he => ?_) (fun he => hK2 _ _ ⟨by omega, S⟩)
      have he : x.1 = a := by omega
      rw [if_pos he] at h
      (first | refine s_p ?_ | refine s_c (by omega) ?_)
      (first | refine s_p ?_ | refine s_c (by omega) ?_)
      refine ⟨_, _, rfl, (fun h => by cases h), ?_⟩
      exact h _ (by rw [he] at S; exact S)
    · rintro _ w3 ⟨hne, S⟩ d3
      rw [if_neg hne] at h
      exact h _ S
end
end Go.Proofs
end

section
namespace Go.Proofs
open Go.Sh
set_option maxRecDepth 100000

/-- how far it went, and what came of it, if it did not get stuck -/
abbrev Rd' (α : Type) := Nat × Option α
def bd {α β : Type} : Rd' α → (α → Nat → Rd' β) → Rd' β
  | (a, some x), k => k x a
  | (a, none), _ => (a, none)
def tkR (s p : List UInt8) (a : Nat) : Rd' Unit := ((takeR s p a).1, if (takeR s p a).2 then some () else none)
def cmB (s : List UInt8) (a : Nat) (p : List UInt8) : Bool := prefB (s.drop a) p
def rgR (s : List UInt8) (a : Nat) : Rd' Int :=
  if cmB s a [39] then bd (tkR s [39] a) fun _ a => bd (digT s 9223372036854775807 a) fun n a => bd (tkR s [32] a) fun _ a => (a, some n) else (a, some (-1))
def mtR (s : List UInt8) (a : Nat) : Rd' Bool :=
  if cmB s a [109] then bd (tkR s [109, 117, 116, 32] a) fun _ a => (a, some true) else (a, some false)
def brR (s : List UInt8) (left : Nat) (re : Int) (m : Bool) (a : Nat) : Rd' Unit :=
  if (decide (re < 0) && !m) && cmB s a [38] then (a, none)
  else if ((decide (re < 0) && !m) && cmB s a [32]) && decide (2 < left) then bd (tkR s [32] a) fun _ a => if !cmB s a [38] then (a, none) else (a, some ())
  else (a, some ())
def refS (s : List UInt8) (rec : Nat → Rd' TyD) (left a : Nat) : Rd' TyD :=
  bd (tkR s [38] a) fun _ a => bd (rgR s a) fun re a => bd (mtR s a) fun m a => bd (brR s left re m a) fun _ a => bd (rec a) fun u a => (a, some (.mk 4 m re 0 [u]))
def kindS (s : List UInt8) (rec : Nat → Rd' TyD) (left a : Nat) : Rd' TyD :=
  if cmB s a [105] then bd (tkR s [105, 54, 52] a) fun _ a => (a, some (.mk 1 false 0 0 []))
  else if cmB s a [98] then bd (tkR s [98, 111, 111, 108] a) fun _ a => (a, some (.mk 2 false 0 0 []))
  else if cmB s a [35] then bd (tkR s [35] a) fun _ a => bd (digT s 31 a) fun n a => (a, some (.mk 5 false 0 n []))
  else if cmB s a [66] && decide (1 < left) then bd (tkR s [66, 111, 120, 60] a) fun _ a => bd (rec a) fun u a => bd (tkR s [62] a) fun _ a => (a, some (.mk 3 false 0 0 [u]))
  else if cmB s a [38] && decide (1 < left) then refS s rec left a
  else (a, none)
def kindR (s : List UInt8) : Nat → Nat → Rd' TyD
  | 0, a => kindS s (fun a => (a, none)) 0 a
  | n + 1, a => kindS s (kindR s n) (n + 1) a

/-- a type's nodes, one below the other, each in a block of its own -/
inductive ChnG : Gh → Value → TyD → Prop
  | nil {sn : Gh} {v : Value} {k re st : Int} {m : Bool} : ChnG sn v (.mk k m re st [])
  | one {sn : Gh} {b : Nat} {c : List Value} {k re st : Int} {m : Bool} {u : TyD} (no : ∀ o, ¬ sn b o) (hc : c.length = 5) (ht : TyG sn (.agg c.toArray) u) (h : ChnG sn (.agg c.toArray) u) :
    ChnG (sn.or (one b c 25)) (.agg #[.int .u8 k, .bool m, .int .i64 re, .int .i64 st, .slice (some ⟨b, 0, none⟩) 1 1]) (.mk k m re st [u])
theorem ty_one {r : Gh} {v : Value} {u : TyD} {b : Nat} {k re st : Int} {m : Bool} (h : TyG r v u) :
    TyG (r.or (one b v.cells.toList 25)) (.agg #[.int .u8 k, .bool m, .int .i64 re, .int .i64 st, .slice (some ⟨b, 0, none⟩) 1 1]) (.mk k m re st [u]) := by
  obtain ⟨c, rfl, hc, hr⟩ := h.rep
  refine ⟨_, 1, rfl, by simp, Nat.le_refl _, ?_⟩
  refine ⟨⟨c, hc, fun j x hj => ⟨b, 0, rfl, fun w hw => ?_⟩, hr.up⟩, trivial⟩
  have B := one_blk (b := b) (c := (Value.agg c.toArray).cells.toList) (T := 25) w (hw.le (h := inferInstance))
  show w.cell? ⟨b, 0 + 0 * 5 + j, none⟩ = some x
  rw [show 0 + 0 * 5 + j = j by omega, B.cell]
  exact hj
theorem ty_leaf {r : Gh} {k re st : Int} {m : Bool} : TyG r (.agg #[.int .u8 k, .bool m, .int .i64 re, .int .i64 st, .slice none 0 0]) (.mk k m re st []) :=
  ⟨none, 0, rfl, fun _ => rfl, Nat.le_refl _, trivial⟩
section
variable {X : Nat → Prop} {w0 w : World} {r : Gh} {L : List Asr} {rb : Nat} {s p : List UInt8} {a : Nat} {K : Value → World → Prop} {Kp : List PanicEntry → World → Prop}
/-- take, as a step of a reader that may get stuck; Z: what is behind it -/
theorem c_tk (S : StX X w0 r w (rdC rb s a :: L)) (ha : a ≤ s.length) (hs : s.length ≤ 1000000000) (hp : p.length ≤ 1000000)
    (h : ∀ a' w', a' ≤ s.length → StX X w0 r w' (rdC rb s a' :: L) → tkR s p a = (a', some ()) → K (.tuple #[]) w')
    (hk : ∀ a' w', StX X w0 r w' (rdC rb s a' :: L) → tkR s p a = (a', none) → Kp stuckV w') :
    oCallP Tryd.prog Tryd.n_types_reader_take #[rdP rb, .string (bs p)] w K Kp := by
  refine c_take S ha hs hp fun w' S => ?_
  split
  · rename_i he
    exact h _ w' (takeR_le p a ha) S (by rw [tkR, he]; rfl)
  · rename_i he
    exact hk _ w' S (by rw [tkR, if_neg he])
theorem digT_le {most : Int} (ha : a ≤ s.length) (hm : 9 ≤ most) : (digT s most a).1 ≤ s.length ∧ ∀ n, (digT s most a).2 = some n → 0 ≤ n ∧ n ≤ most := by
  have hle := digR_le (s := s) (most := most) (fr := a) (s.length + 1 - a) a 0 ha (Int.le_refl _) (by omega) hm
  rw [digT]
  split
  · exact ⟨ha, fun n h => by cases h⟩
  · exact ⟨hle.2.1, fun n h => by cases h; exact hle.2.2⟩
theorem c_dg {most : Int} (S : StX X w0 r w (rdC rb s a :: L)) (ha : a ≤ s.length) (hs : s.length ≤ 1000000000) (hm : 9 ≤ most) (hm2 : most < 9223372036854775808)
    (h : ∀ a' n w', a' ≤ s.length → 0 ≤ n → n ≤ most → StX X w0 r w' (rdC rb s a' :: L) → digT s most a = (a', some n) → K (.int .i64 n) w')
    (hk : ∀ a' w', StX X w0 r w' (rdC rb s a' :: L) → digT s most a = (a', none) → Kp stuckV w') :
    oCallP Tryd.prog Tryd.n_types_reader_digits #[rdP rb, .int .i64 most] w K Kp := by
  refine c_digits S ha hs hm hm2 fun w' S => ?_
  have hle := digT_le (s := s) (a := a) ha hm
  cases he : digT s most a with
  | mk a' o =>
    rw [he] at S hle
    cases o with
    | some n => exact h a' n w' hle.1 (hle.2 n rfl).1 (hle.2 n rfl).2 S he
    | none => exact hk a' w' S he
end
end Go.Proofs
end

section
namespace Go.Proofs
open Go.Sh
set_option maxRecDepth 100000
set_option linter.unusedSimpArgs false

theorem _root_.Go.Sh.StX.d1 {X : Nat → Prop} {w0 w : World} {r : Gh} {L : List Asr} {x y : Asr} (S : StX X w0 r w (x :: y :: L)) : StX X w0 r w (x :: L) := S.swap.tl
theorem j_bandR {w : World} {A : (List Value → World → Prop) → Prop} {Z : Value → World → Prop} {b c : Bool} (R : World → Prop) (h0 : R w) (hA : b = true → ∀ K : List Value → World → Prop, (∀ w', R w' → K [.bool c] w') → A K) (hZ : ∀ w', R w' → Z (.bool (b && c)) w') :
    sJoin (fun K => gIf (.bool b) true (A K) (K [undef] w)) fun s _ w' => oPick (.bool b) (s.getD 0 undef) (.bool false) fun t => Z t w' := by
  intro K hK
  cases b with
  | true => exact hA rfl K fun w' e => hK _ _ fun _ => ⟨true, rfl, by simpa using hZ w' e⟩
  | false => exact hK _ _ fun _ => ⟨false, rfl, by simpa using hZ w h0⟩
/-- the contract of kind, so deep -/
def KindC (s : List UInt8) (rd : Nat → Rd' TyD) (left : Nat) : Prop :=
  ∀ {X : Nat → Prop} {w0 w : World} {r : Gh} {L : List Asr} {rb a : Nat} {K : Value → World → Prop} {Kp : List PanicEntry → World → Prop}, StX X w0 r w (rdC rb s a :: L) → a ≤ s.length → s.length ≤ 1000000000 →
  (∀ t v sn a' w', rd a = (a', some t) → a' ≤ s.length → StX X w0 (r.or sn) w' (rdC rb s a' :: L) → (∀ b o, sn b o → w.heap.size ≤ b) → TyG sn v t → ChnG sn v t → K v w') →
  (∀ a' w', rd a = (a', none) → StX X w0 r w' (rdC rb s a' :: L) → Kp stuckV w') → oCallP Tryd.prog Tryd.n_types_reader_kind #[rdP rb, .int .i64 (left : Int)] w K Kp
section
variable {X : Nat → Prop} {w0 w : World} {r : Gh} {L : List Asr} {rb : Nat} {s p : List UInt8} {a : Nat} {K : Value → World → Prop} {Kp : List PanicEntry → World → Prop}
theorem c_types_ref {n : Nat} {rec : Nat → Rd' TyD} (hkind : KindC s rec n) (hn : n ≤ 1000) (S : StX X w0 r w (rdC rb s a :: L)) (ha : a ≤ s.length) (hs : s.length ≤ 1000000000)
    (h : ∀ t v sn a' w', refS s rec (n + 1) a = (a', some t) → a' ≤ s.length → StX X w0 (r.or sn) w' (rdC rb s a' :: L) → (∀ b o, sn b o → w.heap.size ≤ b) → TyG sn v t → ChnG sn v t → K v w')
    (hkp : ∀ a' w', refS s rec (n + 1) a = (a', none) → StX X w0 r w' (rdC rb s a' :: L) → Kp stuckV w') :
    oCallP Tryd.prog Tryd.n_types_reader_ref #[rdP rb, .int .i64 ((n + 1 : Nat) : Int)] w K Kp := by
  have nf : ∀ {P : Prop}, false = true → P := fun h => by cases h
  refine Tryd.ok_types_reader_ref ?_
  unfold Tryd.F_types_reader_ref
  have hsz : w.heap.size ≤ w.heap.size := Nat.le_refl _
  refine S.alM fun b4 w1 hb4 _ S => ?_
  have S := S.swap
  refine c_tk S ha hs (by decide) (fun a1 w2 ha1 S e1 => ?_) (fun a1 w2 S e1 => ⟨nf, hkp a1 w2 (by rw [refS, e1]; rfl) S.d1⟩)
  have hR : refS s rec (n + 1) a = bd (rgR s a1) fun re a => bd (mtR s a) fun m a => bd (brR s (n + 1) re m a) fun _ a => bd (rec a) fun u a => (a, some (.mk 4 m re 0 [u])) := by rw [refS, e1]; rfl
  rw [hR] at h hkp
  clear hR
  (first | refine s_p ?_ | refine s_c (by omega) ?_)
  refine S.al fun b5 w3 S => ?_
  have S := S.swap
  refine S.stB fun w4 S => ?_
  refine j_intro (fun _ w' => ∃ a2 re, rgR s a1 = (a2, some re) ∧ a2 ≤ s.length ∧ -1 ≤ re ∧ StX X w0 r w' (rdC rb s a2 :: .cell b5 [.int .u8 4, .bool false, .int .i64 re, .int .i64 0, .slice none 0 0] 25 :: .cell b4 [.int .u8 0, .bool false, .int .i64 0, .int .i64 0, .slice none 0 0] 25 :: L)) (fun K2 hK2 => ?_) ?_
  · refine c_comes S ha1 fun w5 S => ?_
    refine c_b (fun hc => ?_) (fun hc => ?_)
    · have hc : cmB s a1 [39] = true := hc
      refine c_tk S ha1 hs (by decide) (fun a2 w6 ha2 S e2 => ?_) (fun a2 w6 S e2 => ⟨nf, hkp a2 w6 (by rw [rgR, if_pos hc, e2]; rfl) S.d1.d1⟩)
      refine c_dg S ha2 hs (by decide) (by decide) (fun a3 re w7 ha3 h0 _ S e3 => ?_) (fun a3 w7 S e3 => ⟨nf, hkp a3 w7 (by rw [rgR, if_pos hc, e2]; simp only [bd]; rw [e3]) S.d1.d1⟩)
      (first | refine s_p ?_ | refine s_c (by omega) ?_)
      refine S.st fun w8 S => ?_
      refine c_tk S ha3 hs (by decide) (fun a4 w9 ha4 S e4 => ?_) (fun a4 w9 S e4 => ⟨nf, hkp a4 w9 (by rw [rgR, if_pos hc, e2]; simp only [bd]; rw [e3]; simp only [bd]; rw [e4]) S.d1.d1⟩)
      exact hK2 _ _ ⟨a4, re, by rw [rgR, if_pos hc, e2]; simp only [bd]; rw [e3]; simp only [bd]; rw [e4], ha4, by omega, S⟩
    · have hc : cmB s a1 [39] = false := hc
      exact hK2 _ _ ⟨a1, -1, by rw [rgR, if_neg (by rw [hc]; simp)], ha1, Int.le_refl _, S⟩
  rintro _ w5 ⟨a2, re, e2, ha2, hre, S⟩ d5
  rw [e2] at h hkp
  simp only [bd] at h hkp
  refine j_intro (fun _ w' => ∃ a3 m, mtR s a2 = (a3, some m) ∧ a3 ≤ s.length ∧ StX X w0 r w' (rdC rb s a3 :: .cell b5 [.int .u8 4, .bool m, .int .i64 re, .int .i64 0, .slice none 0 0] 25 :: .cell b4 [.int .u8 0, .bool false, .int .i64 0, .int .i64 0, .slice none 0 0] 25 :: L)) (fun K2 hK2 => ?_) ?_
  · refine c_comes S ha2 fun w6 S => ?_
    refine c_b (fun hc => ?_) (fun hc => ?_)
    · have hc : cmB s a2 [109] = true := hc
      refine c_tk S ha2 hs (by decide) (fun a3 w7 ha3 S e3 => ?_) (fun a3 w7 S e3 => ⟨nf, hkp a3 w7 (by rw [mtR, if_pos hc, e3]; rfl) S.d1.d1⟩)
      (first | refine s_p ?_ | refine s_c (by omega) ?_)
      refine S.st fun w8 S => ?_
      exact hK2 _ _ ⟨a3, true, by rw [mtR, if_pos hc, e3]; rfl, ha3, S⟩
    · have hc : cmB s a2 [109] = false := hc
      exact hK2 _ _ ⟨a2, false, by rw [mtR, if_neg (by rw [hc]; simp)], ha2, S⟩
  rintro _ w6 ⟨a3, m, e3, ha3, S⟩ d6
  rw [e3] at h hkp
  simp only [bd] at h hkp
  refine j_intro (fun _ w' => ∃ a4, brR s (n + 1) re m a3 = (a4, some ()) ∧ a4 ≤ s.length ∧ StX X w0 r w' (rdC rb s a4 :: .cell b5 [.int .u8 4, .bool m, .int .i64 re, .int .i64 0, .slice none 0 0] 25 :: .cell b4 [.int .u8 0, .bool false, .int .i64 0, .int .i64 0, .slice none 0 0] 25 :: L)) (fun K2 hK2 => ?_) ?_
  · (repeat (first | refine s_p ?_ | refine s_c (by omega) ?_ | refine S.ld ?_ | refine S.ldB ?_ | refine S.ce ?_ | refine S.ceB ?_ | refine s_q ?_ | refine s_qc (by omega) ?_ | refine n_some ?_ | rw [List.getD_cons_zero] | rw [List.getD_cons_succ]))
    refine j_bandH (c := !m) (fun _ K3 hK3 => ?_) ?_
    · (repeat (first | refine s_p ?_ | refine s_c (by omega) ?_ | refine S.ld ?_ | refine S.ldB ?_ | refine S.ce ?_ | refine S.ceB ?_ | refine s_q ?_ | refine s_qc (by omega) ?_ | refine n_some ?_ | rw [List.getD_cons_zero] | rw [List.getD_cons_succ]))
      exact hK3
    generalize hbare : (decide (re < 0) && !m) = bare at *
    refine j_bandR (c := cmB s a3 [38]) (fun w' => StX X w0 r w' (rdC rb s a3 :: .cell b5 [.int .u8 4, .bool m, .int .i64 re, .int .i64 0, .slice none 0 0] 25 :: .cell b4 [.int .u8 0, .bool false, .int .i64 0, .int .i64 0, .slice none 0 0] 25 :: L)) S (fun _ K3 hK3 => ?_) fun w7 S => ?_
    · exact c_comes S ha3 fun w8 S => hK3 _ S
    refine c_b (fun hc1 => ?_) (fun hc1 => ?_)
    · (first | refine s_p ?_ | refine s_c (by omega) ?_)
      (first | refine s_p ?_ | refine s_c (by omega) ?_)
      exact ⟨_, _, rfl, nf, hkp a3 w7 (by rw [brR, hbare, if_pos hc1]) S.d1.d1⟩
    refine j_bandR (c := cmB s a3 [32]) (fun w' => StX X w0 r w' (rdC rb s a3 :: .cell b5 [.int .u8 4, .bool m, .int .i64 re, .int .i64 0, .slice none 0 0] 25 :: .cell b4 [.int .u8 0, .bool false, .int .i64 0, .int .i64 0, .slice none 0 0] 25 :: L)) S (fun _ K3 hK3 => ?_) fun w8 S => ?_
    · exact c_comes S ha3 fun w9 S => hK3 _ S
    refine j_bandH (c := decide (2 < n + 1)) (fun _ K3 hK3 => ?_) ?_
    · (first | refine s_p ?_ | refine s_c (by omega) ?_)
      rw [show decide ((2 : Int) < ((n + 1 : Nat) : Int)) = decide (2 < n + 1) from decide_eq_decide.2 (by omega)]
      exact hK3
    have hbr : brR s (n + 1) re m a3 = if (bare && cmB s a3 [32]) && decide (2 < n + 1) then bd (tkR s [32] a3) fun _ a => if !cmB s a [38] then (a, none) else (a, some ()) else (a3, some ()) := by
      rw [brR, hbare, if_neg (by rw [hc1]; simp)]
    refine c_b (fun hc2 => ?_) (fun hc2 => ?_)
    · rw [if_pos hc2] at hbr
      refine c_tk S ha3 hs (by decide) (fun a4 w9 ha4 S e4 => ?_) (fun a4 w9 S e4 => ⟨nf, hkp a4 w9 (by rw [hbr, e4]; rfl) S.d1.d1⟩)
      rw [e4] at hbr
      refine c_comes S ha4 fun w10 S => ?_
      (first | refine s_p ?_ | refine s_c (by omega) ?_)
      refine c_b (fun hc3 => ?_) (fun hc3 => ?_)
      · have hc3 : (!cmB s a4 [38]) = true := hc3
        (first | refine s_p ?_ | refine s_c (by omega) ?_)
        (first | refine s_p ?_ | refine s_c (by omega) ?_)
        exact ⟨_, _, rfl, nf, hkp a4 w10 (by rw [hbr]; simp only [bd]; rw [if_pos hc3]) S.d1.d1⟩
      · have hc3 : (!cmB s a4 [38]) = false := hc3
        exact hK2 _ _ ⟨a4, by rw [hbr]; simp only [bd]; rw [if_neg (by rw [hc3]; simp)], ha4, S⟩
    · rw [if_neg (by rw [hc2]; simp)] at hbr
      exact hK2 _ _ ⟨a3, hbr, ha3, S⟩
  rintro _ w7 ⟨a4, e4, ha4, S⟩ d7
  rw [e4] at h hkp
  simp only [bd] at h hkp
  (first | refine s_p ?_ | refine s_c (by omega) ?_)
  rw [show ((n + 1 : Nat) : Int) - 1 = (n : Int) by omega]
  have hb47 : b4 < w7.heap.size := Asr.lt (x := .cell b4 [.int .u8 0, .bool false, .int .i64 0, .int .i64 0, .slice none 0 0] 25) (S.has _ (by simp)) rfl
  refine hkind S ha4 hs (fun u v sn a5 w8 e5 ha5 S hf hty hch => ?_) (fun a5 w8 e5 S => ⟨nf, hkp a5 w8 (by rw [e5]) S.d1.d1⟩)
  have hty0 := hty
  obtain ⟨p9, cap9, rfl, _⟩ := hty
  refine w_lit (e := 25) (cs := [.int .u8 u.k, .bool u.m, .int .i64 u.re, .int .i64 u.st, .slice p9 u.of.length cap9]) (by kernel_rfl) fun b9 w9 hb9 e9 _ B9 => ?_
  have hno : ∀ o, ¬ sn b9 o := fun o ho => by have := S.holds.lt (Or.inr ho); omega
  have hb4' : b4 < w8.heap.size := Asr.lt (x := .cell b4 [.int .u8 0, .bool false, .int .i64 0, .int .i64 0, .slice none 0 0] 25) (S.has _ (by simp)) rfl
  have S := S.add e9 (by omega) B9
  have S := S.frz
  (first | refine s_p ?_ | refine s_c (by omega) ?_)
  refine S.st fun w10 S => ?_
  (repeat (first | refine s_p ?_ | refine s_c (by omega) ?_ | refine S.ld ?_ | refine S.ldB ?_ | refine S.ce ?_ | refine S.ceB ?_ | refine s_q ?_ | refine s_qc (by omega) ?_ | refine n_some ?_ | rw [List.getD_cons_zero] | rw [List.getD_cons_succ]))
  refine S.stB fun w11 S => ?_
  (repeat (first | refine s_p ?_ | refine s_c (by omega) ?_ | refine S.ld ?_ | refine S.ldB ?_ | refine S.ce ?_ | refine S.ceB ?_ | refine s_q ?_ | refine s_qc (by omega) ?_ | refine n_some ?_ | rw [List.getD_cons_zero] | rw [List.getD_cons_succ]))
  have S := S.d1.d1.to (r.or (sn.or (one b9 [.int .u8 u.k, .bool u.m, .int .i64 u.re, .int .i64 u.st, .slice p9 u.of.length cap9] 25)))
  refine h (.mk 4 m re 0 [u]) _ (sn.or (one b9 [.int .u8 u.k, .bool u.m, .int .i64 u.re, .int .i64 u.st, .slice p9 u.of.length cap9] 25)) a5 _ (by rw [e5]) ha5 S (fun b o hbo => ?_) (ty_one hty0) (.one hno rfl hty0 hch)
  rcases hbo with hbo | ⟨rfl, _⟩
  · have := hf b o hbo; omega
  · omega
end
end Go.Proofs
end

section
namespace Go.Proofs
open Go.Sh
set_option maxRecDepth 100000
set_option linter.unusedSimpArgs false

theorem kind_step {s : List UInt8} {rec : Nat → Rd' TyD} {left : Nat} (hl : left ≤ 1000) (hrec : 1 < left → ∃ m, left = m + 1 ∧ KindC s rec m) : KindC s (kindS s rec left) left := by
  intro X w0 w r L rb a K Kp S ha hs h hkp
  have nf : ∀ {P : Prop}, false = true → P := fun h => by cases h
  refine Tryd.ok_types_reader_kind ?_
  unfold Tryd.F_types_reader_kind
  refine S.alM fun b4 w1 hb4 _ S => ?_
  have S := S.swap
  (first | refine s_p ?_ | refine s_c (by omega) ?_)
  rw [show decide ((1 : Int) < (left : Int)) = decide (1 < left) from decide_eq_decide.2 (by omega)]
  refine c_comes S ha fun w2 S => ?_
  refine c_b (fun hc => ?_) (fun hc => ?_)
  · have hc : cmB s a [105] = true := hc
    have hR : kindS s rec left a = bd (tkR s [105, 54, 52] a) fun _ a => (a, some (.mk 1 false 0 0 [])) := by rw [kindS, if_pos hc]
    rw [hR] at h hkp; clear hR
    refine c_tk S ha hs (by decide) (fun a1 w3 ha1 S e1 => ?_) (fun a1 w3 S e1 => ⟨nf, hkp a1 w3 (by rw [e1]; rfl) S.d1⟩)
    (first | refine s_p ?_ | refine s_c (by omega) ?_)
    refine S.stB fun w4 S => ?_
    (repeat (first | refine s_p ?_ | refine s_c (by omega) ?_ | refine S.ld ?_ | refine S.ldB ?_ | refine S.ce ?_ | refine S.ceB ?_ | refine s_q ?_ | refine s_qc (by omega) ?_ | refine n_some ?_ | rw [List.getD_cons_zero] | rw [List.getD_cons_succ]))
    exact h _ _ nothing a1 _ (by rw [e1]; rfl) ha1 (S.d1.to (r.or nothing)) (fun _ _ h => h.elim) ty_leaf .nil
  have hc1 : cmB s a [105] = false := hc
  refine c_comes S ha fun w3 S => ?_
  refine c_b (fun hc => ?_) (fun hc => ?_)
  · have hc : cmB s a [98] = true := hc
    have hR : kindS s rec left a = bd (tkR s [98, 111, 111, 108] a) fun _ a => (a, some (.mk 2 false 0 0 [])) := by rw [kindS, if_neg (by rw [hc1]; simp), if_pos hc]
    rw [hR] at h hkp; clear hR
    refine c_tk S ha hs (by decide) (fun a1 w3 ha1 S e1 => ?_) (fun a1 w3 S e1 => ⟨nf, hkp a1 w3 (by rw [e1]; rfl) S.d1⟩)
    (first | refine s_p ?_ | refine s_c (by omega) ?_)
    refine S.stB fun w4 S => ?_
    (repeat (first | refine s_p ?_ | refine s_c (by omega) ?_ | refine S.ld ?_ | refine S.ldB ?_ | refine S.ce ?_ | refine S.ceB ?_ | refine s_q ?_ | refine s_qc (by omega) ?_ | refine n_some ?_ | rw [List.getD_cons_zero] | rw [List.getD_cons_succ]))
    exact h _ _ nothing a1 _ (by rw [e1]; rfl) ha1 (S.d1.to (r.or nothing)) (fun _ _ h => h.elim) ty_leaf .nil
  have hc2 : cmB s a [98] = false := hc
  refine c_comes S ha fun w4 S => ?_
  refine c_b (fun hc => ?_) (fun hc => ?_)
  · have hc : cmB s a [35] = true := hc
    have hR : kindS s rec left a = bd (tkR s [35] a) fun _ a => bd (digT s 31 a) fun n a => (a, some (.mk 5 false 0 n [])) := by rw [kindS, if_neg (by rw [hc1]; simp), if_neg (by rw [hc2]; simp), if_pos hc]
    rw [hR] at h hkp; clear hR
    refine c_tk S ha hs (by decide) (fun a1 w3 ha1 S e1 => ?_) (fun a1 w3 S e1 => ⟨nf, hkp a1 w3 (by rw [e1]; rfl) S.d1⟩)
    rw [e1] at h hkp
    simp only [bd] at h hkp
    refine c_dg S ha1 hs (by decide) (by decide) (fun a2 n w4 ha2 h0 _ S e2 => ?_) (fun a2 w4 S e2 => ⟨nf, hkp a2 w4 (by rw [e2]) S.d1⟩)
    (first | refine s_p ?_ | refine s_c (by omega) ?_)
    refine S.stB fun w5 S => ?_
    (repeat (first | refine s_p ?_ | refine s_c (by omega) ?_ | refine S.ld ?_ | refine S.ldB ?_ | refine S.ce ?_ | refine S.ceB ?_ | refine s_q ?_ | refine s_qc (by omega) ?_ | refine n_some ?_ | rw [List.getD_cons_zero] | rw [List.getD_cons_succ]))
    exact h _ _ nothing a2 _ (by rw [e2]) ha2 (S.d1.to (r.or nothing)) (fun _ _ h => h.elim) ty_leaf .nil
  have hc3 : cmB s a [35] = false := hc
  refine c_comes S ha fun w5 S => ?_
  refine j_bandH (c := decide (1 < left)) (fun _ K3 hK3 => hK3) ?_
  refine c_b (fun hc => ?_) (fun hc => ?_)
  · have hc : (cmB s a [66] && decide (1 < left)) = true := hc
    have hR : kindS s rec left a = bd (tkR s [66, 111, 120, 60] a) fun _ a => bd (rec a) fun u a => bd (tkR s [62] a) fun _ a => (a, some (.mk 3 false 0 0 [u])) := by
      rw [kindS, if_neg (by rw [hc1]; simp), if_neg (by rw [hc2]; simp), if_neg (by rw [hc3]; simp), if_pos hc]
    rw [hR] at h hkp; clear hR
    obtain ⟨m, rfl, hkind⟩ := hrec (by simp only [Bool.and_eq_true, decide_eq_true_eq] at hc; exact hc.2)
    refine c_tk S ha hs (by decide) (fun a1 w6 ha1 S e1 => ?_) (fun a1 w6 S e1 => ⟨nf, hkp a1 w6 (by rw [e1]; rfl) S.d1⟩)
    rw [e1] at h hkp
    simp only [bd] at h hkp
    (first | refine s_p ?_ | refine s_c (by omega) ?_)
    rw [show ((m + 1 : Nat) : Int) - 1 = (m : Int) by omega]
    have hb46 : b4 < w6.heap.size := Asr.lt (x := .cell b4 [.int .u8 0, .bool false, .int .i64 0, .int .i64 0, .slice none 0 0] 25) (S.has _ (by simp)) rfl
    refine hkind S ha1 hs (fun u v sn a2 w7 e2 ha2 S hf hty hch => ?_) (fun a2 w7 e2 S => ⟨nf, hkp a2 w7 (by rw [e2]) S.d1⟩)
    rw [e2] at h hkp
    simp only [bd] at h hkp
    have hty0 := hty
    obtain ⟨p9, cap9, rfl, _⟩ := hty
    refine S.al fun b6 w8 S => ?_
    have S := S.swap
    refine S.stB fun w9 S => ?_
    refine c_tk S ha2 hs (by decide) (fun a3 w10 ha3 S e3 => ?_) (fun a3 w10 S e3 => ⟨nf, hkp a3 w10 (by rw [e3]) (S.d1.d1.to r)⟩)
    (repeat (first | refine s_p ?_ | refine s_c (by omega) ?_ | refine S.ld ?_ | refine S.ldB ?_ | refine S.ce ?_ | refine S.ceB ?_ | refine s_q ?_ | refine s_qc (by omega) ?_ | refine n_some ?_ | rw [List.getD_cons_zero] | rw [List.getD_cons_succ]))
    refine w_lit (e := 25) (cs := [.int .u8 u.k, .bool u.m, .int .i64 u.re, .int .i64 u.st, .slice p9 u.of.length cap9]) (by kernel_rfl) fun b9 w11 hb9 e9 _ B9 => ?_
    have hno : ∀ o, ¬ sn b9 o := fun o ho => by have := S.holds.lt (Or.inr ho); omega
    have hb410 : b4 < w10.heap.size := Asr.lt (x := .cell b4 [.int .u8 0, .bool false, .int .i64 0, .int .i64 0, .slice none 0 0] 25) (S.has _ (by simp)) rfl
    have S := S.add e9 (by omega) B9
    have S := S.frz
    (first | refine s_p ?_ | refine s_c (by omega) ?_)
    refine S.stB fun w12 S => ?_
    (repeat (first | refine s_p ?_ | refine s_c (by omega) ?_ | refine S.ld ?_ | refine S.ldB ?_ | refine S.ce ?_ | refine S.ceB ?_ | refine s_q ?_ | refine s_qc (by omega) ?_ | refine n_some ?_ | rw [List.getD_cons_zero] | rw [List.getD_cons_succ]))
    have S := S.d1.d1.to (r.or (sn.or (one b9 [.int .u8 u.k, .bool u.m, .int .i64 u.re, .int .i64 u.st, .slice p9 u.of.length cap9] 25)))
    refine h (.mk 3 false 0 0 [u]) _ (sn.or (one b9 [.int .u8 u.k, .bool u.m, .int .i64 u.re, .int .i64 u.st, .slice p9 u.of.length cap9] 25)) a3 _ (by rw [e3]) ha3 S (fun b o hbo => ?_) (ty_one hty0) (.one hno rfl hty0 hch)
    rcases hbo with hbo | ⟨rfl, _⟩
    · have := hf b o hbo; omega
    · omega
  have hc4 : (cmB s a [66] && decide (1 < left)) = false := hc
  refine c_comes S ha fun w6 S => ?_
  refine j_bandH (c := decide (1 < left)) (fun _ K3 hK3 => hK3) ?_
  have hR : kindS s rec left a = if cmB s a [38] && decide (1 < left) then refS s rec left a else (a, none) := by
    rw [kindS, if_neg (by rw [hc1]; simp), if_neg (by rw [hc2]; simp), if_neg (by rw [hc3]; simp), if_neg (by rw [hc4]; simp)]
  rw [hR] at h hkp; clear hR
  refine c_b (fun hc => ?_) (fun hc => ?_)
  · have hc : (cmB s a [38] && decide (1 < left)) = true := hc
    rw [if_pos hc] at h hkp
    obtain ⟨m, rfl, hkind⟩ := hrec (by simp only [Bool.and_eq_true, decide_eq_true_eq] at hc; exact hc.2)
    have hb46 : b4 < w6.heap.size := Asr.lt (x := .cell b4 [.int .u8 0, .bool false, .int .i64 0, .int .i64 0, .slice none 0 0] 25) (S.has _ (by simp)) rfl
    refine c_types_ref hkind (by omega) S ha hs (fun u v sn a2 w7 e2 ha2 S hf hty hch => ?_) (fun a2 w7 e2 S => ⟨nf, hkp a2 w7 e2 S.d1⟩)
    have hty0 := hty
    obtain ⟨p9, cap9, rfl, _⟩ := hty
    refine S.stB fun w8 S => ?_
    (repeat (first | refine s_p ?_ | refine s_c (by omega) ?_ | refine S.ld ?_ | refine S.ldB ?_ | refine S.ce ?_ | refine S.ceB ?_ | refine s_q ?_ | refine s_qc (by omega) ?_ | refine n_some ?_ | rw [List.getD_cons_zero] | rw [List.getD_cons_succ]))
    exact h u _ sn a2 _ e2 ha2 S.d1 (fun b o hbo => by have := hf b o hbo; omega) hty0 hch
  · have hc : (cmB s a [38] && decide (1 < left)) = false := hc
    rw [if_neg (by rw [hc]; simp)] at hkp
    (first | refine s_p ?_ | refine s_c (by omega) ?_)
    (first | refine s_p ?_ | refine s_c (by omega) ?_)
    exact ⟨_, _, rfl, nf, hkp a w6 rfl S.d1⟩
theorem c_types_kind (s : List UInt8) : ∀ n, n ≤ 1000 → KindC s (kindR s n) n := by
  intro n
  induction n with
  | zero => intro _; exact kind_step (by decide) fun h => absurd h (by decide)
  | succ n ih => intro hn; exact kind_step hn fun _ => ⟨n, rfl, ih (by omega)⟩
end Go.Proofs
end

section
namespace Go.Proofs
open Go.Sh
set_option maxRecDepth 100000
set_option linter.unusedSimpArgs false

def zeroD : TyD := .mk 0 false 0 0 []
/-- what Read tells -/
def readT (s : List UInt8) : TyD × Int × Int :=
  match kindR s 48 0 with
  | (a, some t) => if (a : Int) < s.length then (zeroD, a, 60) else (t, 0, 0)
  | (a, none) => (zeroD, a, 60)
abbrev zeroC : List Value := [.int .u8 0, .bool false, .int .i64 0, .int .i64 0, .slice none 0 0]
theorem d_Read_ret {v1 v2 v3 v4 : Value} {w : World} {R : FrameMode → World → Prop} {Rp : List PanicEntry → FrameMode → World → Prop} (h : R .returning w) :
    oDef Tryd.prog Tryd.n_types_Read_1 #[v1, v2, v3, v4] .returning w R Rp := by
  refine Tryd.ok_types_Read_1 ?_
  unfold Tryd.F_types_Read_1
  simp only [recov]
  (repeat (first | refine s_p ?_ | refine s_c (by omega) ?_ | refine S.ld ?_ | refine S.ldB ?_ | refine S.ce ?_ | refine S.ceB ?_ | refine s_q ?_ | refine s_qc (by omega) ?_ | refine n_some ?_ | rw [List.getD_cons_zero] | rw [List.getD_cons_succ]))
  exact h
theorem d_Read_stuck {X : Nat → Prop} {w0 w : World} {r : Gh} {L : List Asr} {rb b5 b4 b3 b2 a : Nat} {s : List UInt8} {c2 : List Value} {R : FrameMode → World → Prop} {Rp : List PanicEntry → FrameMode → World → Prop}
    (S : StX X w0 r w (rdC rb s a :: .cell b5 [rdP rb] 86 :: .cell b4 [.int .i64 0] 29 :: .cell b3 [.int .i64 0] 3 :: .cell b2 c2 25 :: L)) (hc : c2.length = 5)
    (h : ∀ w', StX X w0 r w' (rdC rb s a :: .cell b5 [rdP rb] 86 :: .cell b4 [.int .i64 60] 29 :: .cell b3 [.int .i64 (a : Int)] 3 :: .cell b2 zeroC 25 :: L) → R (.panicking [{ v := .iface 90 (.agg #[]), recovered := true }]) w') :
    oDef Tryd.prog Tryd.n_types_Read_1 #[.pointer (some ⟨b5, 0, none⟩), .pointer (some ⟨b2, 0, none⟩), .pointer (some ⟨b3, 0, none⟩), .pointer (some ⟨b4, 0, none⟩)] (.panicking stuckV) w R Rp := by
  refine Tryd.ok_types_Read_1 ?_
  unfold Tryd.F_types_Read_1
  simp only [recov]
  (repeat (first | refine s_p ?_ | refine s_c (by omega) ?_ | refine S.ld ?_ | refine S.ldB ?_ | refine S.ce ?_ | refine S.ceB ?_ | refine s_q ?_ | refine s_qc (by omega) ?_ | refine n_some ?_ | rw [List.getD_cons_zero] | rw [List.getD_cons_succ]))
  refine S.al fun b9 w1 S => ?_
  refine S.stB fun w2 S => ?_
  have S := S.tl
  (repeat (first | refine s_p ?_ | refine s_c (by omega) ?_ | refine S.ld ?_ | refine S.ldB ?_ | refine S.ce ?_ | refine S.ceB ?_ | refine s_q ?_ | refine s_qc (by omega) ?_ | refine n_some ?_ | rw [List.getD_cons_zero] | rw [List.getD_cons_succ]))
  refine S.stB (hl := hc) fun w3 S => ?_
  refine S.st fun w4 S => ?_
  refine S.st fun w5 S => ?_
  exact h _ S
theorem c_types_Read {s : List UInt8} {w : World} {r : Gh} {K : Value → World → Prop} (hr : Holds r w) (hs : s.length ≤ 1000000000)
    (h : ∀ v sn w', Ext w w' → New w sn w' → TyG sn v (readT s).1 → ChnG sn v (readT s).1 → K (.tuple #[v, .int .i64 (readT s).2.1, .int .i64 (readT s).2.2]) w') :
    oCall Tryd.prog Tryd.n_types_Read #[.string (bs s)] w K := by
  refine Tryd.ok_types_Read ?_
  unfold Tryd.F_types_Read
  have S := St.start hr
  refine S.al fun b2 w1 S => ?_
  refine S.al fun b3 w2 S => ?_
  refine S.al fun b4 w3 S => ?_
  (first | refine s_p ?_ | refine s_c (by omega) ?_)
  refine S.box fun rb w4 S => ?_
  refine S.al fun b5 w5 S => ?_
  refine S.st fun w6 S => ?_
  have S := S.swap
  have esz := S.ext.size
  unfold Tryd.B_types_Read
  (repeat (first | refine s_p ?_ | refine s_c (by omega) ?_ | refine S.ld ?_ | refine S.ldB ?_ | refine S.ce ?_ | refine S.ceB ?_ | refine s_q ?_ | refine s_qc (by omega) ?_ | refine n_some ?_ | rw [List.getD_cons_zero] | rw [List.getD_cons_succ]))
  refine c_types_kind s 48 (by decide) S (Nat.zero_le _) hs (fun t v sn a w7 e7 ha S hf hty hch => ?_) (fun a w7 e7 S => ⟨(fun h => by cases h), ?_⟩)
  · have hty0 := hty
    obtain ⟨p9, cap9, rfl, _⟩ := hty
    refine S.stB fun w8 S => ?_
    refine j_intro (fun _ w' => ¬ (a : Int) < s.length ∧ StX noX w (r.or sn) w' (rdC rb s a :: .cell b5 [rdP rb] 86 :: .cell b4 [.int .i64 0] 29 :: .cell b3 [.int .i64 0] 3 :: .cell b2 [.int .u8 t.k, .bool t.m, .int .i64 t.re, .int .i64 t.st, .slice p9 t.of.length cap9] 25 :: [])) (fun K2 hK2 => ?_) ?_
    · (repeat (first | refine s_p ?_ | refine s_c (by omega) ?_ | refine S.ld ?_ | refine S.ldB ?_ | refine S.ce ?_ | refine S.ceB ?_ | refine s_q ?_ | refine s_qc (by omega) ?_ | refine n_some ?_ | rw [List.getD_cons_zero] | rw [List.getD_cons_succ]))
      refine c_if (fun hlt => ?_) (fun hge => hK2 _ _ ⟨hge, S⟩)
      have hT : readT s = (zeroD, (a : Int), 60) := by rw [readT, e7]; simp only; rw [if_pos hlt]
      rw [hT] at h
      (first | refine s_p ?_ | refine s_c (by omega) ?_)
      (first | refine s_p ?_ | refine s_c (by omega) ?_)
      refine ⟨_, _, rfl, (fun h => by cases h), ?_⟩
      refine d_Read_stuck S rfl fun w9 S => ?_
      simp only [settle, List.dropWhile, eEnd]
      (repeat (first | refine s_p ?_ | refine s_c (by omega) ?_ | refine S.ld ?_ | refine S.ldB ?_ | refine S.ce ?_ | refine S.ceB ?_ | refine s_q ?_ | refine s_qc (by omega) ?_ | refine n_some ?_ | rw [List.getD_cons_zero] | rw [List.getD_cons_succ]))
      exact h _ nothing _ S.ext New.nothing ty_leaf .nil
    · rintro _ w9 ⟨hge, S⟩ d9
      have hT : readT s = (t, 0, 0) := by rw [readT, e7]; simp only; rw [if_neg hge]
      rw [hT] at h
      (repeat (first | refine s_p ?_ | refine s_c (by omega) ?_ | refine S.ld ?_ | refine S.ldB ?_ | refine S.ce ?_ | refine S.ceB ?_ | refine s_q ?_ | refine s_qc (by omega) ?_ | refine n_some ?_ | rw [List.getD_cons_zero] | rw [List.getD_cons_succ]))
      refine S.stB fun w10 S => ?_
      refine S.st fun w11 S => ?_
      refine S.st fun w12 S => ?_
      refine d_Read_ret ?_
      simp only [settle, eEnd]
      (repeat (first | refine s_p ?_ | refine s_c (by omega) ?_ | refine S.ld ?_ | refine S.ldB ?_ | refine S.ce ?_ | refine S.ceB ?_ | refine s_q ?_ | refine s_qc (by omega) ?_ | refine n_some ?_ | rw [List.getD_cons_zero] | rw [List.getD_cons_succ]))
      exact h _ sn _ S.ext ⟨S.holds.le (h := inferInstance), fun b o hb => Nat.le_trans esz (hf b o hb)⟩ hty0 hch
  · have hT : readT s = (zeroD, (a : Int), 60) := by rw [readT, e7]
    rw [hT] at h
    refine d_Read_stuck S rfl fun w9 S => ?_
    simp only [settle, List.dropWhile, eEnd]
    (repeat (first | refine s_p ?_ | refine s_c (by omega) ?_ | refine S.ld ?_ | refine S.ldB ?_ | refine S.ce ?_ | refine S.ceB ?_ | refine s_q ?_ | refine s_qc (by omega) ?_ | refine n_some ?_ | rw [List.getD_cons_zero] | rw [List.getD_cons_succ]))
    exact h _ nothing _ S.ext New.nothing ty_leaf .nil
end Go.Proofs
end

section
namespace Go.Sh
open Go.RowKit
set_option linter.unusedSimpArgs false
set_option linter.unusedVariables false

/-- an unsigned kind, and how many numbers it has -/
class Uk (k : IntKind) (m : outParam Int) : Prop where
  h : ∀ n : Int, k.wrap n = n % m
instance : Uk .u8 256 := ⟨IntKind.wrap_u8⟩
instance : Uk .u32 4294967296 := ⟨IntKind.wrap_u32⟩
instance : Uk .u64 18446744073709551616 := ⟨IntKind.wrap_u64⟩
theorem Uk.eq {k : IntKind} {m n : Int} [h : Uk k m] (h0 : 0 ≤ n) (h1 : n < m) : k.wrap n = n := by rw [h.h]; exact Int.emod_eq_of_lt h0 h1
section
variable {P : Program} {t s : TypeId} {c : Bool} {k : IntKind} {m a b : Int}
instance (priority := low) [h : Uk k m] : PCond P (bsem .add t c (.int k a) (.int k b)) (.int k (a + b)) (0 ≤ a + b ∧ a + b < m) := .of fun x _ z =>
  p_of (fun w => by rw [bsem_int]; simp [binOp, Op.intArith, Uk.eq (k := k) x.1 x.2]) z
instance (priority := low) [h : Uk k m] : PCond P (bsem .sub t c (.int k a) (.int k b)) (.int k (a - b)) (0 ≤ a - b ∧ a - b < m) := .of fun x _ z =>
  p_of (fun w => by rw [bsem_int]; simp [binOp, Op.intArith, Uk.eq (k := k) x.1 x.2]) z
instance (priority := low) [h : Uk k m] : PCond P (bsem .mul t c (.int k a) (.int k b)) (.int k (a * b)) (0 ≤ a * b ∧ a * b < m) := .of fun x _ z =>
  p_of (fun w => by rw [bsem_int]; simp [binOp, Op.intArith, Uk.eq (k := k) x.1 x.2]) z
instance (priority := low) [h : Uk k m] : PCond P (bsem .quo t c (.int k a) (.int k b)) (.int k (a / b)) (0 ≤ a ∧ a < m ∧ 0 < b) := .of fun x _ z =>
  p_of (fun w => by
    have h1 : b ≠ 0 := by omega
    have h2 : a.tdiv b = a / b := Int.tdiv_eq_ediv_of_nonneg x.1
    have h3 : a / b ≤ a := Int.ediv_le_self _ x.1
    have h4 : 0 ≤ a / b := Int.ediv_nonneg x.1 (by omega)
    rw [bsem_int]; simp [binOp, Op.intDiv, h1, h2, Uk.eq (k := k) (m := m) (n := a / b) h4 (by omega)]) z
instance (priority := low) [h : Uk k m] : PCond P (bsem .rem t c (.int k a) (.int k b)) (.int k (a % b)) (0 ≤ a ∧ 0 < b) := .of fun x _ z =>
  p_of (fun w => by
    have h1 : b ≠ 0 := by omega
    rw [bsem_int]; simp [binOp, Op.intDiv, h1, Int.tmod_eq_emod_of_nonneg x.1]) z
instance (priority := low) {k1 k3 : IntKind} [h1 : KdT P s k1] [h2 : KdT P t k] [h : Uk k m] : PCond P (convert s t (.int k3 a)) (.int k a) (0 ≤ a ∧ a < m) := .of fun x _ z =>
  p_cvt h1.h h2.h (by rw [Uk.eq (k := k) x.1 x.2]; exact z)
/-- shifted to the right by e bits -/
theorem p_shrI {K : Value → Prop} {i : IntKind} {n : Int} (e : Nat) (he : n = e) (hb : e ≤ k.bits) (z : K (.int k (a / 2 ^ e))) : opP P (bsem .shr t c (.int k a) (.int i n)) K :=
  p_of (fun w => by
    have h1 : ¬ n < 0 := by omega
    have h2 : n.toNat = e := by omega
    have h3 : Int.fdiv a (2 ^ (min n.toNat k.bits)) = a / 2 ^ e := by
      rw [h2, Nat.min_eq_left hb, Int.fdiv_eq_ediv_of_nonneg _ (Int.pow_nonneg (by decide))]
    rw [bsem_int]
    simp only [binOp, Op.shift, h1, if_false, h3]; rfl) z
end
end Go.Sh
end

section
namespace Go.Proofs
open Go.Sh
set_option maxRecDepth 100000
set_option linter.unusedSimpArgs false

/-- 'B or (G and C)', G and C both reckoned -/
theorem j_borand2 {b g c : Bool} {w : World} {G : (List Value → World → Prop) → Prop} {A : (List Value → World → Prop) → World → Prop} {Z : Value → World → Prop}
    (hG : b = false → ∀ K : List Value → World → Prop, K [.bool g] w → G K) (hA : b = false → g = true → ∀ K : List Value → World → Prop, K [.bool c] w → A K w) (hZ : Z (.bool (b || (g && c))) w) :
    sJoin (fun K1 => gIf (.bool b) false (G K1) (K1 [undef] w)) fun s1 _ w1 =>
      sJoin (fun K2 => gIf (s1.getD 0 undef) true (A K2 w1) (K2 [undef] w1)) fun s2 _ w2 =>
        sJoin (fun K3 => gIf (.bool b) false (oPick (s1.getD 0 undef) (s2.getD 0 undef) (.bool false) fun t => K3 [t] w2) (K3 [undef] w2)) fun s3 _ w3 =>
          oPick (.bool b) (.bool true) (s3.getD 0 undef) fun t => Z t w3 := by
  intro K1 hK1
  cases b with
  | true =>
    refine hK1 _ _ fun _ => ?_
    intro K2 hK2
    refine hK2 _ _ fun _ => ?_
    intro K3 hK3
    refine hK3 _ _ fun _ => ⟨true, rfl, ?_⟩
    rw [Bool.true_or] at hZ; exact hZ
  | false =>
    refine hG rfl _ (hK1 _ _ fun _ => ?_)
    intro K2 hK2
    cases g with
    | true =>
      refine hA rfl rfl _ (hK2 _ _ fun _ => ?_)
      intro K3 hK3
      refine ⟨true, rfl, hK3 _ _ fun _ => ⟨false, rfl, ?_⟩⟩
      rw [Bool.false_or, Bool.true_and] at hZ; exact hZ
    | false =>
      refine hK2 _ _ fun _ => ?_
      intro K3 hK3
      refine ⟨false, rfl, hK3 _ _ fun _ => ⟨false, rfl, ?_⟩⟩
      rw [Bool.false_or, Bool.false_and] at hZ; exact hZ
/-- where the document's reader stands -/
abbrev rqC (rb : Nat) (s : List UInt8) (a : Nat) (st : Bool) : Asr := .cell rb [.string (bs s), .int .i64 (a : Int), .bool st] 94
def nxB (s : List UInt8) (a : Nat) (st : Bool) : Int := if st || decide ((s.length : Int) ≤ a) then 0 else byteAt s a
/-- what came of it: from a place, stuck or not, as the one reader goes -/
def Out {α : Type} (st : Bool) (a : Nat) (x : Rd' α) (a' : Nat) (st' : Bool) (v : α) : Prop :=
  if st then st' = true ∧ a' = a else
    match x with
    | (a1, some u) => st' = false ∧ a' = a1 ∧ v = u
    | (a1, none) => st' = true ∧ a' = a1
theorem Out.stuck {α : Type} {a : Nat} {x : Rd' α} {v : α} : Out true a x a true v := ⟨rfl, rfl⟩
theorem Out.ok {α : Type} {a a' : Nat} {x : Rd' α} {v : α} (h : x = (a', some v)) : Out false a x a' false v := by
  rw [h]; exact ⟨rfl, rfl, rfl⟩
theorem Out.no {α : Type} {a a' : Nat} {x : Rd' α} {v : α} (h : x = (a', none)) : Out false a x a' true v := by
  rw [h]; exact ⟨rfl, rfl⟩
theorem Out.bd {α β : Type} {st st1 st2 : Bool} {a a1 a2 : Nat} {x : Rd' α} {k : α → Nat → Rd' β} {u : α} {v : β} (h : Out st a x a1 st1 u) (h2 : Out st1 a1 (k u a1) a2 st2 v) : Out st a (bd x k) a2 st2 v := by
  cases st with
  | true =>
    obtain ⟨rfl, rfl⟩ := h
    exact h2
  | false =>
    obtain ⟨b, o⟩ := x
    cases o with
    | some y =>
      obtain ⟨rfl, rfl, rfl⟩ := h
      exact h2
    | none =>
      obtain ⟨rfl, rfl⟩ := h
      exact h2
theorem nx_eq {s : List UInt8} {a : Nat} {st : Bool} {c : UInt8} (hc : c ≠ 0) : decide (nxB s a st = (c.toNat : Int)) = (!st && cmB s a [c]) := by
  have hc0 : (0 : Int) ≠ (c.toNat : Int) := by
    intro h
    apply hc
    have : c.toNat = 0 := by omega
    exact UInt8.toNat_inj.1 (by rw [this]; rfl)
  rw [nxB]
  cases st with
  | true => simp [hc0]
  | false =>
    rw [Bool.false_or, Bool.not_false, Bool.true_and, cmB, prefB]
    by_cases h : (s.length : Int) ≤ a
    · rw [if_pos (by simpa using h), List.drop_eq_nil_of_le (by omega)]
      simp [hc0]
    · have hlt : a < s.length := by omega
      rw [if_neg (by simpa using h), List.drop_eq_getElem_cons hlt, byteAt, List.getD_eq_getElem?_getD, List.getElem?_eq_getElem hlt, Option.getD_some]
      have h1 : decide ((([c] : List UInt8).length : Int) ≤ ((s[a] :: s.drop (a + 1)).length : Int)) = true := by simp; omega
      rw [h1, Bool.true_and, show (s[a] :: s.drop (a + 1)).take ([c] : List UInt8).length = [s[a]] from rfl]
      by_cases h2 : s[a] = c
      · simp [h2]
      · have h3 : (s[a].toNat : Int) ≠ c.toNat := fun h => h2 (UInt8.toNat_inj.1 (by omega))
        simp [h2, h3]
section
variable {X : Nat → Prop} {w0 w : World} {r : Gh} {L : List Asr} {rb : Nat} {s p : List UInt8} {a : Nat} {st : Bool} {K : Value → World → Prop}
theorem c_q_next (S : StX X w0 r w (rqC rb s a st :: L)) (h : ∀ w', StX X w0 r w' (rqC rb s a st :: L) → K (.int .u8 (nxB s a st)) w') : oCall Tryd.prog Tryd.n_ref06_reader_next #[rdP rb] w K := by
  refine Tryd.ok_ref06_reader_next ?_
  unfold Tryd.F_ref06_reader_next
  have S := S.go (Ext.drew _)
  (repeat (first | refine s_p ?_ | refine s_c (by omega) ?_ | refine S.ld ?_ | refine S.ldB ?_ | refine S.ce ?_ | refine S.ceB ?_ | refine s_q ?_ | refine s_qc (by omega) ?_ | refine n_some ?_ | rw [List.getD_cons_zero] | rw [List.getD_cons_succ]))
  refine j_borH (c := decide ((s.length : Int) ≤ a)) (fun _ K2 hK2 => ?_) ?_
  · (repeat (first | refine s_p ?_ | refine s_c (by omega) ?_ | refine S.ld ?_ | refine S.ldB ?_ | refine S.ce ?_ | refine S.ceB ?_ | refine s_q ?_ | refine s_qc (by omega) ?_ | refine n_some ?_ | rw [List.getD_cons_zero] | rw [List.getD_cons_succ]))
    exact hK2
  refine c_b (fun hc => ?_) (fun hc => ?_)
  · have := h _ S
    rw [nxB, if_pos hc] at this
    exact this
  · have hlt : (a : Int) < s.length := by
      simp only [Bool.or_eq_false_iff, decide_eq_false_iff_not] at hc
      omega
    have S := S.go (Ext.drew _)
    (repeat (first | refine s_p ?_ | refine s_c (by omega) ?_ | refine S.ld ?_ | refine S.ldB ?_ | refine S.ce ?_ | refine S.ceB ?_ | refine s_q ?_ | refine s_qc (by omega) ?_ | refine n_some ?_ | rw [List.getD_cons_zero] | rw [List.getD_cons_succ]))
    have := h _ S
    rw [nxB, if_neg (by rw [hc]; simp)] at this
    rw [Int.toNat_natCast]
    exact this
theorem c_q_word (S : StX X w0 r w (rqC rb s a st :: L)) (ha : a ≤ s.length) (hs : s.length ≤ 1000000000) (hp : p.length ≤ 1000000)
    (h : ∀ a' st' w', a' ≤ s.length → StX X w0 r w' (rqC rb s a' st' :: L) → Out st a (tkR s p a) a' st' () → K (.tuple #[]) w') :
    oCall Tryd.prog Tryd.n_ref06_reader_word #[rdP rb, .string (bs p)] w K := by
  refine Tryd.ok_ref06_reader_word ?_
  unfold Tryd.F_ref06_reader_word
  cases st with
  | true =>
    refine l_intro (ι := Nat) (fun i => [.int .i64 i]) (fun i w' => i = 0 ∧ StX X w0 r w' (rqC rb s a true :: L)) (fun i => p.length - i) 0 rfl ⟨rfl, S⟩ ?_
    clear S
    rintro i d w1 ⟨rfl, S⟩ K6 hK6
    simp only [List.getD_cons_zero]
    (first | refine s_p ?_ | refine s_c (by omega) ?_)
    (first | refine s_p ?_ | refine s_c (by omega) ?_)
    refine j_bandH (c := false) (fun _ K3 hK3 => ?_) ?_
    · (repeat (first | refine s_p ?_ | refine s_c (by omega) ?_ | refine S.ld ?_ | refine S.ldB ?_ | refine S.ce ?_ | refine S.ceB ?_ | refine s_q ?_ | refine s_qc (by omega) ?_ | refine n_some ?_ | rw [List.getD_cons_zero] | rw [List.getD_cons_succ]))
      exact hK3
    refine c_f (by simp) ?_
    exact h a true _ ha S .stuck
  | false =>
    refine l_intro (ι := Nat) (fun i => [.int .i64 i]) (fun i w' => i ≤ p.length ∧ a + i ≤ s.length ∧ takeR s p a = takeR s (p.drop i) (a + i) ∧ StX X w0 r w' (rqC rb s (a + i) false :: L)) (fun i => p.length - i) 0 rfl ⟨Nat.zero_le _, ha, rfl, S⟩ ?_
    clear S
    rintro i d w1 ⟨hi, hai, hrec, S⟩ K6 hK6
    simp only [List.getD_cons_zero]
    (first | refine s_p ?_ | refine s_c (by omega) ?_)
    (first | refine s_p ?_ | refine s_c (by omega) ?_)
    refine j_bandH (c := true) (fun _ K3 hK3 => ?_) ?_
    · (repeat (first | refine s_p ?_ | refine s_c (by omega) ?_ | refine S.ld ?_ | refine S.ldB ?_ | refine S.ce ?_ | refine S.ceB ?_ | refine s_q ?_ | refine s_qc (by omega) ?_ | refine n_some ?_ | rw [List.getD_cons_zero] | rw [List.getD_cons_succ]))
      exact hK3
    rw [Bool.and_true]
    refine c_if (fun hlt => ?_) (fun hge => ?_)
    · have hlt : i < p.length := by omega
      rw [List.drop_eq_getElem_cons hlt, takeR] at hrec
      have hpi : byteAt p i = (p[i].toNat : Int) := by rw [byteAt, List.getD_eq_getElem?_getD, List.getElem?_eq_getElem hlt]; rfl
      have S := S.go (Ext.drew _)
      (repeat (first | refine s_p ?_ | refine s_c (by omega) ?_ | refine S.ld ?_ | refine S.ldB ?_ | refine S.ce ?_ | refine S.ceB ?_ | refine s_q ?_ | refine s_qc (by omega) ?_ | refine n_some ?_ | rw [List.getD_cons_zero] | rw [List.getD_cons_succ]))
      refine j_borH (c := decide (byteAt s (a + i) ≠ (p[i].toNat : Int))) (fun hb K3 hK3 => ?_) ?_
      · have hb : ¬ (s.length : Int) ≤ ((a + i : Nat) : Int) := by simpa using hb
        (repeat (first | refine s_p ?_ | refine s_c (by omega) ?_ | refine S.ld ?_ | refine S.ldB ?_ | refine S.ce ?_ | refine S.ceB ?_ | refine s_q ?_ | refine s_qc (by omega) ?_ | refine n_some ?_ | rw [List.getD_cons_zero] | rw [List.getD_cons_succ]))
        rw [Int.toNat_natCast, Int.toNat_natCast, hpi]; exact hK3
      have hcc : decide ((s.length : Int) ≤ ((a + i : Nat) : Int)) = decide (((a + i : Nat) : Int) = s.length) := decide_eq_decide.2 (by omega)
      rw [hcc]
      refine c_b (fun hc => ?_) (fun hc => ?_)
      · rw [if_pos hc] at hrec
        (repeat (first | refine s_p ?_ | refine s_c (by omega) ?_ | refine S.ld ?_ | refine S.ldB ?_ | refine S.ce ?_ | refine S.ceB ?_ | refine s_q ?_ | refine s_qc (by omega) ?_ | refine n_some ?_ | rw [List.getD_cons_zero] | rw [List.getD_cons_succ]))
        refine S.st fun w3 S => ?_
        exact h (a + i) true _ hai S (.no (by rw [tkR, hrec]; rfl))
      · rw [hc, if_neg (by simp)] at hrec
        simp only [Bool.or_eq_false_iff, decide_eq_false_iff_not] at hc
        (repeat (first | refine s_p ?_ | refine s_c (by omega) ?_ | refine S.ld ?_ | refine S.ldB ?_ | refine S.ce ?_ | refine S.ceB ?_ | refine s_q ?_ | refine s_qc (by omega) ?_ | refine n_some ?_ | rw [List.getD_cons_zero] | rw [List.getD_cons_succ]))
        refine S.st fun w3 S => ?_
        (first | refine s_p ?_ | refine s_c (by omega) ?_)
        refine hK6 (i + 1) _ ⟨hlt, by omega, hrec, ?_⟩ (by omega)
        exact S
    · have : i = p.length := by omega
      subst this
      rw [List.drop_length, takeR] at hrec
      exact h (a + p.length) false _ hai S (.ok (by rw [tkR, hrec]; rfl))
end
end Go.Proofs
end

section
namespace Go.Proofs
open Go.Sh
set_option maxRecDepth 100000
set_option linter.unusedSimpArgs false
section
variable {X : Nat → Prop} {w0 w : World} {r : Gh} {L : List Asr} {rb : Nat} {s p : List UInt8} {a : Nat} {st : Bool} {K : Value → World → Prop}
theorem c_q_number {most : Int} (S : StX X w0 r w (rqC rb s a st :: L)) (ha : a ≤ s.length) (hs : s.length ≤ 1000000000) (hm : 9 ≤ most) (hm2 : most < 9223372036854775808)
    (h : ∀ a' st' n w', a' ≤ s.length → 0 ≤ n → n ≤ most → StX X w0 r w' (rqC rb s a' st' :: L) → Out st a (digT s most a) a' st' n → K (.int .i64 n) w') :
    oCall Tryd.prog Tryd.n_ref06_reader_number #[rdP rb, .int .u64 most] w K := by
  refine Tryd.ok_ref06_reader_number ?_
  unfold Tryd.F_ref06_reader_number
  (repeat (first | refine s_p ?_ | refine s_c (by omega) ?_ | refine S.ld ?_ | refine S.ldB ?_ | refine S.ce ?_ | refine S.ceB ?_ | refine s_q ?_ | refine s_qc (by omega) ?_ | refine n_some ?_ | rw [List.getD_cons_zero] | rw [List.getD_cons_succ]))
  cases st with
  | true =>
    refine l_intro (ι := Unit) (fun _ => [.int .u64 0]) (fun _ w' => StX X w0 r w' (rqC rb s a true :: L)) (fun _ => 0) () rfl S ?_
    clear S
    rintro ⟨⟩ d w1 S K6 hK6
    rw [List.getD_cons_zero]
    refine c_q_next S fun w2 S => ?_
    rw [show nxB s a true = 0 by rw [nxB]; simp]
    (repeat (first | refine s_p ?_ | refine s_c (by omega) ?_ | refine S.ld ?_ | refine S.ldB ?_ | refine S.ce ?_ | refine S.ceB ?_ | refine s_q ?_ | refine s_qc (by omega) ?_ | refine n_some ?_ | rw [List.getD_cons_zero] | rw [List.getD_cons_succ]))
    refine j_bandR (c := false) (fun w' => StX X w0 r w' (rqC rb s a true :: L)) S (fun hb => by simp at hb) fun w3 S => ?_
    refine c_f (by simp) ?_
    refine j_intro (fun _ w' => StX X w0 r w' (rqC rb s a true :: L)) (fun K2 hK2 => ?_) ?_
    · (repeat (first | refine s_p ?_ | refine s_c (by omega) ?_ | refine S.ld ?_ | refine S.ldB ?_ | refine S.ce ?_ | refine S.ceB ?_ | refine s_q ?_ | refine s_qc (by omega) ?_ | refine n_some ?_ | rw [List.getD_cons_zero] | rw [List.getD_cons_succ]))
      refine c_t (by simp) ?_
      (repeat (first | refine s_p ?_ | refine s_c (by omega) ?_ | refine S.ld ?_ | refine S.ldB ?_ | refine S.ce ?_ | refine S.ceB ?_ | refine s_q ?_ | refine s_qc (by omega) ?_ | refine n_some ?_ | rw [List.getD_cons_zero] | rw [List.getD_cons_succ]))
      refine S.st fun w4 S => ?_
      exact hK2 _ _ S
    rintro _ w4 S d4
    (repeat (first | refine s_p ?_ | refine s_c (by omega) ?_ | refine S.ld ?_ | refine S.ldB ?_ | refine S.ce ?_ | refine S.ceB ?_ | refine s_q ?_ | refine s_qc (by omega) ?_ | refine n_some ?_ | rw [List.getD_cons_zero] | rw [List.getD_cons_succ]))
    exact h a true 0 _ ha (Int.le_refl _) (by omega) S .stuck
  | false =>
    refine l_intro (ι := Nat × Int × Nat) (fun i => [.int .u64 i.2.1]) (fun i w' => a ≤ i.1 ∧ i.1 ≤ s.length ∧ i.2.2 = s.length + 1 - i.1 ∧ 0 ≤ i.2.1 ∧ i.2.1 ≤ most ∧ (i.1 = a → i.2.1 = 0) ∧ (a + 1 < i.1 → byteAt s a ≠ 48) ∧ digR s most a (s.length + 1 - a) a 0 = digR s most a i.2.2 i.1 i.2.1 ∧ StX X w0 r w' (rqC rb s i.1 false :: L))
      (fun i => i.2.2) (a, 0, s.length + 1 - a) rfl ⟨Nat.le_refl _, ha, rfl, Int.le_refl _, by simp only; omega, fun _ => rfl, fun h => by simp only at h; omega, rfl, S⟩ ?_
    clear S
    rintro ⟨b, n, f⟩ d w1 ⟨hab, hbs, hf, hn0, hnm, hba, hfirst, hrec, S⟩ K6 hK6
    simp only at hab hbs hf hn0 hnm hba hfirst hrec S ⊢
    rw [List.getD_cons_zero]
    obtain ⟨f, rfl⟩ : ∃ g, f = g + 1 := ⟨f - 1, by omega⟩
    rw [digR] at hrec
    have hby := byteAt_lt s b
    have hT : digT s most a = if (digR s most a (s.length + 1 - a) a 0).1 = a then (a, none) else ((digR s most a (s.length + 1 - a) a 0).1, some (digR s most a (s.length + 1 - a) a 0).2) := rfl
    have hnx : nxB s b false = if (s.length : Int) ≤ b then 0 else byteAt s b := by rw [nxB]; simp
    refine c_q_next S fun w2 S => ?_
    (repeat (first | refine s_p ?_ | refine s_c (by omega) ?_ | refine S.ld ?_ | refine S.ldB ?_ | refine S.ce ?_ | refine S.ceB ?_ | refine s_q ?_ | refine s_qc (by omega) ?_ | refine n_some ?_ | rw [List.getD_cons_zero] | rw [List.getD_cons_succ]))
    refine j_bandR (c := decide (nxB s b false ≤ 57)) (fun w' => StX X w0 r w' (rqC rb s b false :: L)) S (fun _ K3 hK3 => ?_) fun w3 S => ?_
    · refine c_q_next S fun w4 S => ?_
      (repeat (first | refine s_p ?_ | refine s_c (by omega) ?_ | refine S.ld ?_ | refine S.ldB ?_ | refine S.ce ?_ | refine S.ceB ?_ | refine s_q ?_ | refine s_qc (by omega) ?_ | refine n_some ?_ | rw [List.getD_cons_zero] | rw [List.getD_cons_succ]))
      exact hK3 _ S
    have hcc : (decide (48 ≤ nxB s b false) && decide (nxB s b false ≤ 57)) = ((decide ((b : Int) < s.length) && decide (48 ≤ byteAt s b)) && decide (byteAt s b ≤ 57)) := by
      rw [hnx]
      by_cases hlt : (b : Int) < s.length
      · rw [if_neg (by omega)]; simp [hlt]
      · rw [if_pos (by omega)]; simp [hlt]
    rw [hcc]
    refine c_b (fun hd => ?_) (fun hd => ?_)
    · rw [if_pos hd] at hrec
      simp only [Bool.and_eq_true, decide_eq_true_eq] at hd
      obtain ⟨⟨hd1, hd2⟩, hd3⟩ := hd
      have hnx' : nxB s b false = byteAt s b := by rw [hnx, if_neg (by omega)]
      refine c_q_next S fun w4 S => ?_
      rw [hnx']
      (repeat (first | refine s_p ?_ | refine s_c (by omega) ?_ | refine S.ld ?_ | refine S.ldB ?_ | refine S.ce ?_ | refine S.ceB ?_ | refine s_q ?_ | refine s_qc (by omega) ?_ | refine n_some ?_ | rw [List.getD_cons_zero] | rw [List.getD_cons_succ]))
      refine j_bandH (c := decide (byteAt s a = 48)) (fun hb K3 hK3 => ?_) ?_
      · (repeat (first | refine s_p ?_ | refine s_c (by omega) ?_ | refine S.ld ?_ | refine S.ldB ?_ | refine S.ce ?_ | refine S.ceB ?_ | refine s_q ?_ | refine s_qc (by omega) ?_ | refine n_some ?_ | rw [List.getD_cons_zero] | rw [List.getD_cons_succ]))
        rw [Int.toNat_natCast]
        (repeat (first | refine s_p ?_ | refine s_c (by omega) ?_ | refine S.ld ?_ | refine S.ldB ?_ | refine S.ce ?_ | refine S.ceB ?_ | refine s_q ?_ | refine s_qc (by omega) ?_ | refine n_some ?_ | rw [List.getD_cons_zero] | rw [List.getD_cons_succ]))
        exact hK3
      refine j_borH (c := decide (most / 10 < n)) (fun hb K3 hK3 => ?_) ?_
      · (repeat (first | refine s_p ?_ | refine s_c (by omega) ?_ | refine S.ld ?_ | refine S.ldB ?_ | refine S.ce ?_ | refine S.ceB ?_ | refine s_q ?_ | refine s_qc (by omega) ?_ | refine n_some ?_ | rw [List.getD_cons_zero] | rw [List.getD_cons_succ]))
        exact hK3
      refine j_borand2 (g := decide (n = most / 10)) (c := decide (most % 10 < byteAt s b - 48)) (fun _ K3 hK3 => ?_) (fun _ _ K3 hK3 => ?_) ?_
      · (repeat (first | refine s_p ?_ | refine s_c (by omega) ?_ | refine S.ld ?_ | refine S.ldB ?_ | refine S.ce ?_ | refine S.ceB ?_ | refine s_q ?_ | refine s_qc (by omega) ?_ | refine n_some ?_ | rw [List.getD_cons_zero] | rw [List.getD_cons_succ]))
        exact hK3
      · (repeat (first | refine s_p ?_ | refine s_c (by omega) ?_ | refine S.ld ?_ | refine S.ldB ?_ | refine S.ce ?_ | refine S.ceB ?_ | refine s_q ?_ | refine s_qc (by omega) ?_ | refine n_some ?_ | rw [List.getD_cons_zero] | rw [List.getD_cons_succ]))
        exact hK3
      have hcond : (decide ((b : Int) = a + 1) && decide (byteAt s a = 48) || decide (most / 10 < n) || (decide (n = most / 10) && decide (most % 10 < byteAt s b - 48))) =
          ((decide ((a : Int) < b) && decide (byteAt s a = 48)) || decide ((most - (byteAt s b - 48)) / 10 < n)) := by
        have e1 : (decide ((b : Int) = a + 1) && decide (byteAt s a = 48)) = (decide ((a : Int) < b) && decide (byteAt s a = 48)) := by
          by_cases h48 : byteAt s a = 48
          · have : ¬ a + 1 < b := fun h => hfirst h h48
            rw [decide_eq_decide.2 (show ((b : Int) = a + 1) ↔ ((a : Int) < b) by omega)]
          · simp [h48]
        have e2 : (decide (most / 10 < n) || (decide (n = most / 10) && decide (most % 10 < byteAt s b - 48))) = decide ((most - (byteAt s b - 48)) / 10 < n) := by
          rw [← Bool.decide_and, ← Bool.decide_or]
          exact decide_eq_decide.2 (by omega)
        rw [e1, Bool.or_assoc, e2]
      rw [hcond]
      refine c_b (fun hc => ?_) (fun hc => ?_)
      · rw [if_pos hc] at hrec
        (repeat (first | refine s_p ?_ | refine s_c (by omega) ?_ | refine S.ld ?_ | refine S.ldB ?_ | refine S.ce ?_ | refine S.ceB ?_ | refine s_q ?_ | refine s_qc (by omega) ?_ | refine n_some ?_ | rw [List.getD_cons_zero] | rw [List.getD_cons_succ]))
        have hne : b ≠ a := by
          intro he
          have := hba he
          simp only [Bool.or_eq_true, Bool.and_eq_true, decide_eq_true_eq] at hc
          omega
        refine h b false n _ hbs hn0 hnm S (.ok ?_)
        rw [hT, hrec, if_neg hne]
      · rw [if_neg (by rw [hc]; simp)] at hrec
        simp only [Bool.or_eq_false_iff, decide_eq_false_iff_not, Int.not_lt] at hc
        (repeat (first | refine s_p ?_ | refine s_c (by omega) ?_ | refine S.ld ?_ | refine S.ldB ?_ | refine S.ce ?_ | refine S.ceB ?_ | refine s_q ?_ | refine s_qc (by omega) ?_ | refine n_some ?_ | rw [List.getD_cons_zero] | rw [List.getD_cons_succ]))
        refine S.st fun w5 S => ?_
        refine hK6 (b + 1, 10 * n + (byteAt s b - 48), f) _ ⟨by omega, by omega, by simp only; omega, by simp only; omega, by simp only; omega, fun h => by simp only at h; omega, fun h => ?_, hrec, S⟩ (Nat.lt_succ_self _)
        simp only at h
        intro h48
        have := hc.1
        simp [h48] at this
        omega
    · rw [if_neg (by rw [hd]; simp)] at hrec
      rw [hrec] at hT
      refine j_intro (fun _ w' => StX X w0 r w' (rqC rb s b (decide (b = a)) :: L)) (fun K2 hK2 => ?_) ?_
      · (repeat (first | refine s_p ?_ | refine s_c (by omega) ?_ | refine S.ld ?_ | refine S.ldB ?_ | refine S.ce ?_ | refine S.ceB ?_ | refine s_q ?_ | refine s_qc (by omega) ?_ | refine n_some ?_ | rw [List.getD_cons_zero] | rw [List.getD_cons_succ]))
        refine c_if (fun he => ?_) (fun he => ?_)
        · have he : b = a := by omega
          (repeat (first | refine s_p ?_ | refine s_c (by omega) ?_ | refine S.ld ?_ | refine S.ldB ?_ | refine S.ce ?_ | refine S.ceB ?_ | refine s_q ?_ | refine s_qc (by omega) ?_ | refine n_some ?_ | rw [List.getD_cons_zero] | rw [List.getD_cons_succ]))
          refine S.st fun w4 S => ?_
          refine hK2 [] _ ?_
          rw [show decide (b = a) = true by simpa using he]
          exact S
        · have he : b ≠ a := by omega
          refine hK2 [] _ ?_
          rw [show decide (b = a) = false by simpa using he]
          exact S
      rintro _ w4 S d4
      (repeat (first | refine s_p ?_ | refine s_c (by omega) ?_ | refine S.ld ?_ | refine S.ldB ?_ | refine S.ce ?_ | refine S.ceB ?_ | refine s_q ?_ | refine s_qc (by omega) ?_ | refine n_some ?_ | rw [List.getD_cons_zero] | rw [List.getD_cons_succ]))
      by_cases he : b = a
      · rw [if_pos he] at hT
        rw [show decide (b = a) = true by simpa using he] at S
        exact h b true n _ hbs hn0 hnm S (.no (by rw [hT, he]))
      · rw [if_neg he] at hT
        rw [show decide (b = a) = false by simpa using he] at S
        exact h b false n _ hbs hn0 hnm S (.ok hT)
end
end Go.Proofs
end
