/-
  Contracts: Structs, May, Words where there are no structs (what awake asks).
-/
import Derived.Test.YtajllnahceaipaaDoorTj
namespace Go.Proofs
open Go.Sh
set_option maxRecDepth 100000

theorem c_types_first_none {v : Value} {w : World} {K : Value → World → Prop} (h : K (.int .i64 0) w) : oCall Tryd.prog Tryd.n_types_first #[.int .i64 0, v] w K := by
  refine Tryd.ok_types_first ?_
  unfold Tryd.F_types_first
  refine l_intro (ι := Unit) (fun _ => [.int .i64 0]) (fun _ w' => w' = w) (fun _ => 0) () rfl rfl ?_
  rintro _ d w' rfl K6 hK6
  simp only [List.getD_cons_zero]
  (first | refine s_p ?_ | refine s_c (by omega) ?_)
  exact h
theorem c_types_Structs_none {w : World} {K : Value → World → Prop} (h : ∀ w', Ext w w' → K (.tuple #[.int .i64 0, .int .i64 0]) w') : oCall Tryd.prog Tryd.n_types_Structs #[.slice none 0 0] w K := by
  refine Tryd.ok_types_Structs ?_
  unfold Tryd.F_types_Structs
  have S := St.start (r := nothing) (w := w) (fun _ _ h => h.elim)
  refine S.box fun b1 w1 S => ?_
  (repeat (first | refine s_p ?_ | refine s_c (by omega) ?_ | refine S.ld ?_ | refine S.ldB ?_ | refine S.ce ?_ | refine S.ceB ?_ | refine s_q ?_ | refine s_qc (by omega) ?_ | refine n_some ?_ | rw [List.getD_cons_zero] | rw [List.getD_cons_succ]))
  refine S.al fun b2 w2 S => ?_
  refine S.st fun w3 S => ?_
  (repeat (first | refine s_p ?_ | refine s_c (by omega) ?_ | refine S.ld ?_ | refine S.ldB ?_ | refine S.ce ?_ | refine S.ceB ?_ | refine s_q ?_ | refine s_qc (by omega) ?_ | refine n_some ?_ | rw [List.getD_cons_zero] | rw [List.getD_cons_succ]))
  refine S.lit (e := 82) (cs := [.func (.func Tryd.n_types_Structs_1) #[] #[.pointer (some ⟨b1, 0, none⟩), .pointer (some ⟨b2, 0, none⟩)], .func (.func Tryd.n_types_Structs_2) #[] #[.pointer (some ⟨b1, 0, none⟩)], .func (.func Tryd.n_types_Structs_3) #[] #[.pointer (some ⟨b1, 0, none⟩)]]) (by kernel_rfl) fun b4 w4 S => ?_
  (repeat (first | refine s_p ?_ | refine s_c (by omega) ?_ | refine S.ld ?_ | refine S.ldB ?_ | refine S.ce ?_ | refine S.ceB ?_ | refine s_q ?_ | refine s_qc (by omega) ?_ | refine n_some ?_ | rw [List.getD_cons_zero] | rw [List.getD_cons_succ]))
  refine l_intro (ι := Nat) (fun i => [.int .i64 i]) (fun i w' => i ≤ 3 ∧ St w nothing w' _) (fun i => 3 - i) 0 rfl ⟨Nat.zero_le _, S⟩ ?_
  clear S
  rintro i d w5 ⟨hi, S⟩ K6 hK6
  simp only [List.getD_cons_zero]
  (first | refine s_p ?_ | refine s_c (by omega) ?_)
  refine c_if (fun hlt => ?_) (fun _ => h _ S.ext)
  have hlt : i < 3 := by omega
  refine s_c (by omega) ?_
  obtain ⟨fv, hf⟩ : ∃ fv, ([.func (.func Tryd.n_types_Structs_1) #[] #[.pointer (some ⟨b1, 0, none⟩), .pointer (some ⟨b2, 0, none⟩)], .func (.func Tryd.n_types_Structs_2) #[] #[.pointer (some ⟨b1, 0, none⟩)], .func (.func Tryd.n_types_Structs_3) #[] #[.pointer (some ⟨b1, 0, none⟩)]] : List Value)[i]? = some fv :=
    ⟨_, List.getElem?_eq_getElem (by simpa using hlt)⟩
  refine S.ld (hc := by simpa using hf) ?_
  (repeat (first | refine s_p ?_ | refine s_c (by omega) ?_ | refine S.ld ?_ | refine S.ldB ?_ | refine S.ce ?_ | refine S.ceB ?_ | refine s_q ?_ | refine s_qc (by omega) ?_ | refine n_some ?_ | rw [List.getD_cons_zero] | rw [List.getD_cons_succ]))
  refine c_types_first_none ?_
  (repeat (first | refine s_p ?_ | refine s_c (by omega) ?_ | refine S.ld ?_ | refine S.ldB ?_ | refine S.ce ?_ | refine S.ceB ?_ | refine s_q ?_ | refine s_qc (by omega) ?_ | refine n_some ?_ | rw [List.getD_cons_zero] | rw [List.getD_cons_succ]))
  exact hK6 (i + 1) _ ⟨hlt, S⟩ (by omega)
theorem c_types_May_none {t : TyD} {w : World} {r : Gh} {v : Value} {K : Value → World → Prop} (hr : Holds r w) (hv : TyG r v t)
    (h : ∀ w', Ext w w' → K (.bool (lookB 0 48 t)) w') : oCall Tryd.prog Tryd.n_types_May #[.slice none 0 0, v] w K := by
  refine Tryd.ok_types_May ?_
  unfold Tryd.F_types_May
  have hv0 := hv
  obtain ⟨p, cap, rfl, _⟩ := hv
  have S := St.start hr
  refine S.box fun b1 w1 S => ?_
  refine c_types_Structs_none fun w2 e2 => ?_
  have S := S.go e2
  (repeat (first | refine s_p ?_ | refine s_c (by omega) ?_ | refine S.ld ?_ | refine S.ldB ?_ | refine S.ce ?_ | refine S.ceB ?_ | refine s_q ?_ | refine s_qc (by omega) ?_ | refine n_some ?_ | rw [List.getD_cons_zero] | rw [List.getD_cons_succ]))
  refine j_bandE (c := lookB 0 48 t) (fun _ K2 hK2 => ?_) fun w3 e3 => ?_
  · (repeat (first | refine s_p ?_ | refine s_c (by omega) ?_ | refine S.ld ?_ | refine S.ldB ?_ | refine S.ce ?_ | refine S.ceB ?_ | refine s_q ?_ | refine s_qc (by omega) ?_ | refine n_some ?_ | rw [List.getD_cons_zero] | rw [List.getD_cons_succ]))
    exact c_types_look 48 (by decide) S.holds hv0 fun w4 e4 => hK2 _ e4
  exact h _ (S.go e3).ext
theorem c_types_words_one {t : TyD} {w : World} {r : Gh} {v vs : Value} {K : Value → World → Prop} (hr : Holds r w) (hv : TyG r v t) (hk : t.k ≠ 5)
    (h : ∀ w', Ext w w' → K (.int .i64 1) w') : oCall Tryd.prog Tryd.n_types_words #[vs, v] w K := by
  refine Tryd.ok_types_words ?_
  unfold Tryd.F_types_words
  obtain ⟨p, cap, rfl, _⟩ := hv
  have S := St.start hr
  refine S.box fun b1 w1 S => ?_
  (repeat (first | refine s_p ?_ | refine s_c (by omega) ?_ | refine S.ld ?_ | refine S.ldB ?_ | refine S.ce ?_ | refine S.ceB ?_ | refine s_q ?_ | refine s_qc (by omega) ?_ | refine n_some ?_ | rw [List.getD_cons_zero] | rw [List.getD_cons_succ]))
  refine c_if (fun _ => h _ S.ext) (fun hn => absurd hk (by simpa using hn))
theorem c_types_Words_none {t : TyD} {w : World} {r : Gh} {v : Value} {K : Value → World → Prop} (hr : Holds r w) (hv : TyG r v t)
    (h : ∀ w', Ext w w' → K (if lookB 0 48 t then .tuple #[.int .i64 1, .int .i64 0] else .tuple #[.int .i64 0, .int .i64 2]) w') : oCall Tryd.prog Tryd.n_types_Words #[.slice none 0 0, v] w K := by
  refine Tryd.ok_types_Words ?_
  unfold Tryd.F_types_Words
  have hv0 := hv
  obtain ⟨p, cap, rfl, _⟩ := hv
  have S := St.start hr
  refine S.box fun b1 w1 S => ?_
  (repeat (first | refine s_p ?_ | refine s_c (by omega) ?_ | refine S.ld ?_ | refine S.ldB ?_ | refine S.ce ?_ | refine S.ceB ?_ | refine s_q ?_ | refine s_qc (by omega) ?_ | refine n_some ?_ | rw [List.getD_cons_zero] | rw [List.getD_cons_succ]))
  refine c_types_May_none S.holds hv0 fun w2 e2 => ?_
  have S := S.go e2
  (repeat (first | refine s_p ?_ | refine s_c (by omega) ?_ | refine S.ld ?_ | refine S.ldB ?_ | refine S.ce ?_ | refine S.ceB ?_ | refine s_q ?_ | refine s_qc (by omega) ?_ | refine n_some ?_ | rw [List.getD_cons_zero] | rw [List.getD_cons_succ]))
  refine c_b (fun hn => ?_) (fun hb => ?_)
  · have hb : lookB 0 48 t = false := by simpa using hn
    rw [hb] at h; exact h _ S.ext
  have hb : lookB 0 48 t = true := by simpa using hb
  rw [hb] at h
  (repeat (first | refine s_p ?_ | refine s_c (by omega) ?_ | refine S.ld ?_ | refine S.ldB ?_ | refine S.ce ?_ | refine S.ceB ?_ | refine s_q ?_ | refine s_qc (by omega) ?_ | refine n_some ?_ | rw [List.getD_cons_zero] | rw [List.getD_cons_succ]))
  refine c_types_words_one S.holds hv0 (fun h5 => ?_) fun w3 e3 => h _ (S.go e3).ext
  rw [lookB_succ, if_neg (by omega), if_pos h5] at hb
  simp only [Bool.and_eq_true, decide_eq_true_eq] at hb
  omega
end Go.Proofs
