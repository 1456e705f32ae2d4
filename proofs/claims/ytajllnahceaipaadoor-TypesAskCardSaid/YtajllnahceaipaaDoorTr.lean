/-
  Contracts: types made by hand; awake.
-/
import Derived.Test.YtajllnahceaipaaDoorTq
namespace Go.Proofs
open Go.Sh
set_option maxRecDepth 100000
set_option linter.unusedSimpArgs false

def i64D : TyD := .mk 1 false 0 0 []
def refD (m : Bool) (re : Int) (u : TyD) : TyD := .mk 4 m re 0 [u]
theorem c_law06_i64 {w : World} {K : Value → World → Prop} (h : ∀ v w', Ext w w' → TyG nothing v i64D → K v w') : oCall Tryd.prog Tryd.n_law06_i64 #[] w K := by
  refine Tryd.ok_law06_i64 ?_
  unfold Tryd.F_law06_i64
  have S := St.start (r := nothing) (w := w) (fun _ _ h => h.elim)
  refine S.al fun b2 w1 S => ?_
  (first | refine s_p ?_ | refine s_c (by omega) ?_)
  refine S.stB fun w2 S => ?_
  (repeat (first | refine s_p ?_ | refine s_c (by omega) ?_ | refine S.ld ?_ | refine S.ldB ?_ | refine S.ce ?_ | refine S.ceB ?_ | refine s_q ?_ | refine s_qc (by omega) ?_ | refine n_some ?_ | rw [List.getD_cons_zero] | rw [List.getD_cons_succ]))
  exact h _ _ S.ext ty_leaf
theorem c_law06_ref {m : Bool} {re : Int} {u : TyD} {v : Value} {w : World} {r : Gh} {K : Value → World → Prop} (hr : Holds r w) (hv : TyG r v u)
    (h : ∀ v' sn w', Ext w w' → New w sn w' → TyG (r.or sn) v' (refD m re u) → K v' w') : oCall Tryd.prog Tryd.n_law06_ref #[.bool m, .int .i64 re, v] w K := by
  refine Tryd.ok_law06_ref ?_
  unfold Tryd.F_law06_ref
  have hv0 := hv
  obtain ⟨p, cap, rfl, _⟩ := hv
  have S := St.start hr
  refine S.box fun b2 w1 S => ?_
  refine S.al fun b3 w2 S => ?_
  (repeat (first | refine s_p ?_ | refine s_c (by omega) ?_ | refine S.ld ?_ | refine S.ldB ?_ | refine S.ce ?_ | refine S.ceB ?_ | refine s_q ?_ | refine s_qc (by omega) ?_ | refine n_some ?_ | rw [List.getD_cons_zero] | rw [List.getD_cons_succ]))
  have esz := S.ext.size
  refine w_lit (e := 25) (cs := [.int .u8 u.k, .bool u.m, .int .i64 u.re, .int .i64 u.st, .slice p u.of.length cap]) (by kernel_rfl) fun b9 w9 hb9 e9 _ B9 => ?_
  have S := S.add e9 (by omega) B9
  have S := S.frz
  (first | refine s_p ?_ | refine s_c (by omega) ?_)
  refine S.stB fun w10 S => ?_
  (repeat (first | refine s_p ?_ | refine s_c (by omega) ?_ | refine S.ld ?_ | refine S.ldB ?_ | refine S.ce ?_ | refine S.ceB ?_ | refine s_q ?_ | refine s_qc (by omega) ?_ | refine n_some ?_ | rw [List.getD_cons_zero] | rw [List.getD_cons_succ]))
  refine h _ (one b9 [.int .u8 u.k, .bool u.m, .int .i64 u.re, .int .i64 u.st, .slice p u.of.length cap] 25) _ S.ext ⟨S.holds.le (h := inferInstance), ?_⟩ (ty_one hv0)
  rintro b o ⟨rfl, _⟩
  omega
end Go.Proofs
