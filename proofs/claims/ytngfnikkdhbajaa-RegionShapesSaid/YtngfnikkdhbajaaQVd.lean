/-
  Contracts: the functions that stand in point.
  Shallow readings of functions. Made by a program (wip/gen/gen.py) out of the translation; the kernel checks each equality.
  Contracts: regions of a type turned, erased, of both sides.
  Regions laid anew and numbered twice; words and drops of fields: the plain laws.
  Regions numbered: plain facts, one by one.
  Heads of graphs: plain facts, and what the tables hold.
  Contracts: what types imply.
  Contracts: what outlives what.
  Elements of rows of one's own written over.
  Contracts: places among types: walk, May, Type.
  A map of strings of one's own: made, filled, asked.
  A step of a kind, told by its kind alone.
  Contracts: whether a point is as it must be.
-/
import Derived.Test.YtngfnikkdhbajaaQVc
import Derived.Test.YtngfnikkdhbajaaQVb
import Derived.MapKept
import Derived.Test.YtngfnikkdhbajaaQVa

section
namespace Go.Sh

section

variable {w : World} {Z : Value → World → Prop} {b c : Bool}

/-- 'B or (g and c)', c reckoned only if it must be -/
theorem j_boraG {g : Bool} {A : (List Value → World → Prop) → World → Prop} {G : (List Value → World → Prop) → Prop} (hG : b = false → ∀ K : List Value → World → Prop, K [.bool g] w → G K) (hA : g = true → ∀ K : List Value → World → Prop, K [.bool c] w → A K w) (hZ : Z (.bool (b || (g && c))) w) :
    sJoin (fun K1 => gIf (.bool b) false (G K1) (K1 [undef] w)) fun s1 _ w1 =>
      sJoin (fun K2 => gIf (s1.getD 0 undef) true (A K2 w1) (K2 [undef] w1)) fun s2 _ w2 =>
        sJoin (fun K3 => gIf (.bool b) false (oPick (s1.getD 0 undef) (s2.getD 0 undef) (.bool false) fun t => K3 [t] w2) (K3 [undef] w2)) fun s3 _ w3 =>
          oPick (.bool b) (.bool true) (s3.getD 0 undef) fun t => Z t w3 := by
  intro K1 hK1
  cases b with
  | true =>
    refine hK1 _ _ fun _ => ?_
    intro K2 hK2
    refine hK2 _ _ fun _ => ?_
    intro K3 hK3
    refine hK3 _ _ fun _ => ⟨true, rfl, ?_⟩
    rw [Bool.true_or] at hZ; exact hZ
  | false =>
    refine hG rfl _ (hK1 _ _ fun _ => ?_)
    intro K2 hK2
    cases g with
    | true =>
      refine hA rfl _ (hK2 _ _ fun _ => ?_)
      intro K3 hK3
      refine ⟨true, rfl, hK3 _ _ fun _ => ⟨false, rfl, ?_⟩⟩
      rw [Bool.false_or, Bool.true_and] at hZ; exact hZ
    | false =>
      refine hK2 _ _ fun _ => ?_
      intro K3 hK3
      refine ⟨false, rfl, hK3 _ _ fun _ => ⟨false, rfl, ?_⟩⟩
      rw [Bool.false_or, Bool.false_and] at hZ; exact hZ
end

theorem p_sliceLoHi {P : Program} {K : Value → Prop} {t e : TypeId} {n : Nat} {p : Option Addr} {len cap : Nat} {kd kd' : IntKind} {a b : Int} (h : slT P t = some (e, n)) (h0 : 0 ≤ a) (h1 : a ≤ b) (h2 : b ≤ cap)
    (k : K (.slice (if cap = a.toNat then p else p.map (·.add (a.toNat * n))) (b.toNat - a.toNat) (cap - a.toNat))) : opP P (Instr.sliceAt t (.slice p len cap) (some (.int kd a)) (some (.int kd' b)) none) K := by
  refine p_of (fun w => ?_) k
  unfold slT at h
  cases hu : P.underlying t with
  | none => rw [hu] at h; cases h
  | some d =>
    rw [hu] at h
    cases d <;> first | cases h | skip
    rename_i e'
    simp only [Option.map_eq_some_iff, Prod.mk.injEq] at h
    obtain ⟨m, hs, rfl, rfl⟩ := h
    have h3 : 0 ≤ b := by omega
    have h5 : a ≤ max b 0 := by omega
    simp [Instr.sliceAt, Instr.slice, Instr.sliceBounds, Instr.sliceBound, asIntOf, Sem.run_bind, run_underlying' hu, Result.andThen, Sem.run, pure, h0, h2, h3, h5, run_sizeOf' hs]
instance {P : Program} {t e : TypeId} {n : Nat} {p : Option Addr} {len cap : Nat} {i j : IntKind} {a b : Int} [h : SlT P t e n] : PCond P (Instr.sliceAt t (.slice p len cap) (some (.int i a)) (some (.int j b)) none) (.slice (if cap = a.toNat then p else p.map (·.add (a.toNat * n))) (b.toNat - a.toNat) (cap - a.toNat)) (0 ≤ a ∧ a ≤ b ∧ b ≤ cap) :=
  .of fun x _ k => p_sliceLoHi (e := e) (n := n) h.h x.1 x.2.1 x.2.2 k
theorem StX.holdW {X : Nat → Prop} {w0 w : World} {r : Gh} {L : List Asr} (S : StX X w0 r w L) (b : Nat) {c : List Value} {T : TypeId} {f : List Value → List Asr} [h : At b L c T f] : Holds (r.or (one b c T)) w := S.holds.or (one_holds (S.blk b))
end Go.Sh

namespace Go.Proofs

open Go.Sh

set_option maxRecDepth 100000

set_option linter.unusedSimpArgs false

set_option linter.unusedVariables false

section

variable {X : Nat → Prop} {w0 w : World} {r : Gh} {L : List Asr}

theorem c_point_1 {x n : Int} {b : Nat} {f : List Value → List Asr} {K : Value → World → Prop} (S : StX X w0 r w L) [At b L [.int .i64 n] 3 f] (h : K (.bool (decide (0 ≤ x) && decide (x < n))) w) :
    oCallV Try.prog (.func (.func Try.n_graph_asker_point_1) #[] #[.pointer (some ⟨b, 0, none⟩)]) #[.int .i64 x] w K := by
  refine v_f11 (by kernel_rfl) ?_
  refine Try.ok_graph_asker_point_1 ?_
  unfold Try.F_graph_asker_point_1
  (first | refine s_p ?_ | refine s_c (by omega) ?_)
  refine j_bandH (c := decide (x < n)) (fun _ K2 hK2 => ?_) h
  refine S.ld (b := b) ?_ rfl
  (first | refine s_p ?_ | refine s_c (by omega) ?_)
  exact hK2
end

theorem c_point_2 {t : TyD} {q : Option Addr} {cap : Nat} {k : Int} {w : World} {r : Gh} {K : Value → World → Prop} (hr : Holds r w) (h : ∀ w', Ext w w' → K (.bool (isK t k)) w') :
    oCallV Try.prog (.func (.func Try.n_graph_asker_point_2) #[] #[]) #[tyV t q cap, .int .u8 k] w K := by
  refine v_f20 (by kernel_rfl) ?_
  refine Try.ok_graph_asker_point_2 ?_
  unfold Try.F_graph_asker_point_2
  have S := St.start hr
  refine S.box fun b1 w1 S => ?_
  (repeat (first | refine s_p ?_ | refine s_c (by omega) ?_ | refine S.ld ?_ | refine S.ldB ?_ | refine S.ce ?_ | refine S.ceB ?_ | refine s_q ?_ | refine s_qc (by omega) ?_ | refine n_some ?_ | rw [List.getD_cons_zero] | rw [List.getD_cons_succ]))
  exact h _ S.ext
theorem c_point_3_1 {u : UnD} {g : GrD} {o : OpD} {t : TyD} {b2 : Nat} {c c2 : List Value} {q : Option Addr} {cap : Nat} {w : World} {r : Gh} {K : Value → World → Prop} (hr : Holds r w) (hb2 : Ob r fun w => Blk w b2 c2 101) (hx : AskG r (.agg c2.toArray) u g)
    (hc2 : c2.length = 10) (hf : FineU u.ss g.tys) (ho : OpG r c o) (hc : c.length = 4) (ht : TyG r (tyV t q cap) t)
    (h : ∀ w', Ext w w' → K (.bool ((operG u.ss g.tys o).2 && alikeT fAll (operG u.ss g.tys o).1 t)) w') :
    oCallV Try.prog (.func (.func Try.n_graph_asker_point_3_1) #[] #[.pointer (some ⟨b2, 0, none⟩)]) #[.agg c.toArray, tyV t q cap] w K := by
  refine v_f21 (by kernel_rfl) ?_
  refine Try.ok_graph_asker_point_3_1 ?_
  unfold Try.F_graph_asker_point_3_1
  have S := St.start hr
  refine S.box fun b3 w1 S => ?_
  refine S.box fun b4 w2 S => ?_
  refine s_ldN (n := 10) (c := c2) hc2 (fun j v hj => by rw [Nat.zero_add, (S.at hb2).cell]; exact hj) ?_
  refine S.ldB (b := b3) ?_ hc
  obtain ⟨t1, ok, hop⟩ : ∃ t1 ok, operG u.ss g.tys o = (t1, ok) := ⟨_, _, rfl⟩
  rw [hop] at h
  refine c_graph_asker_operand S.holds hx hf ho hop fun q1 cap1 w3 e3 ht1 => ?_
  have S := S.go e3
  (first | refine s_p ?_ | refine s_c (by omega) ?_)
  (first | refine s_p ?_ | refine s_c (by omega) ?_)
  refine S.al fun b6 w4 S => ?_
  refine S.stB (b := b6) fun w5 S => ?_
  refine j_bandE (c := alikeT fAll t1 t) (fun _ K2 hK2 => ?_) fun w9 e9 => h _ (S.go e9).ext
  refine S.ldB (b := b6) ?_ rfl
  refine S.ldB (b := b4) ?_ rfl
  exact c_types_Alike S.holds ht1 ht fun w9 e9 => hK2 _ e9
theorem argsG_cons {ss : List StD} {tys : List TyD} {o : OpD} {l : List OpD} {t : TyD} {r : List TyD} : argsG ss tys (o :: l) (t :: r) = (((operG ss tys o).2 && alikeT fAll (operG ss tys o).1 t) && argsG ss tys l r) := rfl
theorem argsG_len {ss : List StD} {tys : List TyD} : ∀ {l : List OpD} {r : List TyD}, l.length ≠ r.length → argsG ss tys l r = false
  | [], [], h => absurd rfl h
  | [], _ :: _, _ => rfl
  | _ :: _, [], _ => rfl
  | o :: l, t :: r, h => by rw [argsG_cons, argsG_len (by simpa using h), Bool.and_false]
theorem TysG.up {s t : Gh} {q : Option Addr} {ts : List TyD} (h : TysG s q ts) [l : Le s t] : TysG t q ts := fun i hi => by
  obtain ⟨b, off, c, h1, h2, h3, h4⟩ := h i hi
  exact ⟨b, off, c, h1, h2, fun j v hj => (h3 j v hj).up, h4.up⟩
theorem sl_tysG {r : Gh} {q : Option Addr} {n cap : Nat} {ts : List TyD} (h : SlG 5 r (TyC r) (.slice q n cap) ts) : TysG r q ts := fun i hi => by
  obtain ⟨b, off, c, h1, h2, h3, h4⟩ := h.get (by decide) hi
  exact ⟨b, off, c, h1, h2, h4, h3⟩
theorem fds_tysG {top : Gh} {gs : Nat → Gh} {q : Option Addr} {ts : List TyD} (h : FdsG top gs q ts) : TysG (top.or (un gs 0 ts.length)) q ts := fun i hi => by
  obtain ⟨b, off, c, h1, h2, h3, h4, _⟩ := h.at' i hi
  exact ⟨b, off, c, h1, h2, fun j v hj => (h3 j v hj).up, TyG.up h4 (l := ⟨fun b o hb => .inr ⟨i, Nat.zero_le _, hi, hb⟩⟩)⟩
/-- some of them -/
theorem TysG.sub {s : Gh} {q : Option Addr} {ts : List TyD} (h : TysG s q ts) {a n cap : Nat} (hc : ts.length ≤ cap) : TysG s (if cap = a then q else q.map (·.add (a * 5))) ((ts.drop a).take n) := fun i hi => by
  rw [List.length_take, List.length_drop] at hi
  obtain ⟨b, off, c, h1, h2, h3, h4⟩ := h (a + i) (by omega)
  refine ⟨b, off + a * 5, c, ?_, h2, fun j v hj => ?_, ?_⟩
  · rw [if_neg (by omega), h1, Option.map_some, addr_add]
  · have := h3 j v hj
    rwa [show off + (a + i) * 5 + j = off + a * 5 + i * 5 + j by omega] at this
  · rw [List.getElem_take, List.getElem_drop]; exact h4
theorem c_point_3 {u : UnD} {g : GrD} {p : PtD} {l : List TyD} {b2 b3 : Nat} {c2 c3 : List Value} {ql : Option Addr} {capl : Nat} {w : World} {r : Gh} {K : Value → World → Prop} (hr : Holds r w) (hb2 : Ob r fun w => Blk w b2 c2 101) (hb3 : Ob r fun w => Blk w b3 c3 64) (hx : AskG r (.agg c2.toArray) u g)
    (hc2 : c2.length = 10) (hf : FineU u.ss g.tys) (hp : PtG r c3 p) (hl : TysG r ql l)
    (h : ∀ w', Ext w w' → K (.bool (argsG u.ss g.tys p.args l)) w') :
    oCallV Try.prog (.func (.func Try.n_graph_asker_point_3) #[] #[.pointer (some ⟨b3, 0, none⟩), .pointer (some ⟨b2, 0, none⟩)]) #[.slice ql l.length capl] w K := by
  refine v_f12 (by kernel_rfl) ?_
  refine Try.ok_graph_asker_point_3 ?_
  unfold Try.F_graph_asker_point_3
  obtain ⟨vt, va, vb, va', vf, rfl, h1, h2, h3, h4, h5⟩ := hp
  obtain ⟨qa, capa, rfl, _, _⟩ := h4.sl.shape
  have S := St.start hr
  have hlen := h4.lt
  (first | refine s_p ?_ | refine s_c (by omega) ?_)
  refine s_ld1 (by rw [(S.at hb3).cell]; rfl) ?_
  (first | refine s_p ?_ | refine s_c (by omega) ?_)
  refine Try.ok_slices_EqualFunc_api_Operand_api_Type_api_Operand_api_Type ?_
  unfold Try.F_slices_EqualFunc_api_Operand_api_Type_api_Operand_api_Type
  (repeat (first | refine s_p ?_ | refine s_c (by omega) ?_ | refine S.ld ?_ | refine S.ldB ?_ | refine S.ce ?_ | refine S.ceB ?_ | refine s_q ?_ | refine s_qc (by omega) ?_ | refine n_some ?_ | rw [List.getD_cons_zero] | rw [List.getD_cons_succ]))
  refine c_if (fun hne => ?_) (fun heq => ?_)
  · rw [argsG_len (by omega)] at h
    exact h _ S.ext
  have heq : p.args.length = l.length := by omega
  (repeat (first | refine s_p ?_ | refine s_c (by omega) ?_ | refine S.ld ?_ | refine S.ldB ?_ | refine S.ce ?_ | refine S.ceB ?_ | refine s_q ?_ | refine s_qc (by omega) ?_ | refine n_some ?_ | rw [List.getD_cons_zero] | rw [List.getD_cons_succ]))
  refine l_intro (ι := Nat) (fun i => [.int .i64 (i : Nat)]) (fun i w' => i ≤ p.args.length ∧ argsG u.ss g.tys (p.args.drop i) (l.drop i) = argsG u.ss g.tys p.args l ∧ StX noX w r w' []) (fun i => p.args.length - i) 0 rfl ⟨Nat.zero_le _, rfl, S⟩ ?_
  clear S
  rintro i d w1 ⟨hi, hd, S⟩ K6 hK6
  rw [List.getD_cons_zero]
  (first | refine s_p ?_ | refine s_c (by omega) ?_)
  refine c_if (fun hlt => ?_) (fun hge => ?_)
  · have hlt : i < p.args.length := by omega
    have hlt2 : i < l.length := by omega
    obtain ⟨ba, oa, ca, rfl, hca, hao, hac⟩ := h4.sl.get (by decide) hlt
    obtain ⟨bt, ot, ct, rfl, hct, htc, hto⟩ := hl i hlt2
    obtain ⟨q2, cap2, rfl, ht2⟩ := ty_form hto
    rw [List.drop_eq_getElem_cons hlt, List.drop_eq_getElem_cons hlt2, argsG_cons] at hd
    (first | refine s_p ?_ | refine s_c (by omega) ?_)
    refine s_ldN (n := 4) hca (fun j v hj => by rw [Int.toNat_natCast]; exact S.at (hac j v hj)) ?_
    refine S.al fun b8 w2 S => ?_
    obtain ⟨vq, hca', hlq⟩ := id hao
    subst hca'
    obtain ⟨qs, caps, rfl, _⟩ := hlq.sl.shape
    refine S.stB (b := b8) fun w3 S => ?_
    (first | refine s_p ?_ | refine s_c (by omega) ?_)
    refine s_ldN (n := 5) hct (fun j v hj => by rw [Int.toNat_natCast]; exact S.at (htc j v hj)) ?_
    refine S.al fun b9 w4 S => ?_
    refine S.stB (b := b9) fun w5 S => ?_
    refine S.ldB (b := b8) ?_ rfl
    refine S.ldB (b := b9) ?_ rfl
    refine c_point_3_1 S.holds hb2 hx hc2 hf hao rfl ht2 fun w6 e6 => ?_
    have S := S.go e6
    (first | refine s_p ?_ | refine s_c (by omega) ?_)
    refine c_b (fun hno => ?_) (fun hy => ?_)
    · have hno : ((operG u.ss g.tys p.args[i]).2 && alikeT fAll (operG u.ss g.tys p.args[i]).1 l[i]) = false := by rw [← Bool.not_eq_true']; exact hno
      rw [hno, Bool.false_and] at hd
      rw [← hd] at h
      exact h _ S.ext
    · have hy : ((operG u.ss g.tys p.args[i]).2 && alikeT fAll (operG u.ss g.tys p.args[i]).1 l[i]) = true := by rw [← Bool.not_eq_false']; exact hy
      rw [hy, Bool.true_and] at hd
      (first | refine s_p ?_ | refine s_c (by omega) ?_)
      rw [show ((i : Int) + 1) = ((i + 1 : Nat) : Int) by omega]
      exact hK6 (i + 1) _ ⟨hlt, hd, S.to r |>.less (fun _ _ h => h) (List.nil_sublist _)⟩ (by omega)
  · have hie : i = p.args.length := by omega
    rw [hie, List.drop_length, heq, List.drop_length] at hd
    rw [← hd] at h
    exact h _ S.ext
end Go.Proofs
end

section
namespace Go.Proofs.Try
open Go.Sh
set_option maxRecDepth 100000
/- 8: loanword/region.Turn -/
def F_region_Turn (t0 t1 : Value) (w : World) (K : VW) : Prop :=
 pw w (Instr.box 25 t0) fun t2 w1 =>
 pw w1 (Instr.box 26 t1) fun t3 w2 =>
 pw w2 (Instr.alloc 25 true (.tuple #[])) fun t4 w3 =>
 lo w3 25 t2 fun t9 => ca n_types_Own #[t9] w3 fun t10 w4 =>
 pe t10 0 fun t11 => pe t10 1 fun t12 => pw w4 (Instr.alloc 25 true (.tuple #[])) fun t6 w5 =>
 so w5 25 t6 t11 fun w6 => bt .neq 29 t12 (i6 0) fun t14 => oCond t14 (pp (Instr.build 25 #[]) fun t15 => so w6 25 t4 t15 fun w7 => pq w7 (cellSem 25 t4) fun r8 => K (.tuple #[r8, t12]) w7) (lo w6 25 t2 fun t17 => ca n_types_Regions #[t17] w6 fun t18 w9 =>
 pp (Instr.makeFunc (.func 30) #[] #[t3]) fun t19 => ca n_slices_ContainsFunc_int_int #[t18, t19] w9 fun t20 w10 =>
 oCond t20 (pp (Instr.build 25 #[]) fun t21 => so w10 25 t4 t21 fun w11 => pq w11 (cellSem 25 t4) fun r12 => K (.tuple #[r12, (i6 2)]) w11) (lo w10 25 t2 fun t22 => pp (Instr.makeFunc (.func 32) #[] #[t3]) fun t23 => ca n_region_raw #[t22, t23] w10 fun t24 w13 =>
 so w13 25 t4 t24 fun w14 => pq w14 (cellSem 25 t4) fun r15 => K (.tuple #[r15, (i6 0)]) w14))
theorem ok_region_Turn {t0 t1 : Value} {w : World} {K : VW} (h : F_region_Turn t0 t1 w K) : oCall prog n_region_Turn #[t0, t1] w K :=
  okC false (.s (.r (rz 4 0 42)) (.s (.s (.r (rz 8 0 10249)) (.s (.r (rz 2 0 0)) (.c (.s (.r (rz 4 0 32)) (.n)) (.n)))) (.s (.s (.r (rz 4 0 137)) (.c (.s (.r (rz 3 0 8)) (.n)) (.n))) (.s (.r (rz 5 0 161)) (.n))))) func8 rfl (by kernel_rfl) (by kernel_rfl) h

/- 12: loanword/region.Erase -/
def F_region_Erase (t0 : Value) (w : World) (K : VW) : Prop :=
 pw w (Instr.box 25 t0) fun t1 w1 =>
 pw w1 (Instr.alloc 25 true (.tuple #[])) fun t2 w2 =>
 lo w2 25 t1 fun t7 => ca n_types_Own #[t7] w2 fun t8 w3 =>
 pe t8 0 fun t9 => pe t8 1 fun t10 => pw w3 (Instr.alloc 25 true (.tuple #[])) fun t4 w4 =>
 so w4 25 t4 t9 fun w5 => bt .neq 29 t10 (i6 0) fun t12 => oCond t12 (pp (Instr.build 25 #[]) fun t13 => so w5 25 t2 t13 fun w6 => pq w6 (cellSem 25 t2) fun r7 => K (.tuple #[r7, t10]) w6) (lo w5 25 t1 fun t15 => ca n_region_raw #[t15, (Value.func (.func 33) #[] #[])] w5 fun t16 w8 =>
 so w8 25 t2 t16 fun w9 => pq w9 (cellSem 25 t2) fun r10 => K (.tuple #[r10, (i6 0)]) w9)
theorem ok_region_Erase {t0 : Value} {w : World} {K : VW} (h : F_region_Erase t0 w K) : oCall prog n_region_Erase #[t0] w K :=
  okC false (.s (.r (rz 3 0 10)) (.s (.s (.r (rz 8 0 10249)) (.s (.r (rz 2 0 0)) (.c (.s (.r (rz 4 0 32)) (.n)) (.n)))) (.s (.r (rz 4 0 41)) (.n)))) func12 rfl (by kernel_rfl) (by kernel_rfl) h

/- 16: loanword/region.Of -/
def F_region_Of (t0 t1 : Value) (w : World) (K : VW) : Prop :=
 pw w (Instr.box 43 t0) fun t2 w1 =>
 pw w1 (Instr.alloc 46 true (.tuple #[])) fun t4 w2 =>
 lo w2 43 t2 fun t6 => ca n_region_all #[t6, t1, (i6 (-1))] w2 fun t8 w3 =>
 pe t8 0 fun t9 => pe t8 1 fun t10 => ca n_region_few #[t9, t10] w3 fun t11 w4 =>
 pe t11 0 fun t12 => pe t11 1 fun t13 => so w4 46 t4 t12 fun w5 => pq w5 (cellSem 46 t4) fun r6 => K (.tuple #[r6, t13]) w5
theorem ok_region_Of {t0 t1 : Value} {w : World} {K : VW} (h : F_region_Of t0 t1 w K) : oCall prog n_region_Of #[t0, t1] w K :=
  okC false (.s (.r (rz 3 0 10)) (.s (.r (rz 10 0 133153)) (.n))) func16 rfl (by kernel_rfl) (by kernel_rfl) h

/- 21: loanword/region.Place -/
def F_region_Place (t0 t1 t2 : Value) (w : World) (K : VW) : Prop :=
 pw w (Instr.box 43 t0) fun t3 w1 =>
 pw w1 (Instr.box 58 t2) fun t5 w2 =>
 pw w2 (Instr.alloc 25 true (.tuple #[])) fun t6 w3 =>
 lo w3 43 t3 fun t11 => ca n_region_all #[t11, t1, (i6 (-1))] w3 fun t13 w4 =>
 pe t13 0 fun t14 => pe t13 1 fun t15 => pw w4 (Instr.alloc 46 true (.tuple #[])) fun t8 w5 =>
 so w5 46 t8 t14 fun w6 => bt .neq 29 t15 (i6 0) fun t17 => sJoin (fun K7 => gIf t17 false (fl w6 t3 43 0 40 fun t20 => fl w6 t8 46 3 23 fun t22 => lo w6 58 t5 fun t23 => ca n_place_May #[t20, t22, t23] w6 fun t24 w11 =>
 pp (Op.unary .not t24) fun t25 => K7 [t25] w11) (K7 [undef] w6)) (fun s8 _d9 w10 =>
 oPick t17 tr_ (s8.getD 0 undef) fun t26 => oCond t26 (pp (Instr.build 25 #[]) fun t27 => so w10 25 t6 t27 fun w12 => pq w12 (cellSem 25 t6) fun r13 => K (.tuple #[r13, (i6 2)]) w12) (lo w10 46 t8 fun t29 => ca n_region_few #[t29, t15] w10 fun t31 w14 =>
 pe t31 0 fun _t32 => pe t31 1 fun t33 => bt .neq 29 t33 (i6 0) fun t35 => oCond t35 (pp (Instr.build 25 #[]) fun t36 => so w14 25 t6 t36 fun w15 => pq w15 (cellSem 25 t6) fun r16 => K (.tuple #[r16, t33]) w15) (fl w14 t3 43 0 40 fun t39 => fl w14 t8 46 3 23 fun t41 => lo w14 58 t5 fun t42 => ca n_place_Type #[t39, t41, t42] w14 fun t43 w17 =>
 pe t43 0 fun t44 => pe t43 1 fun t45 => so w17 25 t6 t44 fun w18 => pq w18 (cellSem 25 t6) fun r19 => K (.tuple #[r19, t45]) w18)))
theorem ok_region_Place {t0 t1 t2 : Value} {w : World} {K : VW} (h : F_region_Place t0 t1 t2 w K) : oCall prog n_region_Place #[t0, t1, t2] w K :=
  okC false (.s (.r (rz 4 0 42)) (.s (.r (rz 9 0 40993)) (.s (.s (.r (ra 3 0 0 (.grp 18 false (ri 7 3 2372) [25] (rz 1 10 0)))) (.c (.s (.r (rz 3 0 8)) (.n)) (.n))) (.s (.s (.r (rz 7 0 33)) (.s (.r (rz 2 0 0)) (.c (.s (.r (rz 4 0 32)) (.n)) (.n)))) (.s (.r (rz 10 0 133444)) (.n)))))) func21 rfl (by kernel_rfl) (by kernel_rfl) h

/- 23: loanword/region.Borrowed -/
def F_region_Borrowed (t0 t1 t2 : Value) (w : World) (K : VW) : Prop :=
 pw w (Instr.box 43 t0) fun t3 w1 =>
 pw w1 (Instr.alloc 25 true (.tuple #[])) fun t6 w2 =>
 lo w2 43 t3 fun t13 => ca n_region_at #[t13, t1, t2, (Value.int .u8 4)] w2 fun t16 w3 =>
 pe t16 0 fun t17 => pe t16 1 fun t18 => pe t16 2 fun t19 => pw w3 (Instr.alloc 46 true (.tuple #[])) fun t8 w4 =>
 pw w4 (Instr.alloc 64 true (.tuple #[])) fun t9 w5 =>
 so w5 46 t8 t17 fun w6 => so w6 64 t9 t18 fun w7 => bt .neq 29 t19 (i6 0) fun t21 => oCond t21 (pp (Instr.build 25 #[]) fun t22 => so w7 25 t6 t22 fun w8 => pq w8 (cellSem 25 t6) fun r9 => K (.tuple #[r9, t19]) w8) (fl w7 t3 43 0 40 fun t26 => fl w7 t8 46 3 23 fun t28 => fl w7 t9 64 6 58 fun t30 => ca n_place_Type #[t26, t28, t30] w7 fun t31 w10 =>
 pe t31 0 fun t32 => pe t31 1 fun t33 => pw w10 (Instr.alloc 25 true (.tuple #[])) fun t11 w11 =>
 so w11 25 t11 t32 fun w12 => fl w12.drew t9 64 7 4 fun t35 => fl w12.drew t8 46 4 26 fun t37 => xl w12.drew 26 t37 t2 3 fun t40 => lo w12.drew 25 t11 fun t41 => pw w12.drew (Instr.buildSlice 23 1 #[(0, t41)]) fun t42 w13 =>
 Ext w12.drew w13 ∧
 pp (Instr.build 25 #[(0, (Value.int .u8 4)), (1, t35), (2, t40), (4, t42)]) fun t43 => so w13 25 t6 t43 fun w14 => pq w14 (cellSem 25 t6) fun r15 => K (.tuple #[r15, t33]) w14)
theorem ok_region_Borrowed {t0 t1 t2 : Value} {w : World} {K : VW} (h : F_region_Borrowed t0 t1 t2 w K) : oCall prog n_region_Borrowed #[t0, t1, t2] w K :=
  okC false (.s (.r (rz 3 0 10)) (.s (.r (rz 13 0 11141249)) (.s (.s (.r (rz 2 0 0)) (.c (.s (.r (rz 4 0 32)) (.n)) (.n))) (.s (.r (rz 13 0 10495044)) (.s (.r (ra 8 0 20548 (ra 1 10 0 (ra 2 8 3 (rz 2 11 2))))) (.n)))))) func23 rfl (by kernel_rfl) (by kernel_rfl) h

/- 24: loanword/region.Called -/
def F_region_Called (t0 t1 t2 : Value) (w : World) (K : VW) : Prop :=
 pw w (Instr.box 43 t0) fun t3 w1 =>
 pw w1 (Instr.box 3 t2) fun t5 w2 =>
 pw w2 (Instr.alloc 25 true (.tuple #[])) fun t7 w3 =>
 lo w3 43 t3 fun t16 => lo w3 3 t5 fun t18 => ca n_region_at #[t16, t1, t18, (Value.int .u8 7)] w3 fun t19 w4 =>
 pe t19 0 fun t20 => pe t19 1 fun t21 => pe t19 2 fun t22 => pw w4 (Instr.alloc 46 true (.tuple #[])) fun t9 w5 =>
 pw w5 (Instr.alloc 64 true (.tuple #[])) fun t10 w6 =>
 so w6 46 t9 t20 fun w7 => so w7 64 t10 t21 fun w8 => bt .neq 29 t22 (i6 0) fun t24 => oCond t24 (lo w8.drew 25 t7 fun t25 => so w8.drew 25 t7 t25 fun w9 => pq w9 (cellSem 25 t7) fun r10 => K (.tuple #[(Value.slice Option.none 0 0), r10, t22]) w9) (fl w8 t3 43 1 41 fun t28 => fl w8 t10 64 8 3 fun t30 => xl w8 41 t28 t30 53 fun t32 => pw w8 (Instr.alloc 53 true (.tuple #[])) fun t11 w11 =>
 so w11 53 t11 t32 fun w12 => pp (Instr.makeFunc (.func 49) #[] #[t9, t5]) fun t33 => fl w12 t11 53 4 23 fun t35 => fl w12 t11 53 3 3 fun t37 => bt .add 3 t37 (i6 1) fun t38 => pp (Instr.sliceAt 23 t35 (some (i6 1)) (some t38) none) fun t39 => pp (Builtin.len_ #[23] 3 #[t39]) fun t40 => sLoop [(Value.slice Option.none 0 0), (i6 0)] w12 (fun s14 _d15 w16 K13 =>
 bf .lss 3 (s14.getD 1 undef) t40 fun t42 => oCond t42 (xl w16 23 t39 (s14.getD 1 undef) 25 fun t44 => pw w16 (Instr.alloc 25 true (.tuple #[])) fun t14 w17 =>
 so w17 25 t14 t44 fun w18 => lo w18 25 t14 fun t47 => cv t33 #[t47] w18 fun t48 w19 =>
 pw w19 (Instr.buildSlice 23 1 #[(0, t48)]) fun t49 w20 =>
 pw w20 (Builtin.append_ #[23, 23] 23 #[(s14.getD 0 undef), t49]) fun t50 w21 =>
 bt .add 3 (s14.getD 1 undef) (i6 1) fun t51 => K13 [t50, t51] w21) (fl w16 t11 53 4 23 fun t55 => xl w16 23 t55 (i6 0) 25 fun t57 => cv t33 #[t57] w16 fun t58 w22 =>
 so w22 25 t7 t58 fun w23 => pq w23 (cellSem 25 t7) fun r24 => K (.tuple #[(s14.getD 0 undef), r24, t22]) w23)))
theorem ok_region_Called {t0 t1 t2 : Value} {w : World} {K : VW} (h : F_region_Called t0 t1 t2 w K) : oCall prog n_region_Called #[t0, t1, t2] w K :=
  okC false (.s (.r (rz 5 0 138)) (.s (.r (rz 13 0 11141265)) (.s (.s (.r (rz 2 0 0)) (.c (.s (.r (rz 5 0 129)) (.n)) (.n))) (.s (.r (rz 8 0 42052)) (.s (.r (rz 2 0 0)) (.s (.s (.r (rz 8 0 68)) (.b (.lp [6, 41] (.s (.r (rz 1 0 0)) (.s (.c (.n) (.n)) (.s (.b (.s (.r (rz 4 0 164)) (.r (rz 7 0 2704)))) (.r (rz 2 0 0)))))))) (.s (.r (rz 11 0 533568)) (.n)))))))) func24 rfl (by kernel_rfl) (by kernel_rfl) h

/- 27: loanword/region.Width -/
def F_region_Width (t0 : Value) (w : World) (K : VW) : Prop :=
 pw w (Instr.box 46 t0) fun t1 w1 =>
 fl w1 t1 46 1 3 fun t4 => fl w1 t1 46 0 3 fun t6 => bf .add 3 t4 t6 fun t7 => K t7 w1
theorem ok_region_Width {t0 : Value} {w : World} {K : VW} (h : F_region_Width t0 w K) : oCall prog n_region_Width #[t0] w K :=
  okC false (.s (.r (rz 2 0 2)) (.s (.r (rz 6 0 68)) (.n))) func27 rfl (by kernel_rfl) (by kernel_rfl) h

/- 30: loanword/region.Turn$1 -/
def F_region_Turn_1 (t0 t1 : Value) (w : World) (K : VW) : Prop :=
 bt .lss 3 t0 (i6 0) fun t5 => sJoin (fun K1 => gIf t5 false (lo w 26 t1 fun t8 => pp (Builtin.len_ #[26] 3 #[t8]) fun t9 => bf .geq 3 t0 t9 fun t10 => K1 [t10] w) (K1 [undef] w)) (fun s2 _d3 w4 =>
 oPick t5 tr_ (s2.getD 0 undef) fun t11 => K t11 w4)
theorem ok_region_Turn_1 {t0 t1 : Value} {w : World} {K : VW} (h : F_region_Turn_1 t0 t1 w K) : oCall prog n_region_Turn_1 #[t0, t1] w K :=
  okC false (.s (.r (rz 1 0 0)) (.s (.r (ra 3 0 0 (.grp 6 false (ri 4 3 4) [10] (rz 2 7 0)))) (.n))) func30 rfl (by kernel_rfl) (by kernel_rfl) h

/- 31: loanword/region.raw -/
def F_region_raw (t0 t1 : Value) (w : World) (K : VW) : Prop :=
 pw w (Instr.box 25 t0) fun t2 w1 =>
 pw w1 (Instr.alloc 25 true (.tuple #[])) fun t4 w2 =>
 sJoin (fun K3 =>
 fl w2 t2 25 0 22 fun t6 => bt .eql 22 t6 (Value.int .u8 4) fun t7 => oCond t7 (fl w2 t2 25 2 3 fun t10 => cv t1 #[t10] w2 fun t11 w7 =>
 pf 25 t2 2 fun t12 => so w7 3 t12 t11 fun w8 => K3 [] w8) (K3 [] w2)) (fun _s4 _d5 w6 =>
 sJoin (fun K9 =>
 fl w6 t2 25 4 23 fun t14 => pp (Builtin.len_ #[23] 3 #[t14]) fun t15 => bt .gtr 3 t15 (i6 0) fun t16 => oCond t16 (fl w6 t2 25 4 23 fun t18 => xl w6 23 t18 (i6 0) 25 fun t20 => ca n_region_raw #[t20, t1] w6 fun t22 w13 =>
 pw w13 (Instr.buildSlice 23 1 #[(0, t22)]) fun t23 w14 =>
 pf 25 t2 4 fun t24 => so w14 23 t24 t23 fun w15 => K9 [] w15) (K9 [] w6)) (fun _s10 _d11 w12 =>
 lo w12 25 t2 fun t25 => so w12 25 t4 t25 fun w16 => pq w16 (cellSem 25 t4) fun r17 => K r17 w16))
theorem ok_region_raw {t0 t1 : Value} {w : World} {K : VW} (h : F_region_raw t0 t1 w K) : oCall prog n_region_raw #[t0, t1] w K :=
  okC false (.s (.r (rz 2 0 10)) (.j [] (.s (.r (rz 3 0 4)) (.c (.r (rz 6 0 2192)) (.n))) (.j [] (.s (.r (rz 4 0 4)) (.c (.r (rz 9 0 141380)) (.n))) (.s (.r (rz 2 0 9)) (.n))))) func31 rfl (by kernel_rfl) (by kernel_rfl) h

/- 32: loanword/region.Turn$2 -/
def F_region_Turn_2 (t0 t1 : Value) (w : World) (K : VW) : Prop :=
 lo w 26 t1 fun t4 => xl w 26 t4 t0 3 fun t7 => K t7 w
theorem ok_region_Turn_2 {t0 t1 : Value} {w : World} {K : VW} (h : F_region_Turn_2 t0 t1 w K) : oCall prog n_region_Turn_2 #[t0, t1] w K :=
  okC false (.s (.r (rz 1 0 0)) (.s (.r (rz 5 0 65)) (.n))) func32 rfl (by kernel_rfl) (by kernel_rfl) h

/- 33: loanword/region.Erase$1 -/
def F_region_Erase_1 (_t0 : Value) (w : World) (K : VW) : Prop :=
 K (i6 (-1)) w
theorem ok_region_Erase_1 {t0 : Value} {w : World} {K : VW} (h : F_region_Erase_1 t0 w K) : oCall prog n_region_Erase_1 #[t0] w K :=
  okC false (.s (.r (rz 1 0 0)) (.s (.r (rz 1 0 0)) (.n))) func33 rfl (by kernel_rfl) (by kernel_rfl) h

/- 35: loanword/region.few -/
def F_region_few (t0 t1 : Value) (w : World) (K : VW) : Prop :=
 pw w (Instr.box 46 t0) fun t2 w1 =>
 pw w1 (Instr.alloc 46 true (.tuple #[])) fun t4 w2 =>
 sJoin (fun K3 =>
 bt .eql 29 t1 (i6 0) fun t7 => sJoin (fun K7 => gIf t7 true (fl w2 t2 46 2 3 fun t10 => bt .gtr 3 t10 (i6 512) fun t11 => K7 [t11] w2) (K7 [undef] w2)) (fun s8 _d9 w10 =>
 oPick t7 (s8.getD 0 undef) fa_ fun t12 => oCond t12 (K3 [(i6 5)] w10) (K3 [t1] w10))) (fun s4 _d5 w6 =>
 bt .neq 29 (s4.getD 0 undef) (i6 0) fun t14 => oCond t14 (pp (Instr.build 46 #[]) fun t15 => so w6 46 t4 t15 fun w11 => pq w11 (cellSem 46 t4) fun r12 => K (.tuple #[r12, (s4.getD 0 undef)]) w11) (lo w6 46 t2 fun t17 => so w6 46 t4 t17 fun w13 => pq w13 (cellSem 46 t4) fun r14 => K (.tuple #[r14, (s4.getD 0 undef)]) w13))
theorem ok_region_few {t0 t1 : Value} {w : World} {K : VW} (h : F_region_few t0 t1 w K) : oCall prog n_region_few #[t0, t1] w K :=
  okC false (.s (.r (rz 3 0 10)) (.j [1] (.s (.r (ra 3 0 0 (.grp 8 true (ri 3 3 4) [11] (rz 1 6 0)))) (.c (.r (rz 1 0 0)) (.n))) (.s (.s (.r (rz 2 0 0)) (.c (.s (.r (rz 4 0 32)) (.n)) (.n))) (.s (.r (rz 4 0 33)) (.n))))) func35 rfl (by kernel_rfl) (by kernel_rfl) h

/- 36: loanword/region.all -/
def F_region_all (t0 t1 t2 : Value) (w : World) (K : VW) : Prop :=
 pw w (Instr.box 43 t0) fun t3 w1 =>
 pw w1 (Instr.alloc 46 true (.tuple #[])) fun t6 w2 =>
 bt .lss 3 t1 (i6 0) fun t16 => sJoin (fun K3 => gIf t16 false (fl w2 t3 43 1 41 fun t20 => pp (Builtin.len_ #[41] 3 #[t20]) fun t21 => bf .geq 3 t1 t21 fun t22 => K3 [t22] w2) (K3 [undef] w2)) (fun s4 _d5 w6 =>
 oPick t16 tr_ (s4.getD 0 undef) fun t23 => sJoin (fun K7 => gIf t23 false (lo w6 43 t3 fun t25 => ca n_graph_May #[t25] w6 fun t26 w11 =>
 pp (Op.unary .not t26) fun t27 => K7 [t27] w11) (K7 [undef] w6)) (fun s8 _d9 w10 =>
 oPick t23 tr_ (s8.getD 0 undef) fun t28 => sJoin (fun K12 => gIf t28 false (fl w10 t3 43 1 41 fun t32 => px 41 t32 t1 fun t34 => fl w10 t34 53 6 51 fun t36 => pp (Builtin.len_ #[51] 3 #[t36]) fun t37 => bf .geq 3 t2 t37 fun t38 => K12 [t38] w10) (K12 [undef] w10)) (fun s13 _d14 w15 =>
 oPick t28 tr_ (s13.getD 0 undef) fun t39 => oCond t39 (lo w15 46 t6 fun t40 => so w15 46 t6 t40 fun w16 => pq w16 (cellSem 46 t6) fun r17 => K (.tuple #[r17, (i6 2)]) w16) (fl w15 t3 43 1 41 fun t42 => xl w15 41 t42 t1 53 fun t45 => pw w15 (Instr.alloc 53 true (.tuple #[])) fun t8 w18 =>
 so w18 53 t8 t45 fun w19 => sJoin (fun K20 =>
 fl w19.drew t8 53 1 3 fun t47 => pf 53 t8 6 fun t48 => pf 53 t8 1 fun t51 => pf 46 t6 0 fun t53 => ((pw w19.drew (Instr.loadAt 51 t48) fun t49 w24 =>
 Ext w19.drew w24 ∧
 pp (Builtin.len_ #[51] 3 #[t49]) fun t50 => ((pw w24 (Instr.loadAt 3 t51) fun t52 w25 =>
 Ext w24 w25 ∧
 so w25 3 t53 t47 fun w26 => pf 46 t6 1 fun t54 => so w26 3 t54 t50 fun w27 => pf 46 t6 2 fun t55 => so w27 3 t55 t52 fun w28 => K20 [] w28) ∧
 (so w24 3 t53 t47 fun w29 => pf 46 t6 1 fun t54_30 => ((pw w29 (Instr.loadAt 3 t51) fun t52_32 w31 =>
 Ext w29 w31 ∧
 so w31 3 t54_30 t50 fun w33 => pf 46 t6 2 fun t55_34 => so w33 3 t55_34 t52_32 fun w35 => K20 [] w35) ∧
 (so w29 3 t54_30 t50 fun w36 => pw w36 (Instr.loadAt 3 t51) fun t52_38 w37 =>
 Ext w36 w37 ∧
 pf 46 t6 2 fun t55_39 => so w37 3 t55_39 t52_38 fun w40 => K20 [] w40))))) ∧
 (((pw w19.drew (Instr.loadAt 3 t51) fun t52_42 w41 =>
 Ext w19.drew w41 ∧
 ((pw w41 (Instr.loadAt 51 t48) fun t49_44 w43 =>
 Ext w41 w43 ∧
 pp (Builtin.len_ #[51] 3 #[t49_44]) fun t50_45 => so w43 3 t53 t47 fun w46 => pf 46 t6 1 fun t54_47 => so w46 3 t54_47 t50_45 fun w48 => pf 46 t6 2 fun t55_49 => so w48 3 t55_49 t52_42 fun w50 => K20 [] w50) ∧
 (so w41 3 t53 t47 fun w51 => pw w51 (Instr.loadAt 51 t48) fun t49_53 w52 =>
 Ext w51 w52 ∧
 pp (Builtin.len_ #[51] 3 #[t49_53]) fun t50_54 => pf 46 t6 1 fun t54_55 => so w52 3 t54_55 t50_54 fun w56 => pf 46 t6 2 fun t55_57 => so w56 3 t55_57 t52_42 fun w58 => K20 [] w58))) ∧
 (so w19.drew 3 t53 t47 fun w59 => ((pw w59 (Instr.loadAt 51 t48) fun t49_61 w60 =>
 Ext w59 w60 ∧
 pp (Builtin.len_ #[51] 3 #[t49_61]) fun t50_62 => pf 46 t6 1 fun t54_63 => ((pw w60 (Instr.loadAt 3 t51) fun t52_65 w64 =>
 Ext w60 w64 ∧
 so w64 3 t54_63 t50_62 fun w66 => pf 46 t6 2 fun t55_67 => so w66 3 t55_67 t52_65 fun w68 => K20 [] w68) ∧
 (so w60 3 t54_63 t50_62 fun w69 => pw w69 (Instr.loadAt 3 t51) fun t52_71 w70 =>
 Ext w69 w70 ∧
 pf 46 t6 2 fun t55_72 => so w70 3 t55_72 t52_71 fun w73 => K20 [] w73))) ∧
 (pw w59 (Instr.loadAt 3 t51) fun t52_75 w74 =>
 Ext w59 w74 ∧
 pw w74 (Instr.loadAt 51 t48) fun t49_77 w76 =>
 Ext w74 w76 ∧
 pp (Builtin.len_ #[51] 3 #[t49_77]) fun t50_78 => pf 46 t6 1 fun t54_79 => so w76 3 t54_79 t50_78 fun w80 => pf 46 t6 2 fun t55_81 => so w80 3 t55_81 t52_75 fun w82 => K20 [] w82))))))) (fun _s21 _d22 w23 =>
 fl w23 t8 53 4 23 fun t57 => pp (Builtin.len_ #[23] 3 #[t57]) fun t58 => sLoop [(i6 0)] w23 (fun s84 _d85 w86 K83 =>
 bf .lss 3 (s84.getD 0 undef) t58 fun t60 => oCond t60 (sJoin (fun K87 =>
 xl w86 23 t57 (s84.getD 0 undef) 25 fun t62 => pw w86 (Instr.alloc 25 true (.tuple #[])) fun t10 w91 =>
 so w91 25 t10 t62 fun w92 => pf 46 t6 3 fun t63 => lo w92.drew 25 t10 fun t65 => pp (Instr.makeFunc (.func 59) #[] #[t6]) fun t66 => ((pw w92.drew (Instr.loadAt 23 t63) fun t64 w93 =>
 Ext w92.drew w93 ∧
 pp (Builtin.len_ #[23] 3 #[t64]) fun t68 => ((ca n_region_turned #[t65, t66] w93 fun t67 w94 =>
 pw w94 (Instr.buildSlice 23 1 #[(0, (Value.agg #[Value.int .u8 0, Value.bool false, Value.int .i64 0, Value.int .i64 0, Value.slice Option.none 0 0]))]) fun t69 w95 =>
 Ext w94 w95 ∧
 pw w95 (Builtin.append_ #[23, 23] 23 #[t64, t69]) fun t70 w96 =>
 px 23 t70 t68 fun t71 => pf 46 t6 3 fun t72 => ((so w96 25 t71 t67 fun w97 => so w97 23 t72 t70 fun w98 => K87 [] w98) ∧
 (so w96 23 t72 t70 fun w99 => so w99 25 t71 t67 fun w100 => K87 [] w100))) ∧
 (pw w93 (Instr.buildSlice 23 1 #[(0, (Value.agg #[Value.int .u8 0, Value.bool false, Value.int .i64 0, Value.int .i64 0, Value.slice Option.none 0 0]))]) fun t69_102 w101 =>
 Ext w93 w101 ∧
 ca n_region_turned #[t65, t66] w101 fun t67_104 w103 =>
 pw w103 (Builtin.append_ #[23, 23] 23 #[t64, t69_102]) fun t70_106 w105 =>
 px 23 t70_106 t68 fun t71_107 => pf 46 t6 3 fun t72_108 => ((so w105 25 t71_107 t67_104 fun w109 => so w109 23 t72_108 t70_106 fun w110 => K87 [] w110) ∧
 (so w105 23 t72_108 t70_106 fun w111 => so w111 25 t71_107 t67_104 fun w112 => K87 [] w112))))) ∧
 (((ca n_region_turned #[t65, t66] w92.drew fun t67_114 w113 =>
 ((pw w113 (Instr.loadAt 23 t63) fun t64_116 w115 =>
 Ext w113 w115 ∧
 pp (Builtin.len_ #[23] 3 #[t64_116]) fun t68_117 => pw w115 (Instr.buildSlice 23 1 #[(0, (Value.agg #[Value.int .u8 0, Value.bool false, Value.int .i64 0, Value.int .i64 0, Value.slice Option.none 0 0]))]) fun t69_119 w118 =>
 Ext w115 w118 ∧
 pw w118 (Builtin.append_ #[23, 23] 23 #[t64_116, t69_119]) fun t70_121 w120 =>
 px 23 t70_121 t68_117 fun t71_122 => pf 46 t6 3 fun t72_123 => ((so w120 25 t71_122 t67_114 fun w124 => so w124 23 t72_123 t70_121 fun w125 => K87 [] w125) ∧
 (so w120 23 t72_123 t70_121 fun w126 => so w126 25 t71_122 t67_114 fun w127 => K87 [] w127))) ∧
 (pw w113 (Instr.buildSlice 23 1 #[(0, (Value.agg #[Value.int .u8 0, Value.bool false, Value.int .i64 0, Value.int .i64 0, Value.slice Option.none 0 0]))]) fun t69_129 w128 =>
 Ext w113 w128 ∧
 pw w128 (Instr.loadAt 23 t63) fun t64_131 w130 =>
 Ext w128 w130 ∧
 pp (Builtin.len_ #[23] 3 #[t64_131]) fun t68_132 => pw w130 (Builtin.append_ #[23, 23] 23 #[t64_131, t69_129]) fun t70_134 w133 =>
 px 23 t70_134 t68_132 fun t71_135 => pf 46 t6 3 fun t72_136 => ((so w133 25 t71_135 t67_114 fun w137 => so w137 23 t72_136 t70_134 fun w138 => K87 [] w138) ∧
 (so w133 23 t72_136 t70_134 fun w139 => so w139 25 t71_135 t67_114 fun w140 => K87 [] w140))))) ∧
 (pw w92.drew (Instr.buildSlice 23 1 #[(0, (Value.agg #[Value.int .u8 0, Value.bool false, Value.int .i64 0, Value.int .i64 0, Value.slice Option.none 0 0]))]) fun t69_142 w141 =>
 Ext w92.drew w141 ∧
 ((pw w141 (Instr.loadAt 23 t63) fun t64_144 w143 =>
 Ext w141 w143 ∧
 pp (Builtin.len_ #[23] 3 #[t64_144]) fun t68_145 => ca n_region_turned #[t65, t66] w143 fun t67_147 w146 =>
 pw w146 (Builtin.append_ #[23, 23] 23 #[t64_144, t69_142]) fun t70_149 w148 =>
 px 23 t70_149 t68_145 fun t71_150 => pf 46 t6 3 fun t72_151 => ((so w148 25 t71_150 t67_147 fun w152 => so w152 23 t72_151 t70_149 fun w153 => K87 [] w153) ∧
 (so w148 23 t72_151 t70_149 fun w154 => so w154 25 t71_150 t67_147 fun w155 => K87 [] w155))) ∧
 (ca n_region_turned #[t65, t66] w141 fun t67_157 w156 =>
 pw w156 (Instr.loadAt 23 t63) fun t64_159 w158 =>
 Ext w156 w158 ∧
 pp (Builtin.len_ #[23] 3 #[t64_159]) fun t68_160 => pw w158 (Builtin.append_ #[23, 23] 23 #[t64_159, t69_142]) fun t70_162 w161 =>
 px 23 t70_162 t68_160 fun t71_163 => pf 46 t6 3 fun t72_164 => ((so w161 25 t71_163 t67_157 fun w165 => so w165 23 t72_164 t70_162 fun w166 => K87 [] w166) ∧
 (so w161 23 t72_164 t70_162 fun w167 => so w167 25 t71_163 t67_157 fun w168 => K87 [] w168))))))))) (fun _s88 _d89 w90 =>
 bt .add 3 (s84.getD 0 undef) (i6 1) fun t73 => K83 [t73] w90)) (fl w86 t8 53 6 51 fun t75 => pp (Builtin.len_ #[51] 3 #[t75]) fun t76 => sLoop [(i6 0)] w86 (fun s170 _d171 w172 K169 =>
 bf .lss 3 (s170.getD 0 undef) t76 fun t78 => oCond t78 (xl w172 51 t75 (s170.getD 0 undef) 64 fun t80 => pw w172 (Instr.alloc 64 true (.tuple #[])) fun t12 w173 =>
 so w173 64 t12 t80 fun w174 => sJoin (fun K175 =>
 fl w174 t12 64 0 55 fun t82 => bt .eql 55 t82 (Value.int .u8 4) fun t84 => oCond t84 (K175 [(i6 1)] w174) (bt .eql 55 t82 (Value.int .u8 7) fun t86 => oCond t86 (fl w174 t3 43 1 41 fun t88 => fl w174 t12 64 8 3 fun t90 => px 41 t88 t90 fun t91 => fl w174 t91 53 1 3 fun t93 => K175 [t93] w174) (K175 [(i6 0)] w174))) (fun s176 _d177 w178 =>
 fl w178 t6 46 2 3 fun t95 => sJoin (fun K179 =>
 bt .eql 3 (s176.getD 0 undef) (i6 0) fun t97 => oCond t97 (K179 [(i6 (-1))] w178) (K179 [t95] w178)) (fun s180 _d181 w182 =>
 fl w182 t6 46 4 26 fun t99 => pw w182 (Instr.buildSlice 26 1 #[(0, (s180.getD 0 undef))]) fun t101 w183 =>
 pw w183 (Builtin.append_ #[26, 26] 26 #[t99, t101]) fun t102 w184 =>
 pf 46 t6 4 fun t103 => so w184 26 t103 t102 fun w185 => fl w185 t6 46 2 3 fun t105 => bf .add 3 t105 (s176.getD 0 undef) fun t107 => pf 46 t6 2 fun t108 => so w185 3 t108 t107 fun w186 => bt .add 3 (s170.getD 0 undef) (i6 1) fun t109 => K169 [t109] w186))) (lo w172 46 t6 fun t110 => so w172 46 t6 t110 fun w187 => pq w187 (cellSem 46 t6) fun r188 => K (.tuple #[r188, (i6 0)]) w187)))))))))
theorem ok_region_all {t0 t1 t2 : Value} {w : World} {K : VW} (h : F_region_all t0 t1 t2 w K) : oCall prog n_region_all #[t0, t1, t2] w K :=
  okC false (.s (.r (rz 3 0 10)) (.s (.s (.r (ra 3 0 0 (.grp 17 false (ri 5 3 16) [22] (ra 2 8 0 (.grp 24 false (ri 3 10 9) [27] (ra 2 13 0 (.grp 29 false (ri 9 15 4112) [38] (rz 1 24 0)))))))) (.c (.s (.r (rz 3 0 9)) (.n)) (.n))) (.s (.r (rz 7 0 10500)) (.j [] (.r (ra 3 0 4 (ra 1 5 0 (ra 1 7 0 (.alt 3 .u (ra 1 4 0 (.alt 6 .u (rz 5 8 546) (ra 2 8 2 (.alt 6 .u (rz 3 10 34) (ra 1 10 2 (ra 1 6 3 (rz 2 11 8))))))) (.alt 6 .u (.alt 3 .u (ra 1 4 0 (rz 5 8 546)) (ra 1 8 2 (ra 2 3 3 (rz 4 9 136)))) (ra 1 8 2 (.alt 3 .u (ra 1 4 0 (ra 1 9 0 (.alt 6 .u (rz 3 10 34) (ra 1 10 2 (ra 1 6 3 (rz 2 11 8)))))) (ra 1 6 3 (ra 2 3 3 (rz 4 9 136))))))))))) (.s (.s (.r (rz 4 0 4)) (.b (.lp [59] (.s (.r (rz 1 0 0)) (.s (.c (.n) (.n)) (.j [] (.b (.s (.r (rz 4 0 164)) (.r (ra 1 0 0 (ra 2 2 1 (.alt 1 .u (ra 1 5 0 (.alt 4 .l (ra 3 6 11 (ra 1 10 0 (.alt 9 .l (rz 1 11 2) (ra 1 11 2 (rz 1 9 2))))) (ra 1 6 3 (ra 1 4 2 (ra 2 7 2 (ra 1 10 0 (.alt 9 .l (rz 1 11 2) (ra 1 11 2 (rz 1 9 2))))))))) (.alt 4 .l (.alt 1 .u (ra 4 5 44 (ra 1 10 0 (.alt 9 .l (rz 1 11 2) (ra 1 11 2 (rz 1 9 2))))) (ra 1 6 3 (ra 1 1 3 (ra 1 5 0 (ra 2 7 2 (ra 1 10 0 (.alt 9 .l (rz 1 11 2) (ra 1 11 2 (rz 1 9 2))))))))) (ra 1 6 3 (.alt 1 .u (ra 1 5 0 (ra 1 4 2 (ra 2 7 2 (ra 1 10 0 (.alt 9 .l (rz 1 11 2) (ra 1 11 2 (rz 1 9 2))))))) (ra 1 4 2 (ra 1 1 3 (ra 1 5 0 (ra 2 7 2 (ra 1 10 0 (.alt 9 .l (rz 1 11 2) (ra 1 11 2 (rz 1 9 2))))))))))))))))) (.r (rz 2 0 0)))))))) (.s (.s (.r (rz 4 0 4)) (.b (.lp [77] (.s (.r (rz 1 0 0)) (.s (.c (.n) (.n)) (.s (.b (.s (.r (rz 4 0 164)) (.s (.r (rz 1 0 0)) (.j [13] (.s (.r (rz 2 0 4)) (.b (.s (.r (rz 2 0 0)) (.c (.r (rz 1 0 0)) (.s (.r (rz 2 0 0)) (.c (.r (rz 8 0 4164)) (.n))))))) (.s (.r (rz 3 0 4)) (.j [14] (.s (.r (rz 2 0 0)) (.c (.r (rz 1 0 0)) (.n))) (.s (.r (rz 7 0 8836)) (.r (rz 6 0 2052))))))))) (.r (rz 2 0 0)))))))) (.s (.r (rz 3 0 9)) (.n)))))))) func36 rfl (by kernel_rfl) (by kernel_rfl) h

/- 44: loanword/place.May -/
def F_place_May (t0 t1 t2 : Value) (w : World) (K : VW) : Prop :=
 pw w (Instr.box 58 t2) fun t5 w1 =>
 lo w1 58 t5 fun t13 => ca n_place_walk #[t0, t1, t13] w1 fun t14 w2 =>
 pe t14 0 fun t15 => pe t14 1 fun _t16 => pe t14 2 fun t17 => pw w2 (Instr.alloc 25 true (.tuple #[])) fun t7 w3 =>
 so w3 25 t7 t15 fun w4 => K t17 w4
theorem ok_place_May {t0 t1 t2 : Value} {w : World} {K : VW} (h : F_place_May t0 t1 t2 w K) : oCall prog n_place_May #[t0, t1, t2] w K :=
  okC false (.s (.r (rz 2 0 2)) (.s (.r (rz 12 0 655504)) (.s (.r (rz 2 0 0)) (.n)))) func44 rfl (by kernel_rfl) (by kernel_rfl) h

/- 45: loanword/place.Type -/
def F_place_Type (t0 t1 t2 : Value) (w : World) (K : VW) : Prop :=
 pw w (Instr.box 58 t2) fun t5 w1 =>
 pw w1 (Instr.alloc 25 true (.tuple #[])) fun t6 w2 =>
 lo w2 58 t5 fun t14 => ca n_place_walk #[t0, t1, t14] w2 fun t15 w3 =>
 pe t15 0 fun t16 => pe t15 1 fun _t17 => pe t15 2 fun t18 => pw w3 (Instr.alloc 25 true (.tuple #[])) fun t8 w4 =>
 so w4 25 t8 t16 fun w5 => pp (Op.unary .not t18) fun t20 => oCond t20 (pp (Instr.build 25 #[]) fun t21 => so w5 25 t6 t21 fun w6 => pq w6 (cellSem 25 t6) fun r7 => K (.tuple #[r7, (i6 2)]) w6) (lo w5 25 t8 fun t22 => ca n_types_Own #[t22] w5 fun t23 w8 =>
 pe t23 0 fun t24 => pe t23 1 fun t25 => so w8 25 t6 t24 fun w9 => pq w9 (cellSem 25 t6) fun r10 => K (.tuple #[r10, t25]) w9)
theorem ok_place_Type {t0 t1 t2 : Value} {w : World} {K : VW} (h : F_place_Type t0 t1 t2 w K) : oCall prog n_place_Type #[t0, t1, t2] w K :=
  okC false (.s (.r (rz 3 0 10)) (.s (.r (rz 12 0 655504)) (.s (.s (.r (rz 2 0 0)) (.c (.s (.r (rz 3 0 8)) (.n)) (.n))) (.s (.r (rz 6 0 521)) (.n))))) func45 rfl (by kernel_rfl) (by kernel_rfl) h

/- 48: loanword/region.at -/
def F_region_at (t0 t1 t2 t3 : Value) (w : World) (K : VW) : Prop :=
 pw w (Instr.box 43 t0) fun t4 w1 =>
 pw w1 (Instr.alloc 46 true (.tuple #[])) fun t8 w2 =>
 pw w2 (Instr.alloc 64 true (.tuple #[])) fun t9 w3 =>
 bt .lss 3 t2 (i6 0) fun t15 => oCond t15 (pp (Instr.build 46 #[]) fun t16 => pp (Instr.build 64 #[]) fun t17 => so w3 46 t8 t16 fun w4 => so w4 64 t9 t17 fun w5 => pq w5 (cellSem 46 t8) fun r6 => pq w5 (cellSem 64 t9) fun r7 => K (.tuple #[r6, r7, (i6 2)]) w5) (lo w3 43 t4 fun t19 => ca n_region_all #[t19, t1, t2] w3 fun t22 w8 =>
 pe t22 0 fun t23 => pe t22 1 fun t24 => ca n_region_few #[t23, t24] w8 fun t25 w9 =>
 pe t25 0 fun t26 => pe t25 1 fun t27 => pw w9 (Instr.alloc 46 true (.tuple #[])) fun t11 w10 =>
 so w10 46 t11 t26 fun w11 => bt .neq 29 t27 (i6 0) fun t29 => oCond t29 (lo w11 46 t11 fun t30 => pp (Instr.build 64 #[]) fun t31 => so w11 46 t8 t30 fun w12 => so w12 64 t9 t31 fun w13 => pq w13 (cellSem 46 t8) fun r14 => pq w13 (cellSem 64 t9) fun r15 => K (.tuple #[r14, r15, t27]) w13) (fl w11 t4 43 1 41 fun t34 => px 41 t34 t1 fun t36 => fl w11 t36 53 6 51 fun t38 => xl w11 51 t38 t2 64 fun t41 => pw w11 (Instr.alloc 64 true (.tuple #[])) fun t13 w16 =>
 so w16 64 t13 t41 fun w17 => sJoin (fun K18 =>
 fl w17 t13 64 0 55 fun t43 => bf .neq 55 t43 t3 fun t45 => oCond t45 (K18 [(i6 130)] w17) (K18 [t27] w17)) (fun s19 _d20 w21 =>
 lo w21.drew 46 t11 fun t46 => ((pw w21.drew (Instr.loadAt 64 t13) fun t47 w22 =>
 Ext w21.drew w22 ∧
 so w22 46 t8 t46 fun w23 => so w23 64 t9 t47 fun w24 => pq w24 (cellSem 46 t8) fun r25 => pq w24 (cellSem 64 t9) fun r26 => K (.tuple #[r25, r26, (s19.getD 0 undef)]) w24) ∧
 (so w21.drew 46 t8 t46 fun w27 => pw w27 (Instr.loadAt 64 t13) fun t47_29 w28 =>
 Ext w27 w28 ∧
 so w28 64 t9 t47_29 fun w30 => pq w30 (cellSem 46 t8) fun r31 => pq w30 (cellSem 64 t9) fun r32 => K (.tuple #[r31, r32, (s19.getD 0 undef)]) w30)))))
theorem ok_region_at {t0 t1 t2 t3 : Value} {w : World} {K : VW} (h : F_region_at t0 t1 t2 t3 w K) : oCall prog n_region_at #[t0, t1, t2, t3] w K :=
  okC false (.s (.r (rz 4 0 42)) (.s (.s (.r (rz 2 0 0)) (.c (.s (.r (rz 5 0 160)) (.n)) (.n))) (.s (.r (rz 13 0 10494081)) (.s (.s (.r (rz 2 0 0)) (.c (.s (.r (rz 6 0 641)) (.n)) (.n))) (.s (.r (rz 11 0 2688004)) (.j [12] (.s (.r (rz 4 0 4)) (.c (.r (rz 1 0 0)) (.n))) (.s (.r (ra 1 0 1 (ra 1 2 0 (.alt 1 .u (rz 3 3 10) (ra 1 3 2 (ra 1 1 3 (rz 2 4 2))))))) (.n)))))))) func48 rfl (by kernel_rfl) (by kernel_rfl) h

/- 49: loanword/region.Called$1 -/
def F_region_Called_1 (t0 t1 t2 : Value) (w : World) (K : VW) : Prop :=
 pw w (Instr.box 25 t0) fun t3 w1 =>
 pw w1 (Instr.alloc 25 true (.tuple #[])) fun t4 w2 =>
 lo w2 25 t3 fun t5 => pp (Instr.makeFunc (.func 51) #[] #[t1, t2]) fun t6 => ca n_region_turned #[t5, t6] w2 fun t7 w3 =>
 so w3 25 t4 t7 fun w4 => pq w4 (cellSem 25 t4) fun r5 => K r5 w4
theorem ok_region_Called_1 {t0 t1 t2 : Value} {w : World} {K : VW} (h : F_region_Called_1 t0 t1 t2 w K) : oCall prog n_region_Called_1 #[t0, t1, t2] w K :=
  okC false (.s (.r (rz 2 0 10)) (.s (.r (rz 4 0 161)) (.n))) func49 rfl (by kernel_rfl) (by kernel_rfl) h

/- 50: loanword/region.turned -/
def F_region_turned (t0 t1 : Value) (w : World) (K : VW) : Prop :=
 pw w (Instr.box 25 t0) fun t2 w1 =>
 pw w1 (Instr.alloc 25 true (.tuple #[])) fun t4 w2 =>
 lo w2 25 t2 fun t8 => ca n_types_Regions #[t8] w2 fun t9 w3 =>
 pp (Builtin.len_ #[26] 3 #[t9]) fun t11 => sLoop [(i6 0)] w3 (fun s5 _d6 w7 K4 =>
 bf .lss 3 (s5.getD 0 undef) t11 fun t13 => oCond t13 (xl w7 26 t9 (s5.getD 0 undef) 3 fun t16 => cv t1 #[t16] w7 fun t21 w8 =>
 px 26 t9 (s5.getD 0 undef) fun t22 => so w8 3 t22 t21 fun w9 => bt .add 3 (s5.getD 0 undef) (i6 1) fun t23 => K4 [t23] w9) (lo w7 25 t2 fun t25 => ca n_types_Anew #[t25, t9] w7 fun t27 w10 =>
 pe t27 0 fun t28 => pe t27 1 fun _t29 => so w10 25 t2 t28 fun w11 => lo w11 25 t2 fun t30 => so w11 25 t4 t30 fun w12 => pq w12 (cellSem 25 t4) fun r13 => K r13 w12))
theorem ok_region_turned {t0 t1 : Value} {w : World} {K : VW} (h : F_region_turned t0 t1 w K) : oCall prog n_region_turned #[t0, t1] w K :=
  okC false (.s (.r (rz 2 0 10)) (.s (.r (rz 3 0 9)) (.s (.s (.r (rz 3 0 0)) (.b (.lp [12] (.s (.r (rz 1 0 0)) (.s (.c (.n) (.n)) (.s (.b (.s (.r (rz 5 0 16)) (.r (rz 7 0 8704)))) (.r (rz 2 0 0)))))))) (.s (.r (rz 7 0 8225)) (.s (.r (rz 2 0 9)) (.n)))))) func50 rfl (by kernel_rfl) (by kernel_rfl) h

/- 51: loanword/region.Called$1$1 -/
def F_region_Called_1_1 (t0 t1 t2 : Value) (w : World) (K : VW) : Prop :=
 fl w t1 46 4 26 fun t6 => lo w 3 t2 fun t7 => xl w 26 t6 t7 3 fun t9 => bf .add 3 t9 t0 fun t11 => K t11 w
theorem ok_region_Called_1_1 {t0 t1 t2 : Value} {w : World} {K : VW} (h : F_region_Called_1_1 t0 t1 t2 w K) : oCall prog n_region_Called_1_1 #[t0, t1, t2] w K :=
  okC false (.s (.r (rz 1 0 0)) (.s (.r (rz 8 0 276)) (.n))) func51 rfl (by kernel_rfl) (by kernel_rfl) h

/- 59: loanword/region.all$1 -/
def F_region_all_1 (t0 t1 : Value) (w : World) (K : VW) : Prop :=
 sJoin (fun K1 =>
 bt .lss 3 t0 (i6 0) fun t5 => oCond t5 (fl w t1 46 2 3 fun t7 => fl w t1 46 2 3 fun t9 => bt .add 3 t9 (i6 1) fun t10 => pf 46 t1 2 fun t11 => so w 3 t11 t10 fun w5 => K1 [t7] w5) (K1 [t0] w)) (fun s2 _d3 w4 =>
 K (s2.getD 0 undef) w4)
theorem ok_region_all_1 {t0 t1 : Value} {w : World} {K : VW} (h : F_region_all_1 t0 t1 w K) : oCall prog n_region_all_1 #[t0, t1] w K :=
  okC false (.s (.r (rz 1 0 0)) (.j [0] (.s (.r (rz 2 0 0)) (.c (.s (.r (rz 3 0 4)) (.r (rz 5 0 516))) (.n))) (.s (.r (rz 2 0 0)) (.n)))) func59 rfl (by kernel_rfl) (by kernel_rfl) h

/- 67: loanword/place.walk -/
def F_place_walk (t0 t1 t2 : Value) (w : World) (K : VW) : Prop :=
 pw w (Instr.box 40 t0) fun t3 w1 =>
 pw w1 (Instr.box 58 t2) fun t5 w2 =>
 pw w2 (Instr.alloc 25 true (.tuple #[])) fun t6 w3 =>
 fl w3 t5 58 0 3 fun t15 => bt .lss 3 t15 (i6 0) fun t16 => sJoin (fun K4 => gIf t16 false (fl w3 t5 58 0 3 fun t19 => pp (Builtin.len_ #[23] 3 #[t1]) fun t21 => bf .geq 3 t19 t21 fun t22 => K4 [t22] w3) (K4 [undef] w3)) (fun s5 _d6 w7 =>
 oPick t16 tr_ (s5.getD 0 undef) fun t23 => sJoin (fun K8 => gIf t23 false (fl w7 t5 58 1 56 fun t26 => pp (Builtin.len_ #[56] 3 #[t26]) fun t27 => bt .gtr 3 t27 (i6 8) fun t28 => K8 [t28] w7) (K8 [undef] w7)) (fun s9 _d10 w11 =>
 oPick t23 tr_ (s9.getD 0 undef) fun t29 => oCond t29 (lo w11 25 t6 fun t30 => so w11 25 t6 t30 fun w12 => pq w12 (cellSem 25 t6) fun r13 => K (.tuple #[r13, (Value.slice Option.none 0 0), fa_]) w12) (lo w11 40 t3 fun t32 => ca n_types_Structs #[t32] w11 fun t33 w14 =>
 pe t33 0 fun _t34 => pe t33 1 fun t35 => bt .neq 29 t35 (i6 0) fun t37 => sJoin (fun K15 => gIf t37 false (pp (Instr.makeFunc (.func 92) #[] #[t3]) fun t40 => ca n_slices_ContainsFunc_api_Type_api_Type #[t1, t40] w14 fun t41 w19 =>
 K15 [t41] w19) (K15 [undef] w14)) (fun s16 _d17 w18 =>
 oPick t37 tr_ (s16.getD 0 undef) fun t42 => oCond t42 (lo w18 25 t6 fun t43 => so w18 25 t6 t43 fun w20 => pq w20 (cellSem 25 t6) fun r21 => K (.tuple #[r21, (Value.slice Option.none 0 0), fa_]) w20) (fl w18 t5 58 0 3 fun t46 => xl w18 23 t1 t46 25 fun t48 => so w18 25 t6 t48 fun w22 => fl w22 t5 58 1 56 fun t50 => pp (Builtin.len_ #[56] 3 #[t50]) fun t51 => sLoop [(Value.slice Option.none 0 0), (i6 0)] w22 (fun s24 _d25 w26 K23 =>
 bf .lss 3 (s24.getD 1 undef) t51 fun t53 => oCond t53 (sJoin (fun K27 =>
 xl w26 56 t50 (s24.getD 1 undef) 107 fun t55 => sJoin (fun K31 =>
 bt .eql 107 t55 (i6 (-1)) fun t58 => sJoin (fun K35 => gIf t58 true (fl w26 t6 25 0 22 fun t61 => bt .eql 22 t61 (Value.int .u8 3) fun t62 => K35 [t62] w26) (K35 [undef] w26)) (fun s36 _d37 w38 =>
 oPick t58 (s36.getD 0 undef) fa_ fun t63 => oCond t63 (K31 [(s24.getD 0 undef), (i6 1)] w38) (bt .eql 107 t55 (i6 (-1)) fun t66 => sJoin (fun K39 => gIf t66 true (fl w38 t6 25 0 22 fun t69 => bt .eql 22 t69 (Value.int .u8 4) fun t70 => K39 [t70] w38) (K39 [undef] w38)) (fun s40 _d41 w42 =>
 oPick t66 (s40.getD 0 undef) fa_ fun t71 => sJoin (fun K43 => gIf t71 true (fl w42 t6 25 1 4 fun t74 => K43 [t74] w42) (K43 [undef] w42)) (fun s44 _d45 w46 =>
 oPick t71 (s44.getD 0 undef) fa_ fun t75 => oCond t75 (K31 [(s24.getD 0 undef), (i6 2)] w46) (bt .eql 107 t55 (i6 (-1)) fun t78 => sJoin (fun K47 => gIf t78 true (fl w46 t6 25 0 22 fun t81 => bt .eql 22 t81 (Value.int .u8 4) fun t82 => K47 [t82] w46) (K47 [undef] w46)) (fun s48 _d49 w50 =>
 oPick t78 (s48.getD 0 undef) fa_ fun t83 => oCond t83 (K31 [(s24.getD 0 undef), (i6 3)] w50) (fl w50 t6 25 0 22 fun t86 => bt .neq 22 t86 (Value.int .u8 5) fun t87 => sJoin (fun K51 => gIf t87 false (bt .lss 107 t55 (i6 0) fun t90 => K51 [t90] w50) (K51 [undef] w50)) (fun s52 _d53 w54 =>
 oPick t87 tr_ (s52.getD 0 undef) fun t91 => sJoin (fun K55 => gIf t91 false (lo w54 40 t3 fun t94 => fl w54 t6 25 3 3 fun t96 => px 40 t94 t96 fun t97 => fl w54 t97 84 1 82 fun t99 => pp (Builtin.len_ #[82] 3 #[t99]) fun t100 => bf .geq 3 t55 t100 fun t101 => K55 [t101] w54) (K55 [undef] w54)) (fun s56 _d57 w58 =>
 oPick t91 tr_ (s56.getD 0 undef) fun t102 => oCond t102 (pp (Instr.build 25 #[]) fun t103 => so w58 25 t6 t103 fun w59 => pq w59 (cellSem 25 t6) fun r60 => K (.tuple #[r60, (Value.slice Option.none 0 0), fa_]) w59) (K31 [(s24.getD 0 undef), (i6 0)] w58))))))))))) (fun s32 _d33 w34 =>
 pw w34 (Instr.buildSlice 26 1 #[(0, (s32.getD 1 undef))]) fun t106 w61 =>
 pw w61 (Builtin.append_ #[26, 26] 26 #[(s32.getD 0 undef), t106]) fun t107 w62 =>
 bt .eql 3 (s32.getD 1 undef) (i6 0) fun t109 => oCond t109 (lo w62 40 t3 fun t110 => fl w62 t6 25 3 3 fun t112 => px 40 t110 t112 fun t113 => fl w62 t113 84 1 82 fun t115 => px 82 t115 t55 fun t117 => fl w62 t117 122 1 25 fun t119 => so w62 25 t6 t119 fun w63 => K27 [t107] w63) (fl w62 t6 25 4 23 fun t121 => xl w62 23 t121 (i6 0) 25 fun t123 => so w62 25 t6 t123 fun w64 => K27 [t107] w64))) (fun s28 _d29 w30 =>
 bt .add 3 (s24.getD 1 undef) (i6 1) fun t124 => K23 [(s28.getD 0 undef), t124] w30)) (lo w26 25 t6 fun t125 => so w26 25 t6 t125 fun w65 => pq w65 (cellSem 25 t6) fun r66 => K (.tuple #[r66, (s24.getD 0 undef), tr_]) w65)))))))
theorem ok_place_walk {t0 t1 t2 : Value} {w : World} {K : VW} (h : F_place_walk t0 t1 t2 w K) : oCall prog n_place_walk #[t0, t1, t2] w K :=
  okC false (.s (.r (rz 5 0 42)) (.s (.s (.r (ra 4 0 4 (.grp 17 false (ri 5 4 4) [22] (ra 2 9 0 (.grp 24 false (ri 4 11 4) [28] (rz 1 15 0)))))) (.c (.s (.r (rz 4 0 9)) (.n)) (.n))) (.s (.s (.r (rz 7 0 9)) (.s (.r (ra 3 0 0 (.grp 38 false (ri 3 3 32) [41] (rz 1 6 0)))) (.c (.s (.r (rz 4 0 9)) (.n)) (.n)))) (.s (.r (rz 6 0 2320)) (.s (.s (.r (rz 4 0 4)) (.b (.lp [7, 52] (.s (.r (rz 1 0 0)) (.s (.c (.n) (.n)) (.j [7] (.b (.s (.r (rz 3 0 4)) (.s (.r (rz 1 0 0)) (.j [7, 13] (.b (.s (.r (ra 3 0 0 (.grp 59 true (ri 3 3 4) [62] (rz 2 6 0)))) (.c (.r (rz 1 0 0)) (.s (.r (ra 3 0 0 (.grp 67 true (ri 3 3 4) [70] (ra 2 6 0 (.grp 72 true (ri 2 8 4) [74] (rz 2 10 0)))))) (.c (.r (rz 1 0 0)) (.s (.r (ra 3 0 0 (.grp 79 true (ri 3 3 4) [82] (rz 2 6 0)))) (.c (.r (rz 1 0 0)) (.s (.r (ra 4 0 4 (.grp 88 false (ri 2 4 0) [90] (ra 2 6 0 (.grp 92 false (ri 9 8 4164) [101] (rz 2 17 0)))))) (.c (.s (.r (rz 4 0 8)) (.n)) (.n)))))))))) (.s (.r (rz 5 0 160)) (.s (.r (rz 2 0 0)) (.c (.r (rz 11 0 2360337)) (.r (rz 5 0 580))))))))) (.r (rz 2 0 0)))))))) (.s (.r (rz 5 0 33)) (.n))))))) func67 rfl (by kernel_rfl) (by kernel_rfl) h

/- 92: loanword/place.walk$1 -/
def F_place_walk_1 (t0 t1 : Value) (w : World) (K : VW) : Prop :=
 pw w (Instr.box 25 t0) fun t2 w1 =>
 lo w1 40 t1 fun t4 => lo w1 25 t2 fun t5 => ca n_types_May #[t4, t5] w1 fun t6 w2 =>
 pp (Op.unary .not t6) fun t7 => K t7 w2
theorem ok_place_walk_1 {t0 t1 : Value} {w : World} {K : VW} (h : F_place_walk_1 t0 t1 w K) : oCall prog n_place_walk_1 #[t0, t1] w K :=
  okC false (.s (.r (rz 2 0 2)) (.s (.r (rz 5 0 37)) (.n))) func92 rfl (by kernel_rfl) (by kernel_rfl) h

end Go.Proofs.Try
end

section
namespace Go.Proofs

open Go.Sh

set_option maxRecDepth 100000

set_option linter.unusedSimpArgs false

set_option linter.unusedVariables false

theorem c_IndexFunc_intW {f : Int → Bool} {fv : Value} {w : World} (hf : ∀ (x : Int) (K : Value → World → Prop), K (.bool (f x)) w → oCallV Try.prog fv #[.int .i64 x] w K) {p : Option Addr} {l : List Int} {cap : Nat} {K : Value → World → Prop}
    (hl : Sl w p (ints l)) (hb : l.length ≤ 1000000000) (h : ∀ i : Int, (0 ≤ i ↔ l.any f = true) → K (.int .i64 i) w) : oCall Try.prog Try.n_slices_IndexFunc_int_int #[.slice p l.length cap, fv] w K := by
  refine Try.ok_slices_IndexFunc_int_int ?_
  unfold Try.F_slices_IndexFunc_int_int
  (first | refine s_p ?_ | refine s_c (by omega) ?_)
  refine l_intro (ι := Nat) (fun i => [.int .i64 i]) (fun i w' => w' = w ∧ i ≤ l.length ∧ (l.take i).any f = false) (fun i => l.length - i) 0 rfl ⟨rfl, Nat.zero_le _, by simp⟩ ?_
  rintro i d w' ⟨rfl, hi, hn⟩ K6 hK6
  simp only [List.getD_cons_zero]
  (first | refine s_p ?_ | refine s_c (by omega) ?_)
  refine c_if (fun hlt => ?_) (fun hge => ?_)
  · have hlt : i < l.length := by omega
    obtain ⟨b, off, rfl, hc⟩ := hl.at (i := i) (by rw [ints_len]; exact hlt)
    (first | refine s_p ?_ | refine s_c (by omega) ?_)
    have hv : (ints l)[i]'(by rw [ints_len]; exact hlt) = .int .i64 l[i] := by simp [ints]
    rw [hv] at hc
    refine s_ld1 (by simpa using hc) ?_
    refine hf _ _ ?_
    have ht : (l.take (i + 1)).any f = ((l.take i).any f || f l[i]) := by
      rw [List.take_succ_eq_append_getElem hlt, List.any_append]; simp only [List.any_cons, List.any_nil, Bool.or_false]
    refine c_b (fun hy => ?_) (fun hno => ?_)
    · refine h _ ⟨fun _ => ?_, fun _ => Int.natCast_nonneg _⟩
      exact List.any_eq_true.2 ⟨l[i], List.getElem_mem hlt, hy⟩
    · (first | refine s_p ?_ | refine s_c (by omega) ?_)
      refine hK6 (i + 1) _ ⟨rfl, hlt, ?_⟩ (by omega)
      rw [ht, hn, hno]; rfl
  · have : i = l.length := by omega
    subst this
    rw [List.take_length] at hn
    exact h _ ⟨fun h => by omega, fun h => by rw [hn] at h; cases h⟩
theorem c_ContainsFunc_intW {f : Int → Bool} {fv : Value} {w : World} (hf : ∀ (x : Int) (K : Value → World → Prop), K (.bool (f x)) w → oCallV Try.prog fv #[.int .i64 x] w K) {p : Option Addr} {l : List Int} {cap : Nat} {K : Value → World → Prop}
    (hl : Sl w p (ints l)) (hb : l.length ≤ 1000000000) (h : K (.bool (l.any f)) w) : oCall Try.prog Try.n_slices_ContainsFunc_int_int #[.slice p l.length cap, fv] w K := by
  refine Try.ok_slices_ContainsFunc_int_int ?_
  unfold Try.F_slices_ContainsFunc_int_int
  refine c_IndexFunc_intW hf hl hb fun i hi => ?_
  (first | refine s_p ?_ | refine s_c (by omega) ?_)
  have e : decide (i ≥ 0) = l.any f := by
    by_cases hh : l.any f = true
    · rw [hh]; exact decide_eq_true (hi.2 hh)
    · rw [Bool.eq_false_iff.2 hh]; exact decide_eq_false fun h => hh (hi.1 h)
  rw [e]; exact h


abbrev zeroV : Value := .agg #[.int .u8 0, .bool false, .int .i64 0, .int .i64 0, .slice none 0 0]
abbrev zeroL : List Value := [.int .u8 0, .bool false, .int .i64 0, .int .i64 0, .slice none 0 0]
/-- a type in a new block -/
theorem ty_lit {r : Gh} {c : List Value} {t : TyD} (h : TyG r (.agg c.toArray) t) : bslT Try.prog 23 1 #[(0, .agg c.toArray)] = some (25, c) := by
  obtain ⟨q, cap, rfl, _⟩ := ty_form h
  kernel_rfl
theorem c_region_raw {f : Int → Int} {fv : Value} : ∀ (n : Nat) {t : TyD} {w : World} {r : Gh} {v : Value} {K : Value → World → Prop}, t.ht ≤ n → isB t = true → Holds r w → TyG r v t →
    (∀ x ∈ t.regs, ∀ (w : World) (K : Value → World → Prop), Holds r w → K (.int .i64 (f x)) w → oCallV Try.prog fv #[.int .i64 x] w K) →
    (∀ v' sn w', Ext w w' → New w sn w' → TyG sn v' (t.mapR f) → ChnG sn v' (t.mapR f) → K v' w') → oCall Try.prog Try.n_region_raw #[v, fv] w K := by
  intro n
  induction n with
  | zero => intro t w r v K h; cases t; simp [TyD.ht] at h
  | succ n ih =>
    intro t w r v K hn hB hr hv hf h
    obtain ⟨p, cap, rfl, hp, hc, hof⟩ := hv
    refine Try.ok_region_raw ?_
    unfold Try.F_region_raw
    have S := St.start hr
    refine S.box fun b2 w1 S => ?_
    have S : StX noX w r w1 [.cell b2 (tyL t p cap) 25] := S
    refine S.al fun b4 w2 S => ?_
    refine j_intro (fun _ w' => StX noX w r w' [.cell b4 zeroL 25, .cell b2 [.int .u8 t.k, .bool t.m, .int .i64 (if t.k = 4 then f t.re else t.re), .int .i64 t.st, .slice p t.of.length cap] 25]) (fun K3 hK3 => ?_) ?_
    · (repeat (first | refine s_p ?_ | refine s_c (by omega) ?_ | refine S.ld ?_ | refine S.ldB ?_ | refine S.ce ?_ | refine S.ceB ?_ | refine s_q ?_ | refine s_qc (by omega) ?_ | refine n_some ?_ | rw [List.getD_cons_zero] | rw [List.getD_cons_succ]))
      refine c_if (fun hk => ?_) (fun hk => ?_)
      · (repeat (first | refine s_p ?_ | refine s_c (by omega) ?_ | refine S.ld ?_ | refine S.ldB ?_ | refine S.ce ?_ | refine S.ceB ?_ | refine s_q ?_ | refine s_qc (by omega) ?_ | refine n_some ?_ | rw [List.getD_cons_zero] | rw [List.getD_cons_succ]))
        refine hf t.re (regs_ref hk) _ _ S.holds ?_
        (repeat (first | refine s_p ?_ | refine s_c (by omega) ?_ | refine S.ld ?_ | refine S.ldB ?_ | refine S.ce ?_ | refine S.ceB ?_ | refine s_q ?_ | refine s_qc (by omega) ?_ | refine n_some ?_ | rw [List.getD_cons_zero] | rw [List.getD_cons_succ]))
        refine S.st (b := b2) fun w3 S => ?_
        refine hK3 [] _ ?_
        rw [if_pos hk]; exact S
      · refine hK3 [] _ ?_
        rw [if_neg hk]; exact S
    clear S
    rintro _ w6 S d6
    rcases isB_cases hB with ho | ⟨u, ho, hu⟩
    · have hl : t.of.length = 0 := by rw [ho]; rfl
      rw [mapR_nil ho] at h
      generalize (if t.k = 4 then f t.re else t.re) = re' at S h
      rw [hl] at S
      refine j_intro (fun _ w' => w' = w6) (fun K3 hK3 => ?_) ?_
      · (repeat (first | refine s_p ?_ | refine s_c (by omega) ?_ | refine S.ld ?_ | refine S.ldB ?_ | refine S.ce ?_ | refine S.ceB ?_ | refine s_q ?_ | refine s_qc (by omega) ?_ | refine n_some ?_ | rw [List.getD_cons_zero] | rw [List.getD_cons_succ]))
        exact hK3 [] _ rfl
      rintro _ _ rfl d7
      (repeat (first | refine s_p ?_ | refine s_c (by omega) ?_ | refine S.ld ?_ | refine S.ldB ?_ | refine S.ce ?_ | refine S.ceB ?_ | refine s_q ?_ | refine s_qc (by omega) ?_ | refine n_some ?_ | rw [List.getD_cons_zero] | rw [List.getD_cons_succ]))
      refine S.stB (b := b4) fun w7 S => ?_
      (repeat (first | refine s_p ?_ | refine s_c (by omega) ?_ | refine S.ld ?_ | refine S.ldB ?_ | refine S.ce ?_ | refine S.ceB ?_ | refine s_q ?_ | refine s_qc (by omega) ?_ | refine n_some ?_ | rw [List.getD_cons_zero] | rw [List.getD_cons_succ]))
      exact h _ nothing _ S.ext New.nothing ⟨p, cap, rfl, hp, by rw [hl] at hc; exact hc, trivial⟩ .nil
    · obtain ⟨ba, oa, rfl, c, hc1, hcell, ht⟩ := NdG.of hof (i := 0) (by rw [ho]; exact Nat.one_pos)
      have ht : TyG r (.agg c.toArray) u := by simpa [ho] using ht
      have hl : t.of.length = 1 := by rw [ho]; rfl
      rw [map_in ho] at h
      generalize (if t.k = 4 then f t.re else t.re) = re' at S h
      rw [hl] at S
      refine j_intro (fun _ w' => ∃ b9 sn c', StX noX w (r.or (sn.or (one b9 c' 25))) w' [.cell b4 zeroL 25, .cell b2 [.int .u8 t.k, .bool t.m, .int .i64 re', .int .i64 t.st, .slice (some ⟨b9, 0, none⟩) 1 1] 25] ∧
        (∀ o, ¬ sn b9 o) ∧ c'.length = 5 ∧ TyG sn (.agg c'.toArray) (u.mapR f) ∧ ChnG sn (.agg c'.toArray) (u.mapR f) ∧ Above w (sn.or (one b9 c' 25))) (fun K3 hK3 => ?_) ?_
      · (repeat (first | refine s_p ?_ | refine s_c (by omega) ?_ | refine S.ld ?_ | refine S.ldB ?_ | refine S.ce ?_ | refine S.ceB ?_ | refine s_q ?_ | refine s_qc (by omega) ?_ | refine n_some ?_ | rw [List.getD_cons_zero] | rw [List.getD_cons_succ]))
        (repeat (first | refine s_p ?_ | refine s_c (by omega) ?_ | refine S.ld ?_ | refine S.ldB ?_ | refine S.ce ?_ | refine S.ceB ?_ | refine s_q ?_ | refine s_qc (by omega) ?_ | refine n_some ?_ | rw [List.getD_cons_zero] | rw [List.getD_cons_succ]))
        refine s_ldN (n := 5) hc1 (fun j v hj => by simpa using S.at (hcell j v hj)) ?_
        refine ih (by have := TyD.ht_of (t := t) (u := u) (by rw [ho]; exact List.mem_singleton.2 rfl); omega) hu S.holds ht (fun x hx => hf x (regs_sub ho hx)) fun v' sn w13 e13 n13 hv' hch => ?_
        obtain ⟨S, dx, ax⟩ := S.tell e13 n13
        obtain ⟨c', rfl, hc', _⟩ := hv'.rep
        refine S.lit (ty_lit hv') fun b9 w14 S => ?_
        have hm := S.mine (.cell b9 c' 25) (by simp) b9 rfl
        (first | refine s_p ?_ | refine s_c (by omega) ?_)
        refine S.st (b := b2) fun w15 S => ?_
        refine hK3 [] _ ⟨b9, sn, c', (S.frzAt b9).reGh, fun o ho => hm.2 o (.inr ho), hc', hv', hch, ?_⟩
        rintro b o (hb | ⟨rfl, _⟩)
        · exact ax b o hb
        · exact hm.1.resolve_right id
      clear S
      rintro _ w7 ⟨b9, sn, c', S, hno, hc', hv', hch, hab⟩ d7
      (repeat (first | refine s_p ?_ | refine s_c (by omega) ?_ | refine S.ld ?_ | refine S.ldB ?_ | refine S.ce ?_ | refine S.ceB ?_ | refine s_q ?_ | refine s_qc (by omega) ?_ | refine n_some ?_ | rw [List.getD_cons_zero] | rw [List.getD_cons_succ]))
      refine S.stB (b := b4) fun w8 S => ?_
      (repeat (first | refine s_p ?_ | refine s_c (by omega) ?_ | refine S.ld ?_ | refine S.ldB ?_ | refine S.ce ?_ | refine S.ceB ?_ | refine s_q ?_ | refine s_qc (by omega) ?_ | refine n_some ?_ | rw [List.getD_cons_zero] | rw [List.getD_cons_succ]))
      exact h _ _ _ S.ext (S.newOf hab) (ty_one hv') (.one hno hc' hv' hch)
theorem bn_f {a : Bool} (h : false = !a) : a = true := by cases a; cases h; rfl
theorem bn_t {a : Bool} (h : true = !a) : a = false := by cases a; rfl; cases h
theorem inR_iff {n : Nat} {x : Int} : inR n x = !(decide (x < 0) || decide ((n : Int) ≤ x)) := by
  unfold inR
  by_cases h : x < 0
  · rw [decide_eq_true h, decide_eq_false (show ¬ 0 ≤ x by omega)]; rfl
  · rw [decide_eq_false h, decide_eq_true (show 0 ≤ x by omega)]
    by_cases h2 : x < (n : Int)
    · rw [decide_eq_true h2, decide_eq_false (show ¬ (n : Int) ≤ x by omega)]; rfl
    · rw [decide_eq_false h2, decide_eq_true (show (n : Int) ≤ x by omega)]; rfl
theorem not_all_inR (l : List Int) (n : Nat) : (l.any fun x => decide (x < 0) || decide ((n : Int) ≤ x)) = !l.all (inR n) := by
  rw [List.not_all_eq_any_not]
  congr 1; funext x; rw [inR_iff, Bool.not_not]
theorem c_region_Turn {t : TyD} {l : List Int} {p : Option Addr} {cap : Nat} {w : World} {r : Gh} {v : Value} {K : Value → World → Prop} (hr : Holds r w) (hv : TyG r v t) (hl : Ob r fun w => Sl w p (ints l)) (hb : l.length ≤ 1000000)
    (h : ∀ v' sn w', Ext w w' → New w sn w' → TyG sn v' (turnT t l).1 → ChnG sn v' (turnT t l).1 → K (.tuple #[v', .int .i64 (turnT t l).2]) w') : oCall Try.prog Try.n_region_Turn #[v, .slice p l.length cap] w K := by
  refine Try.ok_region_Turn ?_
  unfold Try.F_region_Turn
  have hv0 := hv
  obtain ⟨p1, cap1, rfl, _⟩ := hv
  have S := St.start hr
  refine S.box fun b2 w1 S => ?_
  refine S.box fun b3 w2 S => ?_
  refine S.al fun b4 w3 S => ?_
  (repeat (first | refine s_p ?_ | refine s_c (by omega) ?_ | refine S.ld ?_ | refine S.ldB ?_ | refine S.ce ?_ | refine S.ceB ?_ | refine s_q ?_ | refine s_qc (by omega) ?_ | refine n_some ?_ | rw [List.getD_cons_zero] | rw [List.getD_cons_succ]))
  refine c_types_Own S.holds hv0 fun vx sx w4 e4 n4 hx hcx => ?_
  have S := S.go e4
  obtain ⟨px, capx, rfl, _⟩ := hx
  (first | refine s_p ?_ | refine s_c (by omega) ?_)
  (first | refine s_p ?_ | refine s_c (by omega) ?_)
  refine S.al fun b6 w5 S => ?_
  refine S.stB (b := b6) fun w6 S => ?_
  (first | refine s_p ?_ | refine s_c (by omega) ?_)
  cases hB : isB t with
  | false =>
    refine c_t (by simp [hB]) ?_
    rw [turn_no hB] at h
    refine p_build (cs := #[.int .u8 0, .bool false, .int .i64 0, .int .i64 0, .slice none 0 0]) (by kernel_rfl) ?_
    refine S.stB (b := b4) fun w7 S => ?_
    (repeat (first | refine s_p ?_ | refine s_c (by omega) ?_ | refine S.ld ?_ | refine S.ldB ?_ | refine S.ce ?_ | refine S.ceB ?_ | refine s_q ?_ | refine s_qc (by omega) ?_ | refine n_some ?_ | rw [List.getD_cons_zero] | rw [List.getD_cons_succ]))
    exact h _ nothing _ S.ext New.nothing ty_leaf .nil
  | true =>
    refine c_f (by simp [hB]) ?_
    (repeat (first | refine s_p ?_ | refine s_c (by omega) ?_ | refine S.ld ?_ | refine S.ldB ?_ | refine S.ce ?_ | refine S.ceB ?_ | refine s_q ?_ | refine s_qc (by omega) ?_ | refine n_some ?_ | rw [List.getD_cons_zero] | rw [List.getD_cons_succ]))
    refine c_types_Regions S.holds hv0 fun v7 w7 e7 o7 => ?_
    have S := S.go e7
    obtain ⟨p7, cap7, rfl, _, _, _, hs7⟩ := own_shape o7
    (first | refine s_p ?_ | refine s_c (by omega) ?_)
    have hrT : regsT t = t.regs := by rw [regsT, hB]; rfl
    rw [hrT] at hs7 ⊢
    have h48 := regs_le48 hB
    refine c_ContainsFunc_intW (f := fun x => decide (x < 0) || decide ((l.length : Int) ≤ x)) (fun x K hK => ?_) hs7 (by omega) ?_
    · refine v_f11 (by kernel_rfl) ?_
      refine Try.ok_region_Turn_1 ?_
      unfold Try.F_region_Turn_1
      (first | refine s_p ?_ | refine s_c (by omega) ?_)
      refine j_borH (c := decide ((l.length : Int) ≤ x)) (fun _ K2 hK2 => ?_) hK
      (repeat (first | refine s_p ?_ | refine s_c (by omega) ?_ | refine S.ld ?_ | refine S.ldB ?_ | refine S.ce ?_ | refine S.ceB ?_ | refine s_q ?_ | refine s_qc (by omega) ?_ | refine n_some ?_ | rw [List.getD_cons_zero] | rw [List.getD_cons_succ]))
      exact hK2
    rw [not_all_inR]
    cases hA : t.regs.all (inR l.length) with
    | false =>
      have hT : turnT t l = (zeroD, 2) := by rw [turnT, turnB, hB, hA]; rfl
      rw [hT] at h
      refine c_t rfl ?_
      refine p_build (cs := #[.int .u8 0, .bool false, .int .i64 0, .int .i64 0, .slice none 0 0]) (by kernel_rfl) ?_
      refine S.stB (b := b4) fun w8 S => ?_
      (repeat (first | refine s_p ?_ | refine s_c (by omega) ?_ | refine S.ld ?_ | refine S.ldB ?_ | refine S.ce ?_ | refine S.ceB ?_ | refine s_q ?_ | refine s_qc (by omega) ?_ | refine n_some ?_ | rw [List.getD_cons_zero] | rw [List.getD_cons_succ]))
      exact h _ nothing _ S.ext New.nothing ty_leaf .nil
    | true =>
      have hT : turnT t l = (t.mapR (atL l), 0) := by rw [turnT, turnB, hB, hA]; rfl
      rw [hT] at h
      refine c_f rfl ?_
      (repeat (first | refine s_p ?_ | refine s_c (by omega) ?_ | refine S.ld ?_ | refine S.ldB ?_ | refine S.ce ?_ | refine S.ceB ?_ | refine s_q ?_ | refine s_qc (by omega) ?_ | refine n_some ?_ | rw [List.getD_cons_zero] | rw [List.getD_cons_succ]))
      have S := S.frzAt b3
      refine c_region_raw (f := atL l) t.ht (Nat.le_refl _) hB S.holds hv0.up (fun x hx w K hr hK => ?_) fun v8 sn w8 e8 n8 h8 hc8 => ?_
      · refine v_f11 (by kernel_rfl) ?_
        refine Try.ok_region_Turn_2 ?_
        unfold Try.F_region_Turn_2
        have hin := List.all_eq_true.1 hA x hx
        rw [inR, Bool.and_eq_true, decide_eq_true_eq, decide_eq_true_eq] at hin
        have S := St.start hr
        have B : Blk w b3 [.slice p l.length cap] 26 := hr b3 _ (.inr ⟨rfl, rfl⟩)
        refine s_ld1 (v := .slice p l.length cap) (by rw [B.cell]; rfl) ?_
        obtain ⟨bp, op, rfl, hcell⟩ := ints_at (S.at hl) (i := x.toNat) (by omega)
        (first | refine s_p ?_ | refine s_c (by omega) ?_)
        refine s_ld1 (by simpa using hcell) ?_
        have : atL l x = l[x.toNat] := by rw [atL, List.getD_eq_getElem?_getD, List.getElem?_eq_getElem (by omega)]; rfl
        rw [← this]
        exact hK
      obtain ⟨S, d8, a8⟩ := S.tell e8 n8
      have h80 := h8
      obtain ⟨p8, cap8, rfl, _⟩ := h8
      refine S.stB (b := b4) fun w9 S => ?_
      (repeat (first | refine s_p ?_ | refine s_c (by omega) ?_ | refine S.ld ?_ | refine S.ldB ?_ | refine S.ce ?_ | refine S.ceB ?_ | refine s_q ?_ | refine s_qc (by omega) ?_ | refine n_some ?_ | rw [List.getD_cons_zero] | rw [List.getD_cons_succ]))
      exact h _ sn _ S.ext (S.newOf a8) h80 hc8
theorem c_region_Erase {t : TyD} {w : World} {r : Gh} {v : Value} {K : Value → World → Prop} (hr : Holds r w) (hv : TyG r v t)
    (h : ∀ v' sn w', Ext w w' → New w sn w' → TyG sn v' (eraseT t).1 → ChnG sn v' (eraseT t).1 → K (.tuple #[v', .int .i64 (eraseT t).2]) w') : oCall Try.prog Try.n_region_Erase #[v] w K := by
  refine Try.ok_region_Erase ?_
  unfold Try.F_region_Erase
  have hv0 := hv
  obtain ⟨p1, cap1, rfl, _⟩ := hv
  have S := St.start hr
  refine S.box fun b2 w1 S => ?_
  refine S.al fun b4 w3 S => ?_
  (repeat (first | refine s_p ?_ | refine s_c (by omega) ?_ | refine S.ld ?_ | refine S.ldB ?_ | refine S.ce ?_ | refine S.ceB ?_ | refine s_q ?_ | refine s_qc (by omega) ?_ | refine n_some ?_ | rw [List.getD_cons_zero] | rw [List.getD_cons_succ]))
  refine c_types_Own S.holds hv0 fun vx sx w4 e4 n4 hx hcx => ?_
  have S := S.go e4
  obtain ⟨px, capx, rfl, _⟩ := hx
  (first | refine s_p ?_ | refine s_c (by omega) ?_)
  (first | refine s_p ?_ | refine s_c (by omega) ?_)
  refine S.al fun b6 w5 S => ?_
  refine S.stB (b := b6) fun w6 S => ?_
  (first | refine s_p ?_ | refine s_c (by omega) ?_)
  cases hB : isB t with
  | false =>
    refine c_t (by simp [hB]) ?_
    have hT : eraseT t = (zeroD, 2) := by rw [eraseT, hB]; rfl
    rw [hT] at h
    refine p_build (cs := #[.int .u8 0, .bool false, .int .i64 0, .int .i64 0, .slice none 0 0]) (by kernel_rfl) ?_
    refine S.stB (b := b4) fun w7 S => ?_
    (repeat (first | refine s_p ?_ | refine s_c (by omega) ?_ | refine S.ld ?_ | refine S.ldB ?_ | refine S.ce ?_ | refine S.ceB ?_ | refine s_q ?_ | refine s_qc (by omega) ?_ | refine n_some ?_ | rw [List.getD_cons_zero] | rw [List.getD_cons_succ]))
    exact h _ nothing _ S.ext New.nothing ty_leaf .nil
  | true =>
    refine c_f (by simp [hB]) ?_
    have hT : eraseT t = (t.mapR fBare, 0) := by rw [eraseT, hB]; rfl
    rw [hT] at h
    (repeat (first | refine s_p ?_ | refine s_c (by omega) ?_ | refine S.ld ?_ | refine S.ldB ?_ | refine S.ce ?_ | refine S.ceB ?_ | refine s_q ?_ | refine s_qc (by omega) ?_ | refine n_some ?_ | rw [List.getD_cons_zero] | rw [List.getD_cons_succ]))
    refine c_region_raw (f := fBare) t.ht (Nat.le_refl _) hB S.holds hv0 (fun x hx w K hr hK => ?_) fun v8 sn w8 e8 n8 h8 hc8 => ?_
    · refine v_f10 (by kernel_rfl) ?_
      refine Try.ok_region_Erase_1 ?_
      unfold Try.F_region_Erase_1
      exact hK
    obtain ⟨S, d8, a8⟩ := S.tell e8 n8
    have h80 := h8
    obtain ⟨p8, cap8, rfl, _⟩ := h8
    refine S.stB (b := b4) fun w9 S => ?_
    (repeat (first | refine s_p ?_ | refine s_c (by omega) ?_ | refine S.ld ?_ | refine S.ldB ?_ | refine S.ce ?_ | refine S.ceB ?_ | refine s_q ?_ | refine s_qc (by omega) ?_ | refine n_some ?_ | rw [List.getD_cons_zero] | rw [List.getD_cons_succ]))
    exact h _ sn _ S.ext (S.newOf a8) h80 hc8
/-! ### The reference -/

end Go.Proofs
end

section
namespace Go.Proofs

open Go.Sh

set_option maxRecDepth 100000

set_option linter.unusedSimpArgs false

set_option linter.unusedVariables false

theorem lay_k (t : TyD) (l : List Int) : (t.lay l).k = t.k ∧ (t.lay l).m = t.m ∧ (t.lay l).st = t.st := by
  cases t with | mk k m re st of => exact ⟨rfl, rfl, rfl⟩
theorem lay_of_nil {t : TyD} {l : List Int} (h : t.of = []) : (t.lay l).of = [] := by rw [lay_nil h]; rfl
theorem lay_of_one {t u : TyD} {l : List Int} (h : t.of = [u]) : (t.lay l).of = [u.lay (if t.k = 4 then l.tail else l)] := by rw [lay_one h]; rfl
theorem look_re {s : Int} {n : Nat} {t : TyD} (h : lookB s (n + 1) t = true) (h4 : t.k = 4) : -1 ≤ t.re := by
  rw [lookB_succ, if_neg (by omega), if_neg (by omega), if_neg (by omega), if_pos h4] at h
  simp only [Bool.and_eq_true, decide_eq_true_eq] at h
  exact h.1.1
theorem look_lay {s : Int} : ∀ (n : Nat) {t : TyD} {l : List Int}, lookB s n t = true → t.regs.length ≤ l.length → (∀ x ∈ l, -1 ≤ x) → lookB s n (t.lay l) = true := by
  intro n
  induction n with
  | zero => intro t l h; cases h
  | succ n ih =>
    intro t l h hl hx
    obtain ⟨hk1, hk2, hk3⟩ := lay_k t l
    rcases look_cases h with ⟨ho, hk⟩ | ⟨u, ho, hu, hk⟩
    · have e : t.lay l = t := by
        have he : t = .mk t.k t.m t.re t.st t.of := by cases t; rfl
        rw [lay_nil ho, if_neg (by omega)]
        rw [ho] at he; exact he.symm
      rw [e]; exact h
    · have hreg := congrArg List.length (regs_one ho)
      rw [List.length_append] at hreg
      have hin : lookB s n (u.lay (if t.k = 4 then l.tail else l)) = true := ih hu (by
        split
        · rename_i h4
          rw [if_pos h4] at hreg
          rw [List.length_tail]; simp at hreg; omega
        · omega) (fun x hxm => hx x (by
          split at hxm
          · exact List.mem_of_mem_tail hxm
          · exact hxm))
      rw [lookB_succ] at h ⊢
      rw [hk1, hk2, hk3]
      rw [lay_of_one ho] at *
      rw [if_neg (by omega), if_neg (by omega)] at h ⊢
      rcases hk with h3 | h4
      · rw [if_pos h3] at h ⊢
        have hre : (t.lay l).re = t.re := by rw [lay_one ho]; simp only [TyD.re]; rw [if_neg (by omega)]
        have hib : inB s n (t.lay l) = true := by rw [lay_one ho]; exact hin
        rw [hre, hib]
        simp only [Bool.and_eq_true, decide_eq_true_eq, List.length_singleton] at h ⊢
        exact ⟨h.1, trivial, trivial⟩
      · rw [if_neg (by omega), if_pos h4] at h ⊢
        have hpos : 0 < l.length := by rw [if_pos h4] at hreg; simp at hreg; omega
        have hre : (t.lay l).re = l.headD 0 := by rw [lay_one ho]; simp only [TyD.re]; rw [if_pos h4]
        have hib : inB s n (t.lay l) = true := by rw [lay_one ho]; exact hin
        rw [hre, hib]
        simp only [Bool.and_eq_true, decide_eq_true_eq, List.length_singleton] at h ⊢
        refine ⟨⟨?_, h.1.2⟩, trivial, trivial⟩
        cases l with
        | nil => simp at hpos
        | cons x l => exact hx x List.mem_cons_self
/-! ### Words, drops -/

end Go.Proofs
end

section
namespace Go.Proofs

open Go.Sh

set_option linter.unusedVariables false

theorem numC_take {l : List Int} {i : Nat} (h : i < l.length) : numC (l.take (i + 1)) = numC (l.take i) + (if l[i] < 0 then 1 else 0) := by
  induction l generalizing i with
  | nil => cases h
  | cons a l ih =>
    cases i with
    | zero => simp [numC]
    | succ i =>
      rw [List.take_succ_cons, List.take_succ_cons, numC, numC, ih (by simpa using h), List.getElem_cons_succ]; omega
theorem numK_at {l : List Int} {c : Int} {i : Nat} (h : i < l.length) : (numK l c)[i]'(by rw [numK_len]; exact h) = if l[i] < 0 then c + numC (l.take i) else l[i] := by
  induction l generalizing i c with
  | nil => cases h
  | cons a l ih =>
    cases i with
    | zero =>
      by_cases ha : a < 0
      · simp [numK, ha, numC]
      · simp [numK, ha]
    | succ i =>
      have hi : i < l.length := by simpa using h
      by_cases ha : a < 0
      · have := ih (c := c + 1) hi
        simp only [numK, if_pos ha, List.getElem_cons_succ, List.take_succ_cons, numC]
        rw [this]; split <;> omega
      · have := ih (c := c) hi
        simp only [numK, if_neg ha, List.getElem_cons_succ, List.take_succ_cons, numC]
        rw [this]; split <;> omega
theorem locC_pos : ∀ l : List TyD, 0 ≤ locC l
  | [] => Int.le_refl _
  | t :: l => by have := locC_pos l; have := (numC_le (regsT t)).1; rw [locC]; omega
theorem locC_take {l : List TyD} {i : Nat} (h : i < l.length) : locC (l.take (i + 1)) = locC (l.take i) + numC (regsT l[i]) := by
  induction l generalizing i with
  | nil => cases h
  | cons a l ih =>
    cases i with
    | zero => simp [locC]
    | succ i => rw [List.take_succ_cons, List.take_succ_cons, locC, locC, ih (by simpa using h), List.getElem_cons_succ]; omega
theorem locK_at {l : List TyD} {c : Int} {i : Nat} (h : i < l.length) : (locK l c)[i]'(by rw [locK_len]; exact h) = l[i].lay (numK (regsT l[i]) (c + locC (l.take i))) := by
  induction l generalizing i c with
  | nil => cases h
  | cons a l ih =>
    cases i with
    | zero => simp [locK, locC]
    | succ i =>
      have := ih (c := c + numC (regsT a)) (i := i) (by simpa using h)
      simp only [locK, List.getElem_cons_succ, List.take_succ_cons, locC]
      rw [this, Int.add_assoc]
theorem locK_snoc {l : List TyD} {c : Int} {i : Nat} (h : i < l.length) : locK (l.take (i + 1)) c = locK (l.take i) c ++ [l[i].lay (numK (regsT l[i]) (c + locC (l.take i)))] := by
  induction l generalizing i c with
  | nil => cases h
  | cons a l ih =>
    cases i with
    | zero => simp [locK, locC]
    | succ i =>
      have := ih (c := c + numC (regsT a)) (i := i) (by simpa using h)
      rw [List.take_succ_cons, List.take_succ_cons, locK, locK, this, locC, List.getElem_cons_succ, Int.add_assoc]; rfl
theorem atC_take {u : UnD} {l : List PtD} {i : Nat} (h : i < l.length) : atC u (l.take (i + 1)) = atC u (l.take i) + ptN u l[i] := by
  induction l generalizing i with
  | nil => cases h
  | cons a l ih =>
    cases i with
    | zero => simp [atC]
    | succ i => rw [List.take_succ_cons, List.take_succ_cons, atC, atC, ih (by simpa using h), List.getElem_cons_succ]; omega
theorem atK_snoc {u : UnD} {l : List PtD} {c : Int} {i : Nat} (h : i < l.length) : atK u (l.take (i + 1)) c = atK u (l.take i) c ++ [if ptN u l[i] = 0 then -1 else c + atC u (l.take i)] := by
  induction l generalizing i c with
  | nil => cases h
  | cons a l ih =>
    cases i with
    | zero => simp [atK, atC]
    | succ i =>
      have := ih (c := c + ptN u a) (i := i) (by simpa using h)
      rw [List.take_succ_cons, List.take_succ_cons, atK, atK, this, atC, List.getElem_cons_succ, Int.add_assoc]; rfl
theorem atK_at {u : UnD} {l : List PtD} {c : Int} {i : Nat} (h : i < l.length) : (atK u l c)[i]'(by rw [atK_len]; exact h) = if ptN u l[i] = 0 then -1 else c + atC u (l.take i) := by
  induction l generalizing i c with
  | nil => cases h
  | cons a l ih =>
    cases i with
    | zero => simp [atK, atC]
    | succ i =>
      have := ih (c := c + ptN u a) (i := i) (by simpa using h)
      simp only [atK, List.getElem_cons_succ, List.take_succ_cons, atC]
      rw [this, Int.add_assoc]
theorem atC_part {u : UnD} {l : List PtD} (h : ∀ p ∈ l, 0 ≤ ptN u p) (i : Nat) : 0 ≤ atC u (l.take i) ∧ atC u (l.take i) ≤ atC u l := by
  induction l generalizing i with
  | nil => simp [atC]
  | cons a l ih =>
    have ha := h a List.mem_cons_self
    cases i with
    | zero =>
      have := ih (fun p hp => h p (List.mem_cons_of_mem _ hp)) l.length
      rw [List.take_length] at this
      rw [List.take_zero, atC, atC]; omega
    | succ i =>
      have := ih (fun p hp => h p (List.mem_cons_of_mem _ hp)) i
      rw [List.take_succ_cons, atC, atC]; omega
end Go.Proofs
end

section
namespace Go.Proofs

open Go.Sh

set_option linter.unusedVariables false

/-- eight rows of eight -/
def tabC (f : Nat → Nat → Bool) : List Value := (List.range 64).map fun k => .bool (f (k / 8) (k % 8))
theorem tabC_len {f : Nat → Nat → Bool} : (tabC f).length = 64 := by rw [tabC, List.length_map, List.length_range]
theorem tabC_at {f : Nat → Nat → Bool} {k : Nat} (h : k < 64) : (tabC f)[k]? = some (.bool (f (k / 8) (k % 8))) := by
  rw [tabC, List.getElem?_map, List.getElem?_range h]; rfl
theorem tabC_get {f : Nat → Nat → Bool} {x y : Nat} (hx : x < 8) (hy : y < 8) : (tabC f)[x * 8 + y]? = some (.bool (f x y)) := by
  rw [tabC_at (by omega), show (x * 8 + y) / 8 = x by omega, show (x * 8 + y) % 8 = y by omega]
theorem tabC_ext {f g : Nat → Nat → Bool} (h : ∀ x y, x < 8 → y < 8 → f x y = g x y) : tabC f = tabC g := by
  refine List.map_congr_left fun k hk => ?_
  have := List.mem_range.1 hk
  rw [h _ _ (by omega) (by omega)]
theorem tabC_set {f : Nat → Nat → Bool} {x y : Nat} (hx : x < 8) (hy : y < 8) : (tabC f).set (x * 8 + y) (.bool true) = tabC fun a b => f a b || (decide (a = x) && decide (b = y)) := by
  refine List.ext_getElem? fun k => ?_
  by_cases hk : k < 64
  · rw [List.getElem?_set, tabC_at hk, tabC_at hk]
    by_cases e : x * 8 + y = k
    · rw [if_pos e, if_pos (by rw [tabC_len]; omega)]
      subst e
      rw [show (x * 8 + y) / 8 = x by omega, show (x * 8 + y) % 8 = y by omega]; simp
    · rw [if_neg e]
      by_cases e1 : k / 8 = x
      · rw [decide_eq_false (show ¬ k % 8 = y by omega), Bool.and_false, Bool.or_false]
      · rw [decide_eq_false e1, Bool.false_and, Bool.or_false]
  · rw [List.getElem?_eq_none (by rw [List.length_set, tabC_len]; omega), List.getElem?_eq_none (by rw [tabC_len]; omega)]
/-! ### What types imply -/

theorem pair_cons {x y : Int} {a : Int} {l : List Int} : pairB x y (a :: l) = ((decide (a = y) && l.contains x) || pairB x y l) := rfl
/-- a row marked up to i -/
theorem row_cons {l : List Int} {i : Nat} {x : Int} (h : i < l.length) : (l.take (i + 1)).contains x = ((l.take i).contains x || decide (x = l[i])) := by
  rw [List.take_succ_eq_append_getElem h, List.contains_eq_any_beq, List.any_append, ← List.contains_eq_any_beq]
  simp only [List.any_cons, List.any_nil, Bool.or_false]
  congr 1
theorem must_take {x y : Int} {l : List TyD} {i : Nat} (h : i < l.length) : mustG (l.take (i + 1)) x y = (mustG (l.take i) x y || pairB x y (regsT l[i])) := by
  rw [List.take_succ_eq_append_getElem h, mustG, List.any_append, mustG]
  simp only [List.any_cons, List.any_nil, Bool.or_false]
/-! ### Outlives -/

theorem says_take {x y : Int} {l : List (Int × Int)} {i : Nat} (h : i < l.length) : saysG (l.take (i + 1)) x y = (saysG (l.take i) x y || (decide (x = l[i].1) && decide (y = l[i].2))) := by
  rw [saysG, List.take_succ_eq_append_getElem h, List.contains_eq_any_beq, List.any_append, ← List.contains_eq_any_beq, ← saysG]
  simp only [List.any_cons, List.any_nil, Bool.or_false]
  congr 1
/-- outlives, each behind the one ahead of it -/
def outR (lv : Int) : Option (Int × Int) → List (Int × Int) → Bool
  | _, [] => true
  | w, o :: l => (inOut lv o && (match w with | none => true | some w => ltOut w o)) && outR lv (some o) l
theorem outR_some (lv : Int) : ∀ (l : List (Int × Int)) (w : Int × Int), outR lv (some w) l = (l.all (inOut lv) && riseG (w :: l))
  | [], w => rfl
  | o :: l, w => by
    rw [outR, outR_some lv l o, List.all_cons, riseG]
    cases inOut lv o <;> cases ltOut w o <;> cases l.all (inOut lv) <;> simp
theorem outR_none (lv : Int) (l : List (Int × Int)) : outR lv none l = (l.all (inOut lv) && riseG l) := by
  cases l with
  | nil => rfl
  | cons o l =>
    rw [outR, outR_some lv l o, List.all_cons]
    cases inOut lv o <;> cases l.all (inOut lv) <;> simp
theorem outR_at {lv : Int} {w : Option (Int × Int)} {l : List (Int × Int)} {i : Nat} (h : i < l.length) : outR lv w (l.drop i) = ((inOut lv l[i] && (match w with | none => true | some w => ltOut w l[i])) && outR lv (some l[i]) (l.drop (i + 1))) := by
  rw [List.drop_eq_getElem_cons h]; rfl
theorem not_lt {o w : Int × Int} : (decide (o.1 < w.1) || (decide (w.1 = o.1) && decide (o.2 ≤ w.2))) = !ltOut w o := by
  unfold ltOut
  rcases Int.lt_trichotomy o.1 w.1 with h | h | h
  · rw [decide_eq_true h, decide_eq_false (show ¬ w.1 < o.1 by omega), decide_eq_false (show ¬ w.1 = o.1 by omega)]; rfl
  · rw [decide_eq_false (show ¬ o.1 < w.1 by omega), decide_eq_false (show ¬ w.1 < o.1 by omega), decide_eq_true (show w.1 = o.1 by omega)]
    by_cases h2 : o.2 ≤ w.2
    · rw [decide_eq_true h2, decide_eq_false (show ¬ w.2 < o.2 by omega)]; rfl
    · rw [decide_eq_false h2, decide_eq_true (show w.2 < o.2 by omega)]; rfl
  · rw [decide_eq_false (show ¬ o.1 < w.1 by omega), decide_eq_true (show w.1 < o.1 by omega), decide_eq_false (show ¬ w.1 = o.1 by omega)]; rfl
/-! ### Rounds over numbers -/

theorem range_drop {n i : Nat} (h : i < n) : (List.range n).drop i = i :: (List.range n).drop (i + 1) := by
  rw [List.drop_eq_getElem_cons (by rwa [List.length_range]), List.getElem_range]
theorem range_all {n i : Nat} {f : Nat → Bool} (h : i < n) : ((List.range n).drop i).all f = (f i && ((List.range n).drop (i + 1)).all f) := by rw [range_drop h, List.all_cons]
theorem range_end {n : Nat} {f : Nat → Bool} : ((List.range n).drop n).all f = true := by rw [List.drop_of_length_le (by rw [List.length_range]; exact Nat.le_refl _)]; rfl
/-! ### Heads -/

theorem tysG_cons {u : UnD} {g : GrD} {i : Nat} {t : TyD} {l : List TyD} : tysG u g i (t :: l) = (tyG u g i t && tysG u g (i + 1) l) := rfl
theorem tysG_drop {u : UnD} {g : GrD} {i j : Nat} {l : List TyD} (h : i < l.length) : tysG u g j (l.drop i) = (tyG u g j l[i] && tysG u g (j + 1) (l.drop (i + 1))) := by rw [List.drop_eq_getElem_cons h]; rfl
theorem tysG_all {u : UnD} {g : GrD} : ∀ {l : List TyD} {i : Nat}, tysG u g i l = true → ∀ t ∈ l, mayB u.ss t = true
  | [], i, _, t, ht => by cases ht
  | x :: l, i, h, t, ht => by
    rw [tysG_cons, Bool.and_eq_true] at h
    rcases List.mem_cons.1 ht with rfl | ht
    · have := h.1
      rw [tyG, Bool.and_eq_true] at this
      exact this.1
    · exact tysG_all h.2 t ht
/-- parameters have lifetimes alone -/
theorem tysG_low {u : UnD} {g : GrD} : ∀ {l : List TyD} {i : Nat}, tysG u g i l = true → ∀ {j : Nat} (hj : j < l.length), ((i + j : Nat) : Int) ≤ g.pn → ∀ x ∈ regsT l[j], 0 ≤ x ∧ x < g.lv
  | [], i, _, j, hj, _ => absurd hj (Nat.not_lt_zero _)
  | y :: l, i, h, j, hj, hle => by
    rw [tysG_cons, Bool.and_eq_true] at h
    cases j with
    | zero =>
      have := h.1
      rw [tyG, Bool.and_eq_true, List.all_eq_true] at this
      intro x hx
      have := this.2 x hx
      rw [if_pos (by omega)] at this
      simp only [Bool.not_eq_true', Bool.or_eq_false_iff, decide_eq_false_iff_not] at this
      omega
    | succ j => exact tysG_low h.2 (j := j) (by simpa using hj) (by omega)
theorem loans_take {l : List PtD} {i : Nat} (h : i < l.length) : loansG (l.take (i + 1)) = loansG (l.take i) + (if l[i].op = 4 then 1 else 0) := by
  rw [List.take_succ_eq_append_getElem h, loansG, List.countP_append, loansG]
  congr 1
  rw [List.countP_singleton]
  by_cases e : l[i].op = 4 <;> simp [e]
end Go.Proofs
end

section
namespace Go.Proofs

open Go.Sh

set_option maxRecDepth 100000

set_option linter.unusedSimpArgs false

set_option linter.unusedVariables false

theorem Sl.tail {w : World} {p : Option Addr} {a : Int} {l : List Int} {cap : Nat} (h : Sl w p (ints (a :: l))) (hc : (a :: l).length ≤ cap) : Sl w (if cap = (1 : Int).toNat then p else p.map (·.add ((1 : Int).toNat * 1))) (ints l) := fun i v hv => by
  have h1 := h (i + 1) v (by simpa [ints] using hv)
  have hi : i < l.length := by
    have := (List.getElem?_eq_some_iff.1 hv).1
    rwa [ints_len] at this
  obtain ⟨b, off, hp, hcell⟩ := h1
  rw [List.length_cons] at hc
  rw [if_neg (show ¬ cap = (1 : Int).toNat by have : (1 : Int).toNat = 1 := rfl; omega), hp, Option.map_some, addr_add]
  exact ⟨b, off + 1, rfl, by rwa [show off + 1 + i = off + (i + 1) by omega]⟩
abbrev fvI (b3 b4 : Nat) : Value := .func (.func Try.n_graph_implied_1) #[] #[.pointer (some ⟨b3, 0, none⟩), .pointer (some ⟨b4, 0, none⟩)]
abbrev bitI (f : Nat → Nat → Bool) (l : List Int) : Nat → Nat → Bool := fun x y => f x y || pairB x y l
abbrev mrkI (f : Nat → Nat → Bool) (a : Int) (l : List Int) : Nat → Nat → Bool := fun x y => f x y || (decide (a = (y : Int)) && l.contains (x : Int))
theorem c_implied_1 {b3 b4 bt : Nat} {M : List Asr} {w0 : World} {r : Gh} : ∀ (l : List Int) {p : Option Addr} {cap : Nat} {f : Nat → Nat → Bool} {w : World} {K : Value → World → Prop}, (∀ x ∈ l, 0 ≤ x ∧ x < 8) → (Ob r fun w => Sl w p (ints l)) → l.length ≤ cap → l.length ≤ 1000 →
    StX noX w0 r w (.cell b4 [fvI b3 b4] 162 :: .cell b3 [.pointer (some ⟨bt, 0, none⟩)] 155 :: .cell bt (tabC f) 153 :: M) →
    (∀ w', StX noX w0 r w' (.cell b4 [fvI b3 b4] 162 :: .cell b3 [.pointer (some ⟨bt, 0, none⟩)] 155 :: .cell bt (tabC (bitI f l)) 153 :: M) → K (.tuple #[]) w') →
    oCallV Try.prog (fvI b3 b4) #[.slice p l.length cap] w K := by
  intro l
  induction l with
  | nil =>
    intro p cap f w K hx hl hc hb S h
    refine v_f12 (by kernel_rfl) ?_
    refine Try.ok_graph_implied_1 ?_
    unfold Try.F_graph_implied_1
    (first | refine s_p ?_ | refine s_c (by omega) ?_)
    (first | refine s_p ?_ | refine s_c (by omega) ?_)
    refine c_t (by simp) ?_
    refine h _ ?_
    rw [tabC_ext (g := f) (fun x y _ _ => by show (f x y || pairB x y []) = f x y; rw [pairB, Bool.or_false])]
    exact S
  | cons a l ih =>
    intro p cap f w K hx hl hc hb S h
    refine v_f12 (by kernel_rfl) ?_
    refine Try.ok_graph_implied_1 ?_
    unfold Try.F_graph_implied_1
    obtain ⟨ha0, ha8⟩ := hx a List.mem_cons_self
    have hxl : ∀ x ∈ l, 0 ≤ x ∧ x < 8 := fun x h => hx x (List.mem_cons_of_mem _ h)
    have hal : (a :: l).length = l.length + 1 := List.length_cons
    have hll : l.length ≤ 1000 := by rw [List.length_cons] at hb; omega
    have hlc : l.length + 1 ≤ cap := by rwa [List.length_cons] at hc
    have hsl : Ob r fun w => Sl w (if cap = (1 : Int).toNat then p else p.map (·.add ((1 : Int).toNat * 1))) (ints l) := fun w k => Sl.tail (hl w k) hc
    have hlen : (a :: l).length - (1 : Int).toNat = l.length := by simp
    obtain ⟨bp, op, rfl, hcell⟩ := ints_at (S.at hl) (i := 0) (by simp)
    (first | refine s_p ?_ | refine s_c (by omega) ?_)
    (first | refine s_p ?_ | refine s_c (by omega) ?_)
    refine c_f (by rw [List.length_cons]; exact decide_eq_false (by omega)) ?_
    (first | refine s_p ?_ | refine s_c (by omega) ?_)
    rw [hlen]
    (first | refine s_p ?_ | refine s_c (by omega) ?_)
    obtain ⟨p2, hp2⟩ : ∃ p2, (if cap = (1 : Int).toNat then (some ⟨bp, op, none⟩ : Option Addr) else (some ⟨bp, op, none⟩ : Option Addr).map (·.add ((1 : Int).toNat * 1))) = p2 := ⟨_, rfl⟩
    rw [hp2] at hsl ⊢
    refine l_intro (ι := Nat) (fun i => [.int .i64 (i : Nat)]) (fun i w' => i ≤ l.length ∧ StX noX w0 r w' (.cell b4 [fvI b3 b4] 162 :: .cell b3 [.pointer (some ⟨bt, 0, none⟩)] 155 :: .cell bt (tabC (mrkI f a (l.take i))) 153 :: M)) (fun i => l.length - i) 0 rfl
      ⟨Nat.zero_le _, by
        rw [tabC_ext (f := mrkI f a (l.take 0)) (g := f) (fun x y _ _ => by simp [mrkI])]
        exact S⟩ ?_
    clear S
    rintro i d w1 ⟨hi, S⟩ K6 hK6
    rw [List.getD_cons_zero]
    (first | refine s_p ?_ | refine s_c (by omega) ?_)
    refine c_if (fun hlt => ?_) (fun hge => ?_)
    · have hlt : i < l.length := by omega
      obtain ⟨bq, oq, rfl, hcell2⟩ := ints_at (S.at hsl) hlt
      obtain ⟨hi0, hi8⟩ := hxl _ (List.getElem_mem hlt)
      have S := S.go (Ext.drew _)
      (first | refine s_p ?_ | refine s_c (by omega) ?_)
      refine s_ld1 (v := .int .i64 l[i]) (by simpa using hcell2) ?_
      refine S.ld (b := b3) ?_ rfl
      (first | refine s_p ?_ | refine s_c (by omega) ?_)
      have hc0 := (S.at hl 0 (.int .i64 a) (by simp [ints]))
      refine s_ld1 (v := .int .i64 a) (by obtain ⟨b', o', h1, h2⟩ := hc0; cases h1; simpa using h2) ?_
      (repeat (first | refine s_p ?_ | refine s_c (by omega) ?_ | refine S.ld ?_ | refine S.ldB ?_ | refine S.ce ?_ | refine S.ceB ?_ | refine s_q ?_ | refine s_qc (by omega) ?_ | refine n_some ?_ | rw [List.getD_cons_zero] | rw [List.getD_cons_succ]))
      refine S.st (b := bt) (fun w2 S => ?_) (by rw [tabC_len]; omega)
      (first | refine s_p ?_ | refine s_c (by omega) ?_)
      rw [show ((i : Int) + 1) = ((i + 1 : Nat) : Int) by omega]
      refine hK6 (i + 1) _ ⟨hlt, ?_⟩ (by omega)
      rw [show 0 + l[i].toNat * 8 + a.toNat * 1 = l[i].toNat * 8 + a.toNat by omega, tabC_set (by omega) (by omega)] at S
      rw [tabC_ext (f := mrkI f a (l.take (i + 1))) (g := fun x y => mrkI f a (l.take i) x y || (decide (x = l[i].toNat) && decide (y = a.toNat))) (fun x y _ _ => by
        show (f x y || (decide (a = (y : Int)) && (l.take (i + 1)).contains (x : Int))) = ((f x y || (decide (a = (y : Int)) && (l.take i).contains (x : Int))) || (decide (x = l[i].toNat) && decide (y = a.toNat)))
        rw [row_cons hlt, show decide ((x : Int) = l[i]) = decide (x = l[i].toNat) from decide_eq_decide.2 (by omega), show decide (a = (y : Int)) = decide (y = a.toNat) from decide_eq_decide.2 (by omega)]
        cases f x y <;> cases decide (y = a.toNat) <;> cases (l.take i).contains (x : Int) <;> cases decide (x = l[i].toNat) <;> rfl)]
      exact S
    · have hie : i = l.length := by omega
      rw [hie, List.take_length] at S
      have S := S.go (Ext.drew _)
      refine S.ld (b := b4) ?_ rfl
      (first | refine s_p ?_ | refine s_c (by omega) ?_)
      rw [hlen, hp2]
      refine ih hxl hsl (by show l.length ≤ cap - (1 : Int).toNat; have : (1 : Int).toNat = 1 := rfl; omega) hll S fun w2 S => ?_
      refine h _ ?_
      rw [tabC_ext (f := bitI f (a :: l)) (g := bitI (mrkI f a l) l) (fun x y _ _ => by
        show (f x y || pairB x y (a :: l)) = ((f x y || (decide (a = (y : Int)) && l.contains (x : Int))) || pairB x y l)
        rw [pair_cons, Bool.or_assoc])]
      exact S
abbrev musI (f : Nat → Nat → Bool) (l : List TyD) : Nat → Nat → Bool := fun x y => f x y || mustG l x y
theorem c_graph_implied {bt : Nat} {M : List Asr} {w0 : World} {r : Gh} {l : List TyD} {q : Option Addr} {cap : Nat} {f : Nat → Nat → Bool} {w : World} {K : Value → World → Prop} (hl : TysG r q l) (hn : l.length ≤ maxLen) (hx : ∀ t ∈ l, ∀ x ∈ regsT t, 0 ≤ x ∧ x < 8)
    (S : StX noX w0 r w (.cell bt (tabC f) 153 :: M))
    (h : ∀ w', StX noX w0 r w' (.cell bt (tabC (musI f l)) 153 :: M) → K (.tuple #[]) w') : oCall Try.prog Try.n_graph_implied #[.slice q l.length cap, .pointer (some ⟨bt, 0, none⟩)] w K := by
  refine Try.ok_graph_implied ?_
  unfold Try.F_graph_implied
  have hn' : l.length ≤ 9223372036854775807 := hn
  refine S.box fun b3 w1 S => ?_
  refine S.al fun b4 w2 S => ?_
  (first | refine s_p ?_ | refine s_c (by omega) ?_)
  refine S.st (b := b4) fun w3 S => ?_
  (first | refine s_p ?_ | refine s_c (by omega) ?_)
  refine l_intro (ι := Nat) (fun i => [.int .i64 (i : Nat)]) (fun i w' => i ≤ l.length ∧ StX noX w0 r w' (.cell b4 [fvI b3 b4] 162 :: .cell b3 [.pointer (some ⟨bt, 0, none⟩)] 155 :: .cell bt (tabC (musI f (l.take i))) 153 :: M)) (fun i => l.length - i) 0 rfl
    ⟨Nat.zero_le _, by
      rw [tabC_ext (f := musI f (l.take 0)) (g := f) (fun x y _ _ => by simp [musI, mustG])]
      exact S⟩ ?_
  clear S
  rintro i d w4 ⟨hi, S⟩ K6 hK6
  rw [List.getD_cons_zero]
  (first | refine s_p ?_ | refine s_c (by omega) ?_)
  refine c_if (fun hlt => ?_) (fun hge => ?_)
  · have hlt : i < l.length := by omega
    obtain ⟨b1, o1, c1, rfl, hc1, htc, hto⟩ := hl i hlt
    obtain ⟨q2, cap2, rfl, ht2⟩ := ty_form hto
    (first | refine s_p ?_ | refine s_c (by omega) ?_)
    refine s_ldN (n := 5) hc1 (fun j v hj => by rw [Int.toNat_natCast]; exact S.at (htc j v hj)) ?_
    refine S.al fun b6 w5 S => ?_
    refine S.stB (b := b6) fun w6 S => ?_
    have S := S.go (Ext.drew _)
    refine S.ld (b := b4) ?_ rfl
    refine S.ldB (b := b6) ?_ rfl
    refine c_types_Regions S.holds ht2 fun v7 w7 e7 o7 => ⟨e7, ?_⟩
    obtain ⟨s1, p1, cap1, n1, nb1, rfl, _, hc1, hs1⟩ := row_gh o7
    have S := S.new e7 n1
    have S := S.drop b6
    have hr48 : (regsT l[i]).length ≤ 1000 := by
      rw [regsT]; split
      · have := regs_le48 (by assumption); omega
      · simp
    refine c_implied_1 (regsT l[i]) (fun x h => hx _ (List.getElem_mem hlt) x h) hs1.up hc1 hr48 S fun w8 S => ?_
    (first | refine s_p ?_ | refine s_c (by omega) ?_)
    rw [show ((i : Int) + 1) = ((i + 1 : Nat) : Int) by omega]
    refine hK6 (i + 1) _ ⟨hlt, ?_⟩ (by omega)
    have S := S.to r
    rw [tabC_ext (f := musI f (l.take (i + 1))) (g := bitI (musI f (l.take i)) (regsT l[i])) (fun x y _ _ => by
      show (f x y || mustG (l.take (i + 1)) x y) = ((f x y || mustG (l.take i) x y) || pairB x y (regsT l[i]))
      rw [must_take hlt, Bool.or_assoc])]
    exact S
  · have hie : i = l.length := by omega
    rw [hie, List.take_length] at S
    exact h _ S.tl.tl
end Go.Proofs
end

section
namespace Go.Proofs

open Go.Sh

set_option maxRecDepth 100000

set_option linter.unusedSimpArgs false

set_option linter.unusedVariables false

theorem TysG.take {s : Gh} {q : Option Addr} {ts : List TyD} (h : TysG s q ts) (n : Nat) : TysG s q (ts.take n) := fun i hi => by
  rw [List.length_take] at hi
  obtain ⟨b, off, c, h1, h2, h3, h4⟩ := h i (by omega)
  refine ⟨b, off, c, h1, h2, h3, ?_⟩
  rw [List.getElem_take]; exact h4
theorem tab_ld {f : Nat → Nat → Bool} {a b : Nat} (ha : a < 8) (hb : b < 8) : (tabC f)[0 + ((a : Nat) : Int).toNat * 8 + ((b : Nat) : Int).toNat * 1]? = some (.bool (f a b)) := by
  rw [show 0 + ((a : Nat) : Int).toNat * 8 + ((b : Nat) : Int).toNat * 1 = a * 8 + b by omega]
  exact tabC_get ha hb
abbrev syF (l : List (Int × Int)) : Nat → Nat → Bool := fun x y => saysG l (x : Int) (y : Int)
abbrev muF (l : List TyD) : Nat → Nat → Bool := fun x y => mustG l (x : Int) (y : Int)
def clH (sy : Nat → Nat → Bool) (a b c : Nat) : Bool := !((sy a b && sy b c) && (!decide (a = c) && !sy a c))
def clG (n : Nat) (mu sy : Nat → Nat → Bool) (a b : Nat) : Bool := (List.range n).all (clH sy a b) && !(!decide (a = b) && (mu a b && !sy a b))
def clF (n : Nat) (mu sy : Nat → Nat → Bool) (a : Nat) : Bool := (List.range n).all (clG n mu sy a)
theorem clos_eq (n : Nat) (l : List TyD) (o : List (Int × Int)) : closG n (mustG l) (saysG o) = (List.range n).all (clF n (muF l) (syF o)) := by
  unfold closG clF clG clH; simp only [decide_not, Int.natCast_inj]
def prevO (l : List (Int × Int)) (i : Nat) : Option (Int × Int) := if i = 0 then none else l[i - 1]?
def aftO (w : Option (Int × Int)) (o : Int × Int) : Bool := match w with | none => true | some w => ltOut w o
theorem outR_at' {lv : Int} {l : List (Int × Int)} {i : Nat} (h : i < l.length) : outR lv (prevO l i) (l.drop i) = ((inOut lv l[i] && aftO (prevO l i) l[i]) && outR lv (prevO l (i + 1)) (l.drop (i + 1))) := by
  rw [outR_at h, prevO, prevO, if_neg (Nat.succ_ne_zero i), Nat.add_sub_cancel, List.getElem?_eq_getElem h]; rfl
set_option maxHeartbeats 2000000 in
theorem c_graph_outlives {g : GrD} {c : List Value} {w : World} {r : Gh} {K : Value → World → Prop} (hr : Holds r w) (hg : GrG r c g) (hlv0 : 0 ≤ g.lv) (hlv8 : g.lv ≤ 8) (hpn0 : 0 ≤ g.pn) (hpn1 : g.pn < g.tys.length)
    (hx : ∀ t ∈ g.tys.take (g.pn.toNat + 1), ∀ x ∈ regsT t, 0 ≤ x ∧ x < 8) (h : ∀ w', Ext w w' → K (.bool (outsG g)) w') : oCall Try.prog Try.n_graph_outlives #[.agg c.toArray] w K := by
  obtain ⟨vo, vt, vn, vp, rfl, h1, h2, h3, h4⟩ := hg
  obtain ⟨qo, capo, rfl, _, _⟩ := h1.sl.shape
  obtain ⟨qt, capt, rfl, _, hct⟩ := h2.sl.shape
  obtain ⟨qn, capn, rfl, _, _⟩ := h3.sl.shape
  obtain ⟨qp, capp, rfl, _, _⟩ := h4.sl.shape
  have hol : g.outs.length ≤ 9223372036854775807 := h1.few
  have htl : g.tys.length ≤ 9223372036854775807 := h2.few
  refine Try.ok_graph_outlives ?_
  unfold Try.F_graph_outlives
  have S := St.start hr
  refine S.box fun b1 w1 S => ?_
  refine S.al fun b3 w2 S => ?_
  refine S.al fun b4 w3 S => ?_
  have S : StX noX w r w3 (.cell b3 (tabC fun _ _ => false) 153 :: [.cell b4 (tabC fun _ _ => false) 153, .cell b1 [.string g.name, .int .i64 g.lv, .slice qo g.outs.length capo, .int .i64 g.pn, .slice qt g.tys.length capt, .slice qn g.nms.length capn, .slice qp g.pts.length capp] 53]) := S.swap
  (repeat (first | refine s_p ?_ | refine s_c (by omega) ?_ | refine S.ld ?_ | refine S.ldB ?_ | refine S.ce ?_ | refine S.ceB ?_ | refine s_q ?_ | refine s_qc (by omega) ?_ | refine n_some ?_ | rw [List.getD_cons_zero] | rw [List.getD_cons_succ]))
  rw [show (g.pn + 1).toNat = (g.tys.take (g.pn.toNat + 1)).length by rw [List.length_take]; omega]
  refine c_graph_implied (l := g.tys.take (g.pn.toNat + 1)) ((sl_tysG h2.sl).take _) (by rw [List.length_take]; have := h2.few; omega) hx S fun w4 S => ?_
  have S : StX noX w r w4 ([.cell b3 (tabC (muF (g.tys.take (g.pn.toNat + 1)))) 153, .cell b4 (tabC fun _ _ => false) 153, .cell b1 [.string g.name, .int .i64 g.lv, .slice qo g.outs.length capo, .int .i64 g.pn, .slice qt g.tys.length capt, .slice qn g.nms.length capn, .slice qp g.pts.length capp] 53]) := by
    rw [tabC_ext (f := muF (g.tys.take (g.pn.toNat + 1))) (g := musI (fun _ _ => false) (g.tys.take (g.pn.toNat + 1))) (fun x y _ _ => (Bool.false_or _).symm)]
    exact S
  rw [outsG, ← outR_none, clos_eq] at h
  generalize hmu : muF (g.tys.take (g.pn.toNat + 1)) = mu at h S
  (repeat (first | refine s_p ?_ | refine s_c (by omega) ?_ | refine S.ld ?_ | refine S.ldB ?_ | refine S.ce ?_ | refine S.ceB ?_ | refine s_q ?_ | refine s_qc (by omega) ?_ | refine n_some ?_ | rw [List.getD_cons_zero] | rw [List.getD_cons_succ]))
  refine l_intro (ι := Nat) (fun i => [.int .i64 (i : Nat)]) (fun i w' => i ≤ g.outs.length ∧ outR g.lv (prevO g.outs i) (g.outs.drop i) = outR g.lv none g.outs ∧
    StX noX w r w' ([.cell b3 (tabC mu) 153, .cell b4 (tabC (syF (g.outs.take i))) 153, .cell b1 [.string g.name, .int .i64 g.lv, .slice qo g.outs.length capo, .int .i64 g.pn, .slice qt g.tys.length capt, .slice qn g.nms.length capn, .slice qp g.pts.length capp] 53])) (fun i => g.outs.length - i) 0 rfl
    ⟨Nat.zero_le _, rfl, by
      rw [tabC_ext (f := syF (g.outs.take 0)) (g := fun _ _ => false) (fun x y _ _ => by simp [syF, saysG])]
      exact S⟩ ?_
  clear S
  rintro i d w5 ⟨hi, hd, S⟩ K6 hK6
  rw [List.getD_cons_zero]
  (first | refine s_p ?_ | refine s_c (by omega) ?_)
  refine c_if (fun hlt => ?_) (fun hge => ?_)
  · have hlt : i < g.outs.length := by omega
    obtain ⟨bo, oo, co, rfl, hco, hoo, hoc⟩ := h1.sl.get (by decide) hlt
    obtain rfl : co = _ := hoo
    rw [outR_at' hlt] at hd
    have hgo := fun (j : Nat) (hj : j < g.outs.length) => h1.sl.get (by decide) hj
    obtain ⟨⟨o1, o2⟩, ho⟩ : ∃ o, g.outs[i] = o := ⟨_, rfl⟩
    rw [ho] at hd
    have hst : syF (g.outs.take (i + 1)) = fun x y => syF (g.outs.take i) x y || (decide ((x : Int) = o1) && decide ((y : Int) = o2)) := by
      funext x y
      show saysG _ _ _ = (saysG _ _ _ || _)
      rw [says_take hlt, ho]
    (first | refine s_p ?_ | refine s_c (by omega) ?_)
    refine s_ldN (n := 2) hco (fun j v hj => by rw [Int.toNat_natCast]; exact S.at (hoc j v hj)) ?_
    rw [ho]
    refine S.al fun b6 w6 S => ?_
    refine S.stB (b := b6) fun w7 S => ?_
    (repeat (first | refine s_p ?_ | refine s_c (by omega) ?_ | refine S.ld ?_ | refine S.ldB ?_ | refine S.ce ?_ | refine S.ceB ?_ | refine s_q ?_ | refine s_qc (by omega) ?_ | refine n_some ?_ | rw [List.getD_cons_zero] | rw [List.getD_cons_succ]))
    refine j_borH (c := decide (g.lv ≤ max o1 o2)) (fun _ K2 hK2 => ?_) ?_
    · (repeat (first | refine s_p ?_ | refine s_c (by omega) ?_ | refine S.ld ?_ | refine S.ldB ?_ | refine S.ce ?_ | refine S.ceB ?_ | refine s_q ?_ | refine s_qc (by omega) ?_ | refine n_some ?_ | rw [List.getD_cons_zero] | rw [List.getD_cons_succ]))
      exact hK2
    refine j_borH (c := decide (o1 = o2)) (fun _ K2 hK2 => ?_) ?_
    · (repeat (first | refine s_p ?_ | refine s_c (by omega) ?_ | refine S.ld ?_ | refine S.ldB ?_ | refine S.ce ?_ | refine S.ceB ?_ | refine s_q ?_ | refine s_qc (by omega) ?_ | refine n_some ?_ | rw [List.getD_cons_zero] | rw [List.getD_cons_succ]))
      exact hK2
    refine c_b (fun hbad => ?_) (fun hgood => ?_)
    · have hin : inOut g.lv (o1, o2) = false := by rw [inOut, hbad]; rfl
      rw [hin, Bool.false_and, Bool.false_and] at hd
      rw [← hd, Bool.false_and] at h
      exact h _ S.ext
    have hin : inOut g.lv (o1, o2) = true := by rw [inOut, hgood]; rfl
    rw [hin, Bool.true_and] at hd
    have hrg : (0 ≤ o1 ∧ o1 < 8) ∧ (0 ≤ o2 ∧ o2 < 8) := by
      simp only [Bool.or_eq_false_iff, decide_eq_false_iff_not] at hgood; omega
    clear hgood hin
    obtain ⟨⟨ho10, ho18⟩, ho20, ho28⟩ := hrg
    refine j_intro (fun _ w' => aftO (prevO g.outs i) (o1, o2) = true ∧ StX noX w r w' ([.cell b6 [.int .i64 o1, .int .i64 o2] 157, .cell b3 (tabC mu) 153, .cell b4 (tabC (syF (g.outs.take i))) 153, .cell b1 [.string g.name, .int .i64 g.lv, .slice (some ⟨bo, oo, none⟩) g.outs.length capo, .int .i64 g.pn, .slice qt g.tys.length capt, .slice qn g.nms.length capn, .slice qp g.pts.length capp] 53])) (fun K9 hK9 => ?_) ?_
    · (first | refine s_p ?_ | refine s_c (by omega) ?_)
      refine c_if (fun hpos => ?_) (fun hz => ?_)
      · have hpos : 0 < i := by omega
        have hlt2 : i - 1 < g.outs.length := by omega
        obtain ⟨bo2, oo2, co2, hbe, hco2, hoo2, hoc2⟩ := h1.sl.get (by decide) hlt2
        obtain rfl : co2 = _ := hoo2
        cases hbe
        have hpv : prevO g.outs i = some g.outs[i - 1] := by rw [prevO, if_neg (by omega), List.getElem?_eq_getElem hlt2]
        rw [hpv] at hd hK9
        obtain ⟨⟨p1, p2⟩, hp⟩ : ∃ o, g.outs[i - 1] = o := ⟨_, rfl⟩
        rw [hp] at hd hK9
        (repeat (first | refine s_p ?_ | refine s_c (by omega) ?_ | refine S.ld ?_ | refine S.ldB ?_ | refine S.ce ?_ | refine S.ceB ?_ | refine s_q ?_ | refine s_qc (by omega) ?_ | refine n_some ?_ | rw [List.getD_cons_zero] | rw [List.getD_cons_succ]))
        refine s_ldN (n := 2) hco2 (fun j v hj => by rw [show ((i : Int) - 1).toNat = i - 1 by omega]; exact S.at (hoc2 j v hj)) ?_
        rw [hp]
        refine S.al fun b7 w8 S => ?_
        refine S.stB (b := b7) fun w9 S => ?_
        (repeat (first | refine s_p ?_ | refine s_c (by omega) ?_ | refine S.ld ?_ | refine S.ldB ?_ | refine S.ce ?_ | refine S.ceB ?_ | refine s_q ?_ | refine s_qc (by omega) ?_ | refine n_some ?_ | rw [List.getD_cons_zero] | rw [List.getD_cons_succ]))
        refine j_boraG (g := decide (p1 = o1)) (c := decide (o2 ≤ p2)) (fun _ K2 hK2 => ?_) (fun _ K2 hK2 => ?_) ?_
        · (repeat (first | refine s_p ?_ | refine s_c (by omega) ?_ | refine S.ld ?_ | refine S.ldB ?_ | refine S.ce ?_ | refine S.ceB ?_ | refine s_q ?_ | refine s_qc (by omega) ?_ | refine n_some ?_ | rw [List.getD_cons_zero] | rw [List.getD_cons_succ]))
          exact hK2
        · (repeat (first | refine s_p ?_ | refine s_c (by omega) ?_ | refine S.ld ?_ | refine S.ldB ?_ | refine S.ce ?_ | refine S.ceB ?_ | refine s_q ?_ | refine s_qc (by omega) ?_ | refine n_some ?_ | rw [List.getD_cons_zero] | rw [List.getD_cons_succ]))
          exact hK2
        rw [not_lt (o := (o1, o2)) (w := (p1, p2))]
        refine c_b (fun hb => ?_) (fun hb => ?_)
        · have hb : ltOut (p1, p2) (o1, o2) = false := by simpa using hb
          rw [show aftO (some (p1, p2)) (o1, o2) = ltOut (p1, p2) (o1, o2) from rfl, hb, Bool.false_and] at hd
          rw [← hd, Bool.false_and] at h
          exact h _ S.ext
        · have hb : ltOut (p1, p2) (o1, o2) = true := by simpa using hb
          exact hK9 _ _ ⟨hb, S.drop b7⟩
      · have hz : i = 0 := by omega
        refine hK9 _ _ ⟨?_, S⟩
        rw [hz]; rfl
    clear S
    rintro _ w10 ⟨haf, S⟩ d10
    have S := S.go (Ext.drew _)
    rw [haf, Bool.true_and] at hd
    (repeat (first | refine s_p ?_ | refine s_c (by omega) ?_ | refine S.ld ?_ | refine S.ldB ?_ | refine S.ce ?_ | refine S.ceB ?_ | refine s_q ?_ | refine s_qc (by omega) ?_ | refine n_some ?_ | rw [List.getD_cons_zero] | rw [List.getD_cons_succ]))
    refine S.st (b := b4) (fun w11 S => ?_) (by rw [tabC_len]; omega)
    (first | refine s_p ?_ | refine s_c (by omega) ?_)
    rw [show ((i : Int) + 1) = ((i + 1 : Nat) : Int) by omega]
    refine hK6 (i + 1) _ ⟨hlt, hd, ?_⟩ (by omega)
    rw [show 0 + o1.toNat * 8 + o2.toNat * 1 = o1.toNat * 8 + o2.toNat by omega, tabC_set (by omega) (by omega)] at S
    rw [hst, tabC_ext (f := fun x y => syF (g.outs.take i) x y || (decide ((x : Int) = o1) && decide ((y : Int) = o2))) (g := fun x y => syF (g.outs.take i) x y || (decide (x = o1.toNat) && decide (y = o2.toNat))) (fun x y _ _ => by
      show (syF (g.outs.take i) x y || (decide ((x : Int) = o1) && decide ((y : Int) = o2))) = (syF (g.outs.take i) x y || (decide (x = o1.toNat) && decide (y = o2.toNat)))
      rw [show decide ((x : Int) = o1) = decide (x = o1.toNat) from decide_eq_decide.2 (by omega), show decide ((y : Int) = o2) = decide (y = o2.toNat) from decide_eq_decide.2 (by omega)])]
    exact S.drop b6
  have hie : i = g.outs.length := by omega
  rw [hie, List.take_length] at S
  rw [hie, List.drop_length] at hd
  rw [← hd, show outR g.lv (prevO g.outs g.outs.length) [] = true from by rw [outR], Bool.true_and] at h
  clear hd hK6 K6 hie hge hi
  generalize hsy : syF g.outs = sy at h S
  obtain ⟨n, hn⟩ : ∃ n : Nat, g.lv.toNat = n := ⟨_, rfl⟩
  have hn8 : n ≤ 8 := by omega
  have hlvn : g.lv = (n : Int) := by omega
  rw [hn] at h
  (repeat (first | refine s_p ?_ | refine s_c (by omega) ?_ | refine S.ld ?_ | refine S.ldB ?_ | refine S.ce ?_ | refine S.ceB ?_ | refine s_q ?_ | refine s_qc (by omega) ?_ | refine n_some ?_ | rw [List.getD_cons_zero] | rw [List.getD_cons_succ]))
  refine l_intro (ι := Nat) (fun i => [.int .i64 (i : Nat)]) (fun i w' => i ≤ n ∧ ((List.range n).drop i).all (clF n mu sy) = (List.range n).all (clF n mu sy) ∧
    StX noX w r w' ([.cell b3 (tabC mu) 153, .cell b4 (tabC sy) 153, .cell b1 [.string g.name, .int .i64 g.lv, .slice qo g.outs.length capo, .int .i64 g.pn, .slice qt g.tys.length capt, .slice qn g.nms.length capn, .slice qp g.pts.length capp] 53])) (fun i => n - i) 0 rfl
    ⟨Nat.zero_le _, rfl, S⟩ ?_
  clear S
  rintro a d2 w12 ⟨ha, hda, S⟩ K7 hK7
  rw [List.getD_cons_zero, hlvn]
  (first | refine s_p ?_ | refine s_c (by omega) ?_)
  refine c_if (fun hlta => ?_) (fun hgea => ?_)
  rotate_left
  · have hae : a = n := by omega
    rw [hae, range_end] at hda
    rw [← hda] at h
    exact h _ S.ext
  have hlta : a < n := by omega
  rw [range_all hlta] at hda
  (repeat (first | refine s_p ?_ | refine s_c (by omega) ?_ | refine S.ld ?_ | refine S.ldB ?_ | refine S.ce ?_ | refine S.ceB ?_ | refine s_q ?_ | refine s_qc (by omega) ?_ | refine n_some ?_ | rw [List.getD_cons_zero] | rw [List.getD_cons_succ]))
  refine l_intro (ι := Nat) (fun i => [.int .i64 (i : Nat)]) (fun i w' => i ≤ n ∧ ((List.range n).drop i).all (clG n mu sy a) = (List.range n).all (clG n mu sy a) ∧
    StX noX w r w' ([.cell b3 (tabC mu) 153, .cell b4 (tabC sy) 153, .cell b1 [.string g.name, .int .i64 g.lv, .slice qo g.outs.length capo, .int .i64 g.pn, .slice qt g.tys.length capt, .slice qn g.nms.length capn, .slice qp g.pts.length capp] 53])) (fun i => n - i) 0 rfl
    ⟨Nat.zero_le _, rfl, S⟩ ?_
  clear S
  rintro b d3 w13 ⟨hb, hdb, S⟩ K8 hK8
  rw [List.getD_cons_zero, hlvn]
  (first | refine s_p ?_ | refine s_c (by omega) ?_)
  refine c_if (fun hltb => ?_) (fun hgeb => ?_)
  rotate_left
  · have hbe : b = n := by omega
    rw [hbe, range_end] at hdb
    have hF : clF n mu sy a = true := hdb.symm
    rw [hF, Bool.true_and] at hda
    (first | refine s_p ?_ | refine s_c (by omega) ?_)
    rw [show ((a : Int) + 1) = ((a + 1 : Nat) : Int) by omega]
    exact hK7 (a + 1) _ ⟨hlta, hda, S⟩ (by omega)
  have hltb : b < n := by omega
  rw [range_all hltb] at hdb
  (repeat (first | refine s_p ?_ | refine s_c (by omega) ?_ | refine S.ld ?_ | refine S.ldB ?_ | refine S.ce ?_ | refine S.ceB ?_ | refine s_q ?_ | refine s_qc (by omega) ?_ | refine n_some ?_ | rw [List.getD_cons_zero] | rw [List.getD_cons_succ]))
  refine l_intro (ι := Nat) (fun i => [.int .i64 (i : Nat)]) (fun i w' => i ≤ n ∧ ((List.range n).drop i).all (clH sy a b) = (List.range n).all (clH sy a b) ∧
    StX noX w r w' ([.cell b3 (tabC mu) 153, .cell b4 (tabC sy) 153, .cell b1 [.string g.name, .int .i64 g.lv, .slice qo g.outs.length capo, .int .i64 g.pn, .slice qt g.tys.length capt, .slice qn g.nms.length capn, .slice qp g.pts.length capp] 53])) (fun i => n - i) 0 rfl
    ⟨Nat.zero_le _, rfl, S⟩ ?_
  clear S
  have hfalse : clG n mu sy a b = false → (List.range n).all (clF n mu sy) = false := fun e => by
    rw [e, Bool.false_and] at hdb
    have hF : clF n mu sy a = false := hdb.symm
    rw [hF, Bool.false_and] at hda
    exact hda.symm
  rintro cc d4 w14 ⟨hc, hdc, S⟩ K9 hK9
  rw [List.getD_cons_zero, hlvn]
  (first | refine s_p ?_ | refine s_c (by omega) ?_)
  refine c_if (fun hltc => ?_) (fun hgec => ?_)
  · have hltc : cc < n := by omega
    rw [range_all hltc] at hdc
    (first | refine s_p ?_ | refine s_c (by omega) ?_)
    (first | refine s_p ?_ | refine s_c (by omega) ?_)
    refine S.ld (b := b4) ?_ (tab_ld (f := sy) (by omega) (by omega))
    refine j_bandH (c := sy b cc) (fun _ K2 hK2 => ?_) ?_
    · (first | refine s_p ?_ | refine s_c (by omega) ?_)
      (first | refine s_p ?_ | refine s_c (by omega) ?_)
      refine S.ld (b := b4) ?_ (tab_ld (f := sy) (by omega) (by omega))
      exact hK2
    refine j_bandH (c := decide (a ≠ cc)) (fun _ K2 hK2 => ?_) ?_
    · (first | refine s_p ?_ | refine s_c (by omega) ?_)
      rw [show decide ((a : Int) ≠ (cc : Int)) = decide (a ≠ cc) from decide_eq_decide.2 (by omega)]
      exact hK2
    refine j_bandH (c := !sy a cc) (fun _ K2 hK2 => ?_) ?_
    · (first | refine s_p ?_ | refine s_c (by omega) ?_)
      (first | refine s_p ?_ | refine s_c (by omega) ?_)
      refine S.ld (b := b4) ?_ (tab_ld (f := sy) (by omega) (by omega))
      (first | refine s_p ?_ | refine s_c (by omega) ?_)
      exact hK2
    have hH : clH sy a b cc = !(((sy a b && sy b cc) && decide (a ≠ cc)) && !sy a cc) := by
      rw [clH, Bool.and_assoc (sy a b && sy b cc), decide_not]
    refine c_b (fun hbad => ?_) (fun hgood => ?_)
    · rw [hH, hbad] at hdc
      have hA : (List.range n).all (clH sy a b) = false := by rw [← hdc]; rfl
      rw [hfalse (by rw [clG, hA, Bool.false_and])] at h
      exact h _ S.ext
    · rw [hH, hgood, Bool.not_false, Bool.true_and] at hdc
      (first | refine s_p ?_ | refine s_c (by omega) ?_)
      rw [show ((cc : Int) + 1) = ((cc + 1 : Nat) : Int) by omega]
      exact hK9 (cc + 1) _ ⟨hltc, hdc, S⟩ (by omega)
  have hce : cc = n := by omega
  rw [hce, range_end] at hdc
  (first | refine s_p ?_ | refine s_c (by omega) ?_)
  refine j_bandH (c := mu a b) (fun _ K2 hK2 => ?_) ?_
  · (first | refine s_p ?_ | refine s_c (by omega) ?_)
    (first | refine s_p ?_ | refine s_c (by omega) ?_)
    refine S.ld (b := b3) ?_ (tab_ld (f := mu) (by omega) (by omega))
    exact hK2
  refine j_bandH (c := !sy a b) (fun _ K2 hK2 => ?_) ?_
  · (first | refine s_p ?_ | refine s_c (by omega) ?_)
    (first | refine s_p ?_ | refine s_c (by omega) ?_)
    refine S.ld (b := b4) ?_ (tab_ld (f := sy) (by omega) (by omega))
    (first | refine s_p ?_ | refine s_c (by omega) ?_)
    exact hK2
  have hG : clG n mu sy a b = !((decide ((a : Int) ≠ (b : Int)) && mu a b) && !sy a b) := by
    rw [clG, ← hdc, Bool.true_and, Bool.and_assoc, show decide ((a : Int) ≠ (b : Int)) = !decide (a = b) from by rw [← decide_not]; exact decide_eq_decide.2 (by omega)]
  refine c_b (fun hbad => ?_) (fun hgood => ?_)
  · rw [hfalse (by rw [hG, hbad]; rfl)] at h
    exact h _ S.ext
  · rw [hG, hgood, Bool.not_false, Bool.true_and] at hdb
    (first | refine s_p ?_ | refine s_c (by omega) ?_)
    rw [show ((b : Int) + 1) = ((b + 1 : Nat) : Int) by omega]
    exact hK8 (b + 1) _ ⟨hltb, hdb, S⟩ (by omega)
end Go.Proofs
end

section
namespace Go.Sh
open Go.RowKit
theorem StX.stRowN {P : Program} {X : Nat → Prop} {w0 w : World} {r : Gh} {L : List Asr} {e t : TypeId} {sz n cap b i : Nat} {xs : List Value} {f : Asr → List Asr} {cs : Array Value} {K : World → Prop} (S : StX X w0 r w L)
    [h : RowAt (.slice (some ⟨b, 0, none⟩) n cap) L e sz n xs f] [z : SzT P t sz] (hi : i < n) (k : ∀ w', StX X w0 r w' (f (.row (.slice (some ⟨b, 0, none⟩) n cap) e sz n (xs.take (i * sz) ++ cs.toList ++ xs.drop (i * sz + sz)))) → K w')
    (hcs : cs.size = sz := by rfl) (h1 : ∀ u ∈ cs.toList, u.oneCell' = true := by simp [Value.oneCell']) : opU P w (Instr.storeAt t (.pointer (some ⟨b, i * sz, none⟩)) (.agg cs)) K := by
  obtain ⟨pp, qq, h2, h3⟩ := h.h
  have hr := S.has (.row (.slice (some ⟨b, 0, none⟩) n cap) e sz n xs) (by rw [h2]; simp)
  rcases own_blk hr with ⟨h0, _⟩ | ⟨g, cap', c, hv, hb, B, hn, hm, hc, ht⟩
  · cases h0
  cases hv
  have hle : i * sz + sz ≤ n * sz := by rw [← Nat.succ_mul]; exact Nat.mul_le_mul_right _ hi
  have hle2 : n * sz ≤ cap * sz := Nat.mul_le_mul_right _ hn
  refine w_store (v := .agg cs) (by rw [show (Value.agg cs).cells.size = sz from hcs]; exact z.h) B (by rw [show (Value.agg cs).cells.size = sz from hcs]; omega) h1 fun w' x _ B' => k w' ?_
  rw [show (Value.agg cs).cells.size = sz from hcs, show (Value.agg cs).cells = cs from rfl] at B'
  rw [h3]
  rw [h2] at S
  refine S.turn (x := .row (.slice (some ⟨b, 0, none⟩) n cap) e sz n xs) (y := .row (.slice (some ⟨b, 0, none⟩) n cap) e sz n (xs.take (i * sz) ++ cs.toList ++ xs.drop (i * sz + sz))) ⟨x.os, x.tape, x.output, x.size, fun k hk hn => x.block k hk fun he => hn (by subst he; rfl)⟩ ?_ fun k hk => .inl hk
  have hcl : cs.toList.length = sz := by simpa using hcs
  have := own_of_blk (base := 0) (size := sz) (n := n) (cap := cap) (Nat.zero_le _) B' hn hm (by simp only [List.length_append, List.length_take, List.length_drop, hcl, hc]; omega)
  have he : (c.take (i * sz) ++ cs.toList ++ c.drop (i * sz + sz)).take (n * sz) = xs.take (i * sz) ++ cs.toList ++ xs.drop (i * sz + sz) := by
    rw [← ht, List.take_take, Nat.min_eq_left (by omega), List.take_append, List.take_of_length_le (by simp only [List.length_append, List.length_take, hcl, hc]; omega), List.drop_take]
    congr 2
    simp only [List.length_append, List.length_take, hcl, hc]
    omega
  rw [he] at this
  exact this
theorem StX.row0N {X : Nat → Prop} {w0 w : World} {r : Gh} {L : List Asr} {e : TypeId} {sz n cap : Nat} {p : Option Addr} {xs : List Value} {f : Asr → List Asr} (S : StX X w0 r w L)
    (_ : True) [h : RowAt (.slice p n cap) L e sz n xs f] (hn : n ≠ 0) : ∃ b, p = some ⟨b, 0, none⟩ := by
  obtain ⟨b, cap', c, hv, _⟩ := S.rowCell (.slice p n cap) hn
  cases hv
  exact ⟨b, rfl⟩
/-- a number of a row of one's own is written over -/
theorem StX.stRow1 {P : Program} {X : Nat → Prop} {w0 w : World} {r : Gh} {L : List Asr} {e t : TypeId} {n cap b i : Nat} {xs : List Value} {f : Asr → List Asr} {v : Value} {K : World → Prop} (S : StX X w0 r w L)
    [h : RowAt (.slice (some ⟨b, 0, none⟩) n cap) L e 1 n xs f] [z : SzT P t 1] (hi : i < n) (k : ∀ w', StX X w0 r w' (f (.row (.slice (some ⟨b, 0, none⟩) n cap) e 1 n (xs.set i v))) → K w')
    (h1 : v.oneCell' = true := by rfl) : opU P w (Instr.storeAt t (.pointer (some ⟨b, i, none⟩)) v) K := by
  obtain ⟨pp, qq, h2, h3⟩ := h.h
  have hr := S.has (.row (.slice (some ⟨b, 0, none⟩) n cap) e 1 n xs) (by rw [h2]; simp)
  rcases own_blk hr with ⟨h0, _⟩ | ⟨g, cap', c, hv, hb, B, hn, hm, hc, ht⟩
  · cases h0
  cases hv
  refine w_store1 z.h B (by omega) h1 fun w' x _ B' => k w' ?_
  rw [h3]
  rw [h2] at S
  refine S.turn (x := .row (.slice (some ⟨b, 0, none⟩) n cap) e 1 n xs) (y := .row (.slice (some ⟨b, 0, none⟩) n cap) e 1 n (xs.set i v)) ⟨x.os, x.tape, x.output, x.size, fun k hk hn => x.block k hk fun he => hn (by subst he; rfl)⟩ ?_ fun k hk => .inl hk
  have := own_of_blk (base := 0) (size := 1) (n := n) (cap := cap) (Nat.zero_le _) B' hn hm (by rw [List.length_set, hc])
  rw [List.take_set, ht] at this
  exact this
/-- the last one of a row, laid as zero, is filled -/
theorem fill_last {sz n : Nat} {xs z cs : List Value} (hx : xs.length = n * sz) (hz : z.length = sz) : (xs ++ z).take (n * sz) ++ cs ++ (xs ++ z).drop (n * sz + sz) = xs ++ cs := by
  rw [← hx, List.take_left' rfl, List.drop_of_length_le (by rw [List.length_append]; omega), List.append_nil]
end Go.Sh
end

section
namespace Go.Proofs

open Go.Sh

set_option maxRecDepth 100000

set_option linter.unusedSimpArgs false

set_option linter.unusedVariables false

/-! ### Plain -/

/-- a step: the type to which it goes, and how -/
def stepH (ss : List StD) (t : TyD) (k : Int) : Option (TyD × Int) :=
  if k = -1 ∧ t.k = 3 then t.of.head?.map fun u => (u, 1)
  else if k = -1 ∧ t.k = 4 then t.of.head?.map fun u => (u, if t.m then 2 else 3)
  else if 0 ≤ k ∧ t.k = 5 then (tysAt ss t.st)[k.toNat]?.map fun u => (u, 0)
  else none
def walkH (ss : List StD) : List Int → TyD → Option (TyD × List Int)
  | [], t => some (t, [])
  | k :: l, t => (stepH ss t k).bind fun s => (walkH ss l s.1).map fun x => (x.1, s.2 :: x.2)
theorem walkH_snoc (ss : List StD) : ∀ (l : List Int) (k : Int) (t : TyD), walkH ss (l ++ [k]) t = (walkH ss l t).bind fun x => (stepH ss x.1 k).map fun s => (s.1, x.2 ++ [s.2])
  | [], k, t => by
    show (stepH ss t k).bind _ = (stepH ss t k).map _
    cases stepH ss t k <;> rfl
  | x :: l, k, t => by
    rw [List.cons_append, walkH, walkH]
    cases h : stepH ss t x with
    | none => rfl
    | some s =>
      show (walkH ss (l ++ [k]) s.1).map _ = ((walkH ss l s.1).map _).bind _
      rw [walkH_snoc ss l k s.1]
      cases walkH ss l s.1 with
      | none => rfl
      | some y =>
        show ((stepH ss y.1 k).map _).map _ = (stepH ss y.1 k).map _
        cases stepH ss y.1 k <;> rfl
theorem walkH_none {ss : List StD} : ∀ {l m : List Int} {t : TyD}, walkH ss l t = none → walkH ss (l ++ m) t = none
  | [], m, t, h => by cases h
  | x :: l, m, t, h => by
    rw [List.cons_append, walkH]
    rw [walkH] at h
    cases hs : stepH ss t x with
    | none => rfl
    | some s =>
      rw [hs] at h
      have h : (walkH ss l s.1).map (fun x => (x.1, s.2 :: x.2)) = none := h
      have : walkH ss l s.1 = none := by cases hw : walkH ss l s.1 with | none => rfl | some y => rw [hw] at h; cases h
      show (walkH ss (l ++ m) s.1).map _ = none
      rw [walkH_none this]; rfl
theorem walkH_len {ss : List StD} : ∀ {l : List Int} {t : TyD} {x : TyD × List Int}, walkH ss l t = some x → x.2.length = l.length
  | [], t, x, h => by cases h; rfl
  | k :: l, t, x, h => by
    rw [walkH] at h
    cases hs : stepH ss t k with
    | none => rw [hs] at h; cases h
    | some s =>
      rw [hs] at h
      have h : (walkH ss l s.1).map (fun x => (x.1, s.2 :: x.2)) = some x := h
      cases hw : walkH ss l s.1 with
      | none => rw [hw] at h; cases h
      | some y => rw [hw] at h; cases h; simp [walkH_len hw]
theorem stepH_fine {ss : List StD} (hg : Good ss) {t : TyD} {k : Int} {s : TyD × Int} (h : Fine ss t) (e : stepH ss t k = some s) : Fine ss s.1 := by
  have inside : ∀ {n : Int}, t.of.head?.map (fun u => (u, n)) = some s → Fine ss s.1 := by
    intro n e
    rcases h.cases with ⟨h1, _⟩ | ⟨u, h1, h2, _⟩
    · rw [h1] at e; cases e
    · rw [h1] at e; cases e; exact h2
  unfold stepH at e
  split at e
  · exact inside e
  split at e
  · exact inside e
  split at e
  · cases hu : (tysAt ss t.st)[k.toNat]? with
    | none => rw [hu] at e; cases e
    | some u => rw [hu] at e; cases e; exact hg _ u (List.mem_of_getElem? hu)
  · cases e
theorem walkH_fine {ss : List StD} (hg : Good ss) : ∀ {l : List Int} {t : TyD} {x : TyD × List Int}, Fine ss t → walkH ss l t = some x → Fine ss x.1
  | [], t, x, h, e => by cases e; exact h
  | k :: l, t, x, h, e => by
    rw [walkH] at e
    cases hs : stepH ss t k with
    | none => rw [hs] at e; cases e
    | some s =>
      rw [hs] at e
      have e : (walkH ss l s.1).map (fun x => (x.1, s.2 :: x.2)) = some x := e
      cases hw : walkH ss l s.1 with
      | none => rw [hw] at e; cases e
      | some y => rw [hw] at e; cases e; show Fine ss y.1; exact walkH_fine hg (stepH_fine hg h hs) hw
noncomputable def placeO (ss : List StD) (tys : List TyD) (p : PlD) : Bool :=
  ((decide (0 ≤ p.l) && decide (p.l < tys.length)) && decide (p.ps.length ≤ 8)) && (decide ((structsT ss).2 = 0) && tys.all fun t => mayB ss t)
noncomputable def placeW (ss : List StD) (tys : List TyD) (p : PlD) : Option (TyD × List Int) := if placeO ss tys p then walkH ss p.ps (tys.getD p.l.toNat zeroD) else none
noncomputable def placeR (ss : List StD) (tys : List TyD) (p : PlD) : TyD × Int := match placeW ss tys p with | some x => (x.1, 0) | none => (zeroD, 2)
theorem placeW_fine {ss : List StD} {tys : List TyD} {p : PlD} {x : TyD × List Int} (h : placeW ss tys p = some x) : Fine ss x.1 ∧ ss.length ≤ 32 := by
  unfold placeW at h
  split at h
  · rename_i ho
    simp only [placeO, Bool.and_eq_true, decide_eq_true_eq, List.all_eq_true] at ho
    obtain ⟨⟨⟨h1, h2⟩, h3⟩, h4, h5⟩ := ho
    obtain ⟨h32, _, hg, _⟩ := structs_ok h4
    have hlt : p.l.toNat < tys.length := by omega
    have hm := h5 tys[p.l.toNat] (List.getElem_mem hlt)
    have he : tys.getD p.l.toNat zeroD = tys[p.l.toNat] := by rw [List.getD_eq_getElem?_getD, List.getElem?_eq_getElem hlt]; rfl
    rw [he] at h
    exact ⟨walkH_fine hg (may_ok hm).2 h, h32⟩
  · cases h
/-! ### Searching among types -/

theorem c_IndexFunc_ty {f : TyD → Bool} {fv : Value} {w : World} {r : Gh} {q : Option Addr} {l : List TyD} {cap : Nat} {K : Value → World → Prop} (hr : Holds r w) (hl : TysG r q l) (hb : l.length ≤ maxLen)
    (hf : ∀ t ∈ l, ∀ (q : Option Addr) (cap : Nat) (w : World) (K : Value → World → Prop), Holds r w → TyG r (tyV t q cap) t → (∀ w', Ext w w' → K (.bool (f t)) w') → oCallV Try.prog fv #[tyV t q cap] w K)
    (h : ∀ (i : Int) w', Ext w w' → (0 ≤ i ↔ l.any f = true) → K (.int .i64 i) w') : oCall Try.prog Try.n_slices_IndexFunc_api_Type_api_Type #[.slice q l.length cap, fv] w K := by
  refine Try.ok_slices_IndexFunc_api_Type_api_Type ?_
  unfold Try.F_slices_IndexFunc_api_Type_api_Type
  have S := St.start hr
  have hb' : l.length ≤ 9223372036854775807 := hb
  (first | refine s_p ?_ | refine s_c (by omega) ?_)
  refine l_intro (ι := Nat) (fun i => [.int .i64 (i : Nat)]) (fun i w' => i ≤ l.length ∧ (l.take i).any f = false ∧ StX noX w r w' []) (fun i => l.length - i) 0 rfl ⟨Nat.zero_le _, by simp, S⟩ ?_
  clear S
  rintro i d w' ⟨hi, hn, S⟩ K6 hK6
  simp only [List.getD_cons_zero]
  (first | refine s_p ?_ | refine s_c (by omega) ?_)
  refine c_if (fun hlt => ?_) (fun hge => ?_)
  · have hlt : i < l.length := by omega
    obtain ⟨b, off, c, rfl, hc, hcell, hto⟩ := hl i hlt
    obtain ⟨q2, cap2, rfl, ht2⟩ := ty_form hto
    (first | refine s_p ?_ | refine s_c (by omega) ?_)
    refine s_ldN (n := 5) hc (fun j v hj => by rw [Int.toNat_natCast]; exact S.at (hcell j v hj)) ?_
    refine hf l[i] (List.getElem_mem hlt) _ _ _ _ S.holds ht2 fun w2 e2 => ?_
    have S := S.go e2
    have ht : (l.take (i + 1)).any f = ((l.take i).any f || f l[i]) := by
      rw [List.take_succ_eq_append_getElem hlt, List.any_append]; simp only [List.any_cons, List.any_nil, Bool.or_false]
    refine c_b (fun hy => ?_) (fun hno => ?_)
    · refine h _ _ S.ext ⟨fun _ => ?_, fun _ => Int.natCast_nonneg _⟩
      exact List.any_eq_true.2 ⟨l[i], List.getElem_mem hlt, hy⟩
    · (first | refine s_p ?_ | refine s_c (by omega) ?_)
      rw [show ((i : Int) + 1) = ((i + 1 : Nat) : Int) by omega]
      refine hK6 (i + 1) _ ⟨hlt, ?_, S⟩ (by omega)
      rw [ht, hn, hno]; rfl
  · have : i = l.length := by omega
    subst this
    rw [List.take_length] at hn
    exact h _ _ S.ext ⟨fun h => by omega, fun h => by rw [hn] at h; cases h⟩
theorem c_ContainsFunc_ty {f : TyD → Bool} {fv : Value} {w : World} {r : Gh} {q : Option Addr} {l : List TyD} {cap : Nat} {K : Value → World → Prop} (hr : Holds r w) (hl : TysG r q l) (hb : l.length ≤ maxLen)
    (hf : ∀ t ∈ l, ∀ (q : Option Addr) (cap : Nat) (w : World) (K : Value → World → Prop), Holds r w → TyG r (tyV t q cap) t → (∀ w', Ext w w' → K (.bool (f t)) w') → oCallV Try.prog fv #[tyV t q cap] w K)
    (h : ∀ w', Ext w w' → K (.bool (l.any f)) w') : oCall Try.prog Try.n_slices_ContainsFunc_api_Type_api_Type #[.slice q l.length cap, fv] w K := by
  refine Try.ok_slices_ContainsFunc_api_Type_api_Type ?_
  unfold Try.F_slices_ContainsFunc_api_Type_api_Type
  refine c_IndexFunc_ty hr hl hb hf fun i w' e hi => ?_
  (first | refine s_p ?_ | refine s_c (by omega) ?_)
  have e2 : decide (i ≥ 0) = l.any f := by
    by_cases hh : l.any f = true
    · rw [hh]; exact decide_eq_true (hi.2 hh)
    · rw [Bool.eq_false_iff.2 hh]; exact decide_eq_false fun h => hh (hi.1 h)
  rw [e2]; exact h _ e
/-! ### Places -/

theorem placeO_no {ss : List StD} {tys : List TyD} {p : PlD} (h : placeO ss tys p = false) : placeW ss tys p = none := by rw [placeW, h]; rfl
set_option maxHeartbeats 2000000 in
theorem c_place_walk {ss : List StD} {tys : List TyD} {p : PlD} {c : List Value} {p0 q : Option Addr} {cap0 capt : Nat} {w : World} {r : Gh} {K : Value → World → Prop} (hr : Holds r w) (hs : StG r p0 ss) (ht : TysG r q tys) (htl : tys.length ≤ maxLen) (hp : PlG r c p)
    (hN : ∀ w', placeW ss tys p = none → Ext w w' → K (.tuple #[zeroV, .slice none 0 0, .bool false]) w')
    (hS : ∀ t g q cap vg s w', placeW ss tys p = some (t, g) → Ext w w' → New w s w' → TyG r (tyV t q cap) t → SlG 1 s IntC vg g → K (.tuple #[tyV t q cap, vg, .bool true]) w') :
    oCall Try.prog Try.n_place_walk #[.slice p0 ss.length cap0, .slice q tys.length capt, .agg c.toArray] w K := by
  obtain ⟨v, rfl, hl⟩ := hp
  obtain ⟨qs, caps, rfl, _, _⟩ := hl.sl.shape
  have hbl := hl.lt
  have htl' : tys.length ≤ 9223372036854775807 := htl
  refine Try.ok_place_walk ?_
  unfold Try.F_place_walk
  have S := St.start hr
  refine S.box fun b3 w1 S => ?_
  refine S.box fun b5 w2 S => ?_
  refine S.al fun b6 w3 S => ?_
  have S : StX noX w r w3 [.cell b6 zeroL 25, .cell b5 [.int .i64 p.l, .slice qs p.ps.length caps] 58, .cell b3 [.slice p0 ss.length cap0] 40] := S
  (repeat (first | refine s_p ?_ | refine s_c (by omega) ?_ | refine S.ld ?_ | refine S.ldB ?_ | refine S.ce ?_ | refine S.ceB ?_ | refine s_q ?_ | refine s_qc (by omega) ?_ | refine n_some ?_ | rw [List.getD_cons_zero] | rw [List.getD_cons_succ]))
  refine j_borH (c := decide ((tys.length : Int) ≤ p.l)) (fun _ K2 hK2 => ?_) ?_
  · (repeat (first | refine s_p ?_ | refine s_c (by omega) ?_ | refine S.ld ?_ | refine S.ldB ?_ | refine S.ce ?_ | refine S.ceB ?_ | refine s_q ?_ | refine s_qc (by omega) ?_ | refine n_some ?_ | rw [List.getD_cons_zero] | rw [List.getD_cons_succ]))
    exact hK2
  refine j_borH (c := decide (8 < p.ps.length)) (fun _ K2 hK2 => ?_) ?_
  · (repeat (first | refine s_p ?_ | refine s_c (by omega) ?_ | refine S.ld ?_ | refine S.ldB ?_ | refine S.ce ?_ | refine S.ceB ?_ | refine s_q ?_ | refine s_qc (by omega) ?_ | refine n_some ?_ | rw [List.getD_cons_zero] | rw [List.getD_cons_succ]))
    rw [show decide ((8 : Int) < (p.ps.length : Int)) = decide (8 < p.ps.length) from decide_eq_decide.2 (by omega)]
    exact hK2
  refine c_b (fun hbad => ?_) (fun hgood => ?_)
  · have hn : placeO ss tys p = false := by
      cases e : placeO ss tys p
      · rfl
      · simp only [placeO, Bool.and_eq_true, decide_eq_true_eq] at e
        simp only [Bool.or_eq_true, decide_eq_true_eq] at hbad; omega
    refine S.ldB (b := b6) ?_ rfl
    refine S.stB (b := b6) fun w4 S => ?_
    (repeat (first | refine s_p ?_ | refine s_c (by omega) ?_ | refine S.ld ?_ | refine S.ldB ?_ | refine S.ce ?_ | refine S.ceB ?_ | refine s_q ?_ | refine s_qc (by omega) ?_ | refine n_some ?_ | rw [List.getD_cons_zero] | rw [List.getD_cons_succ]))
    exact hN _ (placeO_no hn) S.ext
  have hlo : (0 ≤ p.l ∧ p.l < tys.length) ∧ p.ps.length ≤ 8 := by
    simp only [Bool.or_eq_false_iff, decide_eq_false_iff_not] at hgood; omega
  clear hgood
  obtain ⟨⟨hl0, hl1⟩, hl8⟩ := hlo
  (repeat (first | refine s_p ?_ | refine s_c (by omega) ?_ | refine S.ld ?_ | refine S.ldB ?_ | refine S.ce ?_ | refine S.ceB ?_ | refine s_q ?_ | refine s_qc (by omega) ?_ | refine n_some ?_ | rw [List.getD_cons_zero] | rw [List.getD_cons_succ]))
  refine c_types_Structs S.holds hs fun w4 e4 => ?_
  have S := S.go e4
  (repeat (first | refine s_p ?_ | refine s_c (by omega) ?_))
  have S := S.frzAt b3
  refine j_borE (c := tys.any fun t => !mayB ss t) (fun _ K2 hK2 => ?_) fun w5 e5 => ?_
  · (first | refine s_p ?_ | refine s_c (by omega) ?_)
    refine c_ContainsFunc_ty (f := fun t => !mayB ss t) S.holds (TysG.up ht) htl (fun t _ q cap w K hr htt hK => ?_) fun w6 e6 => ?_
    · refine v_f11 (by kernel_rfl) ?_
      refine Try.ok_place_walk_1 ?_
      unfold Try.F_place_walk_1
      have B : Blk w b3 [.slice p0 ss.length cap0] 40 := hr b3 _ (.inr ⟨rfl, rfl⟩)
      have S := St.start hr
      refine S.box fun b1 w1 S => ?_
      have S : StX noX w _ w1 [.cell b1 (tyL t q cap) 25] := S
      refine s_ld1 (v := .slice p0 ss.length cap0) (by
        have B : Blk w1 b3 [.slice p0 ss.length cap0] 40 := S.holds b3 _ (.inr ⟨rfl, rfl⟩)
        rw [B.cell]; rfl) ?_
      refine S.ldB (b := b1) ?_ rfl
      refine c_types_May S.holds hs.up htt fun w2 e2 => ?_
      (first | refine s_p ?_ | refine s_c (by omega) ?_)
      exact hK _ (S.go e2).ext
    exact hK2 _ e6
  have S := S.go e5
  refine c_b (fun hbad => ?_) (fun hgood => ?_)
  · have hn : placeO ss tys p = false := by
      cases e : placeO ss tys p
      · rfl
      · simp only [placeO, Bool.and_eq_true, decide_eq_true_eq, List.all_eq_true] at e
        simp only [Bool.or_eq_true, decide_eq_true_eq, List.any_eq_true, Bool.not_eq_true'] at hbad
        rcases hbad with h1 | ⟨t, h1, h2⟩
        · exact absurd e.2.1 h1
        · rw [e.2.2 t h1] at h2; cases h2
    refine S.ldB (b := b6) ?_ rfl
    refine S.stB (b := b6) fun w4 S => ?_
    (repeat (first | refine s_p ?_ | refine s_c (by omega) ?_ | refine S.ld ?_ | refine S.ldB ?_ | refine S.ce ?_ | refine S.ceB ?_ | refine s_q ?_ | refine s_qc (by omega) ?_ | refine n_some ?_ | rw [List.getD_cons_zero] | rw [List.getD_cons_succ]))
    exact hN _ (placeO_no hn) S.ext
  have hok : (structsT ss).2 = 0 ∧ ∀ t ∈ tys, mayB ss t = true := by
    simp only [Bool.or_eq_false_iff, decide_eq_false_iff_not, List.any_eq_false, Bool.not_eq_true', Bool.not_eq_false] at hgood
    exact ⟨by omega, hgood.2⟩
  clear hgood
  obtain ⟨hst, hmay⟩ := hok
  obtain ⟨h32, _, hg, _⟩ := structs_ok hst
  have hO : placeO ss tys p = true := by
    simp only [placeO, Bool.and_eq_true, decide_eq_true_eq, List.all_eq_true]
    exact ⟨⟨⟨hl0, hl1⟩, hl8⟩, hst, hmay⟩
  have hlt0 : p.l.toNat < tys.length := by omega
  have hW : placeW ss tys p = walkH ss p.ps tys[p.l.toNat] := by
    rw [placeW, if_pos hO, List.getD_eq_getElem?_getD, List.getElem?_eq_getElem hlt0]; rfl
  rw [hW] at hN hS
  obtain ⟨bt, ot, ct, rfl, hct, hcell, htc⟩ := ht p.l.toNat hlt0
  have hfi : Fine ss tys[p.l.toNat] := (may_ok (hmay _ (List.getElem_mem hlt0))).2
  generalize tys[p.l.toNat] = t0 at hN hS htc hfi
  obtain ⟨q0, cap1, rfl, ht0⟩ := ty_form htc
  (repeat (first | refine s_p ?_ | refine s_c (by omega) ?_ | refine S.ld ?_ | refine S.ldB ?_ | refine S.ce ?_ | refine S.ceB ?_ | refine s_q ?_ | refine s_qc (by omega) ?_ | refine n_some ?_ | rw [List.getD_cons_zero] | rw [List.getD_cons_succ]))
  refine s_ldN (n := 5) hct (fun j v hj => S.at (hcell j v hj)) ?_
  refine S.stB (b := b6) fun w7 S => ?_
  (repeat (first | refine s_p ?_ | refine s_c (by omega) ?_ | refine S.ld ?_ | refine S.ldB ?_ | refine S.ce ?_ | refine S.ceB ?_ | refine s_q ?_ | refine s_qc (by omega) ?_ | refine n_some ?_ | rw [List.getD_cons_zero] | rw [List.getD_cons_succ]))
  have S := S.ownNil 3 1
  refine l_intro (ι := Nat × Value × TyD × Option Addr × Nat × List Int) (fun i => [i.2.1, .int .i64 (i.1 : Nat)]) (fun i w' => i.1 ≤ p.ps.length ∧ walkH ss (p.ps.take i.1) t0 = some (i.2.2.1, i.2.2.2.2.2) ∧ TyG r (tyV i.2.2.1 i.2.2.2.1 i.2.2.2.2.1) i.2.2.1 ∧
    StX noX w (r.or (one b3 [.slice p0 ss.length cap0] 40)) w' [.row i.2.1 3 1 i.1 (ints i.2.2.2.2.2), .cell b6 (tyL i.2.2.1 i.2.2.2.1 i.2.2.2.2.1) 25, .cell b5 [.int .i64 p.l, .slice qs p.ps.length caps] 58]) (fun i => p.ps.length - i.1) (0, .slice none 0 0, t0, q0, cap1, []) rfl ⟨Nat.zero_le _, rfl, ht0, S⟩ ?_
  clear S
  rintro ⟨i, vg, t, q, cap, g⟩ d w8 ⟨hi, hw, htt, S⟩ K6 hK6
  simp only at hi hw htt S ⊢
  simp only [List.getD_cons_zero, List.getD_cons_succ]
  (first | refine s_p ?_ | refine s_c (by omega) ?_)
  have hft : Fine ss t := walkH_fine hg hfi hw
  have hgl : g.length = (p.ps.take i).length := walkH_len hw
  rw [List.length_take] at hgl
  refine c_if (fun hlt => ?_) (fun hge => ?_)
  rotate_left
  · have hie : i = p.ps.length := by omega
    rw [hie, List.take_length] at hw
    have hvo := S.row1 vg
    refine S.ldB (b := b6) ?_ rfl
    refine S.stB (b := b6) fun w9 S => ?_
    (repeat (first | refine s_p ?_ | refine s_c (by omega) ?_ | refine S.ld ?_ | refine S.ldB ?_ | refine S.ce ?_ | refine S.ceB ?_ | refine s_q ?_ | refine s_qc (by omega) ?_ | refine n_some ?_ | rw [List.getD_cons_zero] | rw [List.getD_cons_succ]))
    obtain ⟨s, S, hsl, _, hab⟩ := S.doneRow (l := g) (R := IntC) (sz := 1) ⟨by rw [ints_len, Nat.mul_one], fun j hj => by
      show _ = _
      rw [Nat.mul_one, ints, ← List.map_drop, ← List.map_take, List.drop_eq_getElem_cons hj]; rfl⟩ (by decide) (by omega)
    exact hS _ _ _ _ _ s _ hw S.ext (S.newOf fun b o ho => (hab b o ho).resolve_right id) htt hsl
  have hlt : i < p.ps.length := by omega
  obtain ⟨k, hke⟩ : ∃ k, p.ps[i] = k := ⟨_, rfl⟩
  obtain ⟨bs, os, cs, rfl, hcs, hck, hcl⟩ := hl.sl.get (by decide) hlt
  rw [hke] at hck
  obtain ⟨rfl, hin⟩ := hck
  have hstep : walkH ss (p.ps.take (i + 1)) t0 = (stepH ss t k).map fun s => (s.1, g ++ [s.2]) := by
    rw [List.take_succ_eq_append_getElem hlt, walkH_snoc, hw, hke]; rfl
  have hbadk : stepH ss t k = none → walkH ss p.ps t0 = none := fun e => by
    have := walkH_none (m := p.ps.drop (i + 1)) (hstep.trans (by rw [e]; rfl))
    rwa [List.take_append_drop] at this
  have down : (t.k = 3 ∨ t.k = 4) → ∃ uu, t.of = [uu] := by
    intro hk
    rcases hft.cases with ⟨_, h1⟩ | ⟨uu, h1, _⟩
    · omega
    · exact ⟨uu, h1⟩
  refine j_intro (fun s w' => ∃ how t' q' cap' v', stepH ss t k = some (t', how) ∧ s = [v'] ∧ TyG r (tyV t' q' cap') t' ∧
    StX noX w (r.or (one b3 [.slice p0 ss.length cap0] 40)) w' [.row v' 3 1 (i + 1) (ints (g ++ [how])), .cell b6 (tyL t' q' cap') 25, .cell b5 [.int .i64 p.l, .slice (some ⟨bs, os, none⟩) p.ps.length caps] 58]) (fun K27 hK27 => ?_) ?_
  rotate_left
  · rintro _ w9 ⟨how, t', q', cap', v', h1, rfl, h2, S⟩ d9
    rw [List.getD_cons_zero]
    (first | refine s_p ?_ | refine s_c (by omega) ?_)
    rw [show ((i : Int) + 1) = ((i + 1 : Nat) : Int) by omega]
    exact hK6 (i + 1, v', t', q', cap', g ++ [how]) _ ⟨hlt, hstep.trans (by rw [h1]; rfl), h2, S⟩ (by show p.ps.length - (i + 1) < p.ps.length - i; omega)
  (first | refine s_p ?_ | refine s_c (by omega) ?_)
  refine s_ld1 (v := .int .i64 k) (by simpa using S.at (hcl 0 _ rfl)) ?_
  refine j_intro (fun s w' => w' = w8 ∧ ∃ how : Int, s = [vg, .int .i64 how] ∧ ((k = -1 ∧ t.k = 3 ∧ how = 1) ∨ (k = -1 ∧ t.k = 4 ∧ how = if t.m then 2 else 3) ∨ (0 ≤ k ∧ t.k = 5 ∧ k < (tysAt ss t.st).length ∧ how = 0))) (fun K31 hK31 => ?_) ?_
  · (first | refine s_p ?_ | refine s_c (by omega) ?_)
    refine j_bandH (c := decide (t.k = 3)) (fun _ K2 hK2 => ?_) ?_
    · (repeat (first | refine s_p ?_ | refine s_c (by omega) ?_ | refine S.ld ?_ | refine S.ldB ?_ | refine S.ce ?_ | refine S.ceB ?_ | refine s_q ?_ | refine s_qc (by omega) ?_ | refine n_some ?_ | rw [List.getD_cons_zero] | rw [List.getD_cons_succ]))
      exact hK2
    refine c_b (fun hB => ?_) (fun hB => ?_)
    · have hB : k = -1 ∧ t.k = 3 := by simpa using hB
      exact hK31 _ _ ⟨rfl, 1, rfl, .inl ⟨hB.1, hB.2, rfl⟩⟩
    have hB : ¬ (k = -1 ∧ t.k = 3) := by simpa using hB
    (first | refine s_p ?_ | refine s_c (by omega) ?_)
    refine j_bandH (c := decide (t.k = 4)) (fun _ K2 hK2 => ?_) ?_
    · (repeat (first | refine s_p ?_ | refine s_c (by omega) ?_ | refine S.ld ?_ | refine S.ldB ?_ | refine S.ce ?_ | refine S.ceB ?_ | refine s_q ?_ | refine s_qc (by omega) ?_ | refine n_some ?_ | rw [List.getD_cons_zero] | rw [List.getD_cons_succ]))
      exact hK2
    refine j_bandH (c := t.m) (fun _ K2 hK2 => ?_) ?_
    · (repeat (first | refine s_p ?_ | refine s_c (by omega) ?_ | refine S.ld ?_ | refine S.ldB ?_ | refine S.ce ?_ | refine S.ceB ?_ | refine s_q ?_ | refine s_qc (by omega) ?_ | refine n_some ?_ | rw [List.getD_cons_zero] | rw [List.getD_cons_succ]))
      exact hK2
    refine c_b (fun hM => ?_) (fun hM => ?_)
    · have hM : (k = -1 ∧ t.k = 4) ∧ t.m = true := by simpa using hM
      exact hK31 _ _ ⟨rfl, 2, rfl, .inr (.inl ⟨hM.1.1, hM.1.2, by rw [hM.2]; rfl⟩)⟩
    (first | refine s_p ?_ | refine s_c (by omega) ?_)
    refine j_bandH (c := decide (t.k = 4)) (fun _ K2 hK2 => ?_) ?_
    · (repeat (first | refine s_p ?_ | refine s_c (by omega) ?_ | refine S.ld ?_ | refine S.ldB ?_ | refine S.ce ?_ | refine S.ceB ?_ | refine s_q ?_ | refine s_qc (by omega) ?_ | refine n_some ?_ | rw [List.getD_cons_zero] | rw [List.getD_cons_succ]))
      exact hK2
    refine c_b (fun hR => ?_) (fun hR => ?_)
    · have hR : k = -1 ∧ t.k = 4 := by simpa using hR
      have hm : t.m = false := by
        cases e : t.m
        · rfl
        · rw [e, decide_eq_true hR.1, decide_eq_true hR.2] at hM; cases hM
      exact hK31 _ _ ⟨rfl, 3, rfl, .inr (.inl ⟨hR.1, hR.2, by rw [hm]; rfl⟩)⟩
    have hR : ¬ (k = -1 ∧ t.k = 4) := by simpa using hR
    (repeat (first | refine s_p ?_ | refine s_c (by omega) ?_ | refine S.ld ?_ | refine S.ldB ?_ | refine S.ce ?_ | refine S.ceB ?_ | refine s_q ?_ | refine s_qc (by omega) ?_ | refine n_some ?_ | rw [List.getD_cons_zero] | rw [List.getD_cons_succ]))
    refine j_borH (c := decide (k < 0)) (fun _ K2 hK2 => ?_) ?_
    · (repeat (first | refine s_p ?_ | refine s_c (by omega) ?_ | refine S.ld ?_ | refine S.ldB ?_ | refine S.ce ?_ | refine S.ceB ?_ | refine s_q ?_ | refine s_qc (by omega) ?_ | refine n_some ?_ | rw [List.getD_cons_zero] | rw [List.getD_cons_succ]))
      exact hK2
    refine j_borH (c := decide (((tysAt ss t.st).length : Int) ≤ k)) (fun h5 K2 hK2 => ?_) ?_
    · have h5 : t.k = 5 ∧ 0 ≤ k := by simpa using h5
      obtain ⟨hst0, hst1⟩ := hft.st h5.1
      have hslt : t.st.toNat < ss.length := by omega
      obtain ⟨b, off, q9, capq, rfl, hcell9, _, _, hfl⟩ := st_at hs hslt
      have hlen : (tysAt ss t.st).length = ss[t.st.toNat].fs.length := by
        rw [← tysAt_len hslt]; simp only [tysAt, Int.toNat_natCast]
      refine s_ld1 (v := .slice (some ⟨b, off, none⟩) ss.length cap0) (by
        have B : Blk w8 b3 [.slice (some ⟨b, off, none⟩) ss.length cap0] 40 := S.holds b3 _ (.inr ⟨rfl, rfl⟩)
        rw [B.cell]; rfl) ?_
      (repeat (first | refine s_p ?_ | refine s_c (by omega) ?_ | refine S.ld ?_ | refine S.ldB ?_ | refine S.ce ?_ | refine S.ceB ?_ | refine s_q ?_ | refine s_qc (by omega) ?_ | refine n_some ?_ | rw [List.getD_cons_zero] | rw [List.getD_cons_succ]))
      refine s_ld1 (S.at hcell9) ?_
      (repeat (first | refine s_p ?_ | refine s_c (by omega) ?_ | refine S.ld ?_ | refine S.ldB ?_ | refine S.ce ?_ | refine S.ceB ?_ | refine s_q ?_ | refine s_qc (by omega) ?_ | refine n_some ?_ | rw [List.getD_cons_zero] | rw [List.getD_cons_succ]))
      rw [← hlen]
      exact hK2
    refine c_b (fun hX => ?_) (fun hX => ?_)
    · have hnone : stepH ss t k = none := by
        rw [stepH, if_neg hB, if_neg hR]
        split
        · rename_i h5
          have h50 := h5.1
          rw [List.getElem?_eq_none]
          · rfl
          · have : ((tysAt ss t.st).length : Int) ≤ k := by
              simp only [Bool.or_eq_true, decide_eq_true_eq] at hX; omega
            omega
        · rfl
      refine p_build (cs := #[.int .u8 0, .bool false, .int .i64 0, .int .i64 0, .slice none 0 0]) (by kernel_rfl) ?_
      refine S.stB (b := b6) fun w9 S => ?_
      (repeat (first | refine s_p ?_ | refine s_c (by omega) ?_ | refine S.ld ?_ | refine S.ldB ?_ | refine S.ce ?_ | refine S.ceB ?_ | refine s_q ?_ | refine s_qc (by omega) ?_ | refine n_some ?_ | rw [List.getD_cons_zero] | rw [List.getD_cons_succ]))
      exact hN _ (hbadk hnone) S.ext
    · have hX : (t.k = 5 ∧ 0 ≤ k) ∧ k < (tysAt ss t.st).length := by
        simp only [Bool.or_eq_false_iff, decide_eq_false_iff_not] at hX; omega
      exact hK31 _ _ ⟨rfl, 0, rfl, .inr (.inr ⟨hX.1.2, hX.1.1, hX.2, rfl⟩)⟩
  rintro _ _ ⟨rfl, how, rfl, hcase⟩ d10
  simp only [List.getD_cons_zero, List.getD_cons_succ]
  refine S.lit (e := 3) (cs := [.int .i64 how]) (by kernel_rfl) fun b9 w9 S => ?_
  refine S.ap (m' := 1) (Sl.blk (S.blk b9)) (fun v9 w10 S => ?_) (by omega)
  have S := S.tl
  have hins : ints g ++ [.int .i64 how] = ints (g ++ [how]) := by rw [ints, ints, List.map_append]; rfl
  rw [hins] at S
  (first | refine s_p ?_ | refine s_c (by omega) ?_)
  refine c_if (fun hz => ?_) (fun hnz => ?_)
  · have h5 : 0 ≤ k ∧ t.k = 5 ∧ k < (tysAt ss t.st).length := by
      rcases hcase with ⟨_, _, h⟩ | ⟨_, _, h⟩ | ⟨h1, h2, h3, _⟩
      · omega
      · split at h <;> omega
      · exact ⟨h1, h2, h3⟩
    obtain ⟨hk0, hk5, hkl⟩ := h5
    obtain ⟨hst0, hst1⟩ := hft.st hk5
    have hslt : t.st.toNat < ss.length := by omega
    obtain ⟨b, off, q9, capq, rfl, hcell9, _, _, hfl⟩ := st_at hs hslt
    have htl2 : tysAt ss t.st = ss[t.st.toNat].fs.map (·.2) := by
      rw [← tysAt_eq hslt]; simp only [tysAt, Int.toNat_natCast]
    have hkf : k.toNat < ss[t.st.toNat].fs.length := by
      rw [htl2, List.length_map] at hkl; omega
    obtain ⟨b10, off9, c9, rfl, hc9, hcell8, ht9⟩ := fl_at hfl hkf
    obtain ⟨q2, cap2, rfl, ht2⟩ := ty_form ht9
    refine s_ld1 (v := .slice (some ⟨b, off, none⟩) ss.length cap0) (by
      have B : Blk w10 b3 [.slice (some ⟨b, off, none⟩) ss.length cap0] 40 := S.holds b3 _ (.inr ⟨rfl, rfl⟩)
      rw [B.cell]; rfl) ?_
    (repeat (first | refine s_p ?_ | refine s_c (by omega) ?_ | refine S.ld ?_ | refine S.ldB ?_ | refine S.ce ?_ | refine S.ceB ?_ | refine s_q ?_ | refine s_qc (by omega) ?_ | refine n_some ?_ | rw [List.getD_cons_zero] | rw [List.getD_cons_succ]))
    refine s_ld1 (S.at hcell9) ?_
    (repeat (first | refine s_p ?_ | refine s_c (by omega) ?_ | refine S.ld ?_ | refine S.ldB ?_ | refine S.ce ?_ | refine S.ceB ?_ | refine s_q ?_ | refine s_qc (by omega) ?_ | refine n_some ?_ | rw [List.getD_cons_zero] | rw [List.getD_cons_succ]))
    refine s_ldN (n := 5) (c := tyL _ q2 cap2) rfl (fun j v hj => by have := S.at (hcell8 (j + 1) v hj); rwa [show off9 + k.toNat * 6 + (j + 1) = off9 + k.toNat * 6 + 1 + j by omega] at this) ?_
    refine S.stB (b := b6) fun w11 S => ?_
    refine hK27 _ _ ⟨how, _, q2, cap2, v9, ?_, rfl, ht2, S⟩
    rw [stepH, if_neg (by omega), if_neg (by omega), if_pos ⟨hk0, hk5⟩, htl2, List.getElem?_map, List.getElem?_eq_getElem hkf, hz]; rfl
  · have h34 : k = -1 ∧ ((t.k = 3 ∧ how = 1) ∨ (t.k = 4 ∧ how = if t.m then 2 else 3)) := by
      rcases hcase with ⟨h1, h2, h⟩ | ⟨h1, h2, h⟩ | ⟨h1, h2, h3, h⟩
      · exact ⟨h1, .inl ⟨h2, h⟩⟩
      · exact ⟨h1, .inr ⟨h2, h⟩⟩
      · exact absurd h hnz
    obtain ⟨hk1, h34⟩ := h34
    obtain ⟨uu, hof⟩ := down (h34.imp (·.1) (·.1))
    obtain ⟨bo, oo, q2, cap2, rfl, ht2, hcc⟩ := ty_in htt hof
    have hl1 : t.of.length = 1 := by rw [hof]; rfl
    (repeat (first | refine s_p ?_ | refine s_c (by omega) ?_ | refine S.ld ?_ | refine S.ldB ?_ | refine S.ce ?_ | refine S.ceB ?_ | refine s_q ?_ | refine s_qc (by omega) ?_ | refine n_some ?_ | rw [List.getD_cons_zero] | rw [List.getD_cons_succ]))
    refine s_ldN (n := 5) (c := tyL uu q2 cap2) rfl (fun j v hj => by simpa using S.at (hcc j v hj)) ?_
    refine S.stB (b := b6) fun w11 S => ?_
    refine hK27 _ _ ⟨how, uu, q2, cap2, v9, ?_, rfl, ht2, S⟩
    rcases h34 with ⟨h1, h2⟩ | ⟨h1, h2⟩
    · rw [stepH, if_pos ⟨hk1, h1⟩, hof, h2]; rfl
    · rw [stepH, if_neg (by omega), if_pos ⟨hk1, h1⟩, hof, h2]; rfl
theorem c_place_May {ss : List StD} {tys : List TyD} {p : PlD} {c : List Value} {p0 q : Option Addr} {cap0 capt : Nat} {w : World} {r : Gh} {K : Value → World → Prop} (hr : Holds r w) (hs : StG r p0 ss) (ht : TysG r q tys) (htl : tys.length ≤ maxLen) (hp : PlG r c p)
    (h : ∀ w', Ext w w' → K (.bool (placeW ss tys p).isSome) w') : oCall Try.prog Try.n_place_May #[.slice p0 ss.length cap0, .slice q tys.length capt, .agg c.toArray] w K := by
  refine Try.ok_place_May ?_
  unfold Try.F_place_May
  obtain ⟨v, rfl, hl⟩ := id hp
  obtain ⟨qs, caps, rfl, _, _⟩ := hl.sl.shape
  have S := St.start hr
  refine S.box fun b5 w1 S => ?_
  have S : StX noX w r w1 [.cell b5 [.int .i64 p.l, .slice qs p.ps.length caps] 58] := S
  refine S.ldB (b := b5) ?_ rfl
  refine c_place_walk S.holds hs ht htl hp (fun w2 hn e2 => ?_) fun t g q cap vg s w2 hsm e2 n2 htt hg => ?_
  · have S := S.go e2
    (first | refine s_p ?_ | refine s_c (by omega) ?_)
    (first | refine s_p ?_ | refine s_c (by omega) ?_)
    (first | refine s_p ?_ | refine s_c (by omega) ?_)
    refine S.al fun b7 w3 S => ?_
    refine S.stB (b := b7) fun w4 S => ?_
    have := h _ S.ext
    rw [hn] at this; exact this
  · have S := S.go e2
    (first | refine s_p ?_ | refine s_c (by omega) ?_)
    (first | refine s_p ?_ | refine s_c (by omega) ?_)
    (first | refine s_p ?_ | refine s_c (by omega) ?_)
    refine S.al fun b7 w3 S => ?_
    refine S.stB (b := b7) fun w4 S => ?_
    have := h _ S.ext
    rw [hsm] at this; exact this
theorem c_place_Type {ss : List StD} {tys : List TyD} {p : PlD} {c : List Value} {p0 q : Option Addr} {cap0 capt : Nat} {w : World} {r : Gh} {K : Value → World → Prop} (hr : Holds r w) (hs : StG r p0 ss) (ht : TysG r q tys) (htl : tys.length ≤ maxLen) (hp : PlG r c p)
    (h : ∀ v' sn w', Ext w w' → New w sn w' → TyG sn v' (placeR ss tys p).1 → ChnG sn v' (placeR ss tys p).1 → K (.tuple #[v', .int .i64 (placeR ss tys p).2]) w') : oCall Try.prog Try.n_place_Type #[.slice p0 ss.length cap0, .slice q tys.length capt, .agg c.toArray] w K := by
  refine Try.ok_place_Type ?_
  unfold Try.F_place_Type
  obtain ⟨v, rfl, hl⟩ := id hp
  obtain ⟨qs, caps, rfl, _, _⟩ := hl.sl.shape
  have S := St.start hr
  refine S.box fun b5 w1 S => ?_
  have S : StX noX w r w1 [.cell b5 [.int .i64 p.l, .slice qs p.ps.length caps] 58] := S
  refine S.al fun b6 w2 S => ?_
  refine S.ldB (b := b5) ?_ rfl
  unfold placeR at h
  refine c_place_walk S.holds hs ht htl hp (fun w2 hn e2 => ?_) fun t g q cap vg s w2 hsm e2 n2 htt hg => ?_
  · have S := S.go e2
    rw [hn] at h
    (first | refine s_p ?_ | refine s_c (by omega) ?_)
    (first | refine s_p ?_ | refine s_c (by omega) ?_)
    (first | refine s_p ?_ | refine s_c (by omega) ?_)
    refine S.al fun b7 w3 S => ?_
    refine S.stB (b := b7) fun w4 S => ?_
    (first | refine s_p ?_ | refine s_c (by omega) ?_)
    refine c_t rfl ?_
    refine p_build (cs := #[.int .u8 0, .bool false, .int .i64 0, .int .i64 0, .slice none 0 0]) (by kernel_rfl) ?_
    refine S.stB (b := b6) fun w5 S => ?_
    (repeat (first | refine s_p ?_ | refine s_c (by omega) ?_ | refine S.ld ?_ | refine S.ldB ?_ | refine S.ce ?_ | refine S.ceB ?_ | refine s_q ?_ | refine s_qc (by omega) ?_ | refine n_some ?_ | rw [List.getD_cons_zero] | rw [List.getD_cons_succ]))
    exact h _ nothing _ S.ext New.nothing ty_leaf .nil
  · have S := S.go e2
    rw [hsm] at h
    have hB : isB t = true := (placeW_fine hsm).1.is (placeW_fine hsm).2
    (first | refine s_p ?_ | refine s_c (by omega) ?_)
    (first | refine s_p ?_ | refine s_c (by omega) ?_)
    (first | refine s_p ?_ | refine s_c (by omega) ?_)
    refine S.al fun b7 w3 S => ?_
    refine S.stB (b := b7) fun w4 S => ?_
    (first | refine s_p ?_ | refine s_c (by omega) ?_)
    refine c_f rfl ?_
    refine S.ldB (b := b7) ?_ rfl
    refine c_types_Own S.holds htt fun v5 sn w5 e5 n5 h5 hc5 => ?_
    rw [hB] at h5 hc5 ⊢
    obtain ⟨S, d5, a5⟩ := S.tell e5 n5
    have h50 := h5
    obtain ⟨p5, cap5, rfl, _⟩ := h5
    (first | refine s_p ?_ | refine s_c (by omega) ?_)
    (first | refine s_p ?_ | refine s_c (by omega) ?_)
    refine S.stB (b := b6) fun w6 S => ?_
    (repeat (first | refine s_p ?_ | refine s_c (by omega) ?_ | refine S.ld ?_ | refine S.ldB ?_ | refine S.ce ?_ | refine S.ceB ?_ | refine s_q ?_ | refine s_qc (by omega) ?_ | refine n_some ?_ | rw [List.getD_cons_zero] | rw [List.getD_cons_succ]))
    exact h _ sn _ S.ext (S.newOf a5) h50 hc5
end Go.Proofs
end

section
namespace Go.Sh
open Go.RowKit Go.MapKept
set_option linter.unusedVariables false
def zr1 (P : Program) (t : TypeId) : Option Value := (P.info? t).bind fun i => i.zero
theorem run_zero1 {P : Program} {t : TypeId} {z : Value} (hz : zr1 P t = some z) (w : World) : (zeroValue t).run P w = .ok z w := by
  unfold zr1 at hz
  cases hi : P.info? t with
  | none => rw [hi] at hz; cases hz
  | some i =>
    rw [hi] at hz
    have hz : i.zero = some z := hz
    simp [zeroValue, typeInfo, Sem.run, pure, hi, hz, Sem.run_bind, Result.andThen]
def mpT (P : Program) (t : TypeId) : Option (TypeId × TypeId) := match P.underlying t with
  | some (.map k e) => (match P.underlying k with | some .string => some (k, e) | _ => none)
  | _ => none
theorem mpT_spec {P : Program} {t k e : TypeId} (h : mpT P t = some (k, e)) : P.underlying t = some (.map k e) ∧ P.underlying k = some .string := by
  unfold mpT at h
  split at h
  · rename_i k' e' h1
    split at h
    · rename_i h2
      cases h; exact ⟨h1, h2⟩
    · cases h
  · cases h
/-- what a map of strings tells of one -/
def mGet (x : ByteArray) : List MapEntry → Option Value
  | [] => none
  | m :: l => match m.key with | .string s => if x == s then some m.val else mGet x l | _ => mGet x l
def strK (l : List MapEntry) : Prop := ∀ m ∈ l, ∃ s, m.key = .string s
theorem find_get {x : ByteArray} : ∀ {l : List MapEntry} {i : Nat}, strK l → ∃ o, Instr.findNow .string (.string x) l i = some o ∧ o.map (·.2) = mGet x l
  | [], i, _ => ⟨none, rfl, rfl⟩
  | m :: l, i, h => by
    obtain ⟨s, hs⟩ := h m List.mem_cons_self
    cases hx : (x == s) with
    | true =>
      refine ⟨some (i, m.val), ?_, ?_⟩
      · rw [Instr.findNow, hs]
        simp [Instr.sameNow, hx]
      · rw [mGet, hs]; simp [hx]
    | false =>
      obtain ⟨o, h1, h2⟩ := find_get (x := x) (l := l) (i := i + 1) fun y hy => h y (List.mem_cons_of_mem _ hy)
      refine ⟨o, ?_, ?_⟩
      · rw [Instr.findNow, hs]
        simp [Instr.sameNow, hx, h1]
      · rw [h2, mGet, hs]; simp [hx]
theorem bytes_beq (x y : ByteArray) : (x == y) = (x.toList == y.toList) := by
  rw [show (x == y) = (x.data == y.data) by cases x; cases y; rfl, ByteArray.toList_eq, ByteArray.toList_eq, Bool.eq_iff_iff, beq_iff_eq, beq_iff_eq, Array.toList_inj]
section
variable {P : Program} {X : Nat → Prop} {w0 w : World} {r : Gh} {L : List Asr} {t k e : TypeId} {b c : Nat} {es : Array MapEntry}
theorem StX.addO (S : StX X w0 r w L) {w' : World} (ex : Ext w w') {o : Obj} (hb : w.heap.size ≤ b) (B : w'.heap[b]? = some o) (ho : Obj.isBook o = false) : StX X w0 r w' (.obj b (· = o) :: L) := by
  have S' := S.go ex
  refine ⟨S'.x, S'.holds, ?_, ?_, .cons ?_ S'.apart⟩
  · intro x hx; rcases List.mem_cons.1 hx with rfl | hx
    · exact ⟨o, B, ho, rfl⟩
    · exact S'.has x hx
  · intro x hx; rcases List.mem_cons.1 hx with rfl | hx
    · rintro k rfl
      exact ⟨.inl (by have := S.x.size; omega), fun o ho => by have := S.holds.lt ho; omega⟩
    · exact S'.mine x hx
  · rintro y hy k rfl hk
    have := Asr.lt (S.has y hy) hk; omega
theorem StX.mkMap (S : StX X w0 r w L) {K : Value → World → Prop} (h : ∀ b w', StX X w0 r w' (.obj b (· = .map #[] 0) :: L) → K (.map (some b)) w') : opW P w (Instr.makeMap t none) K := by
  refine ⟨.map (some w.heap.size), { w with heap := w.heap.push (.map #[] 0) }, ?_, h _ _ (S.addO ?_ (Nat.le_refl _) ?_ rfl)⟩
  · simp [Instr.makeMap, newObj, Sem.run_bind, Sem.run, pure, Result.andThen]
    try rfl
  · exact ⟨rfl, rfl, rfl, by simp, fun b hb => by simp [Array.getElem?_push, Nat.ne_of_lt hb]⟩
  · simp
theorem StX.mapAdd (S : StX X w0 r w (.obj b (· = .map es c) :: L)) {x : ByteArray} {v : Value} (ht : mpT P t = some (k, e)) (hs : strK es.toList) (hn : mGet x es.toList = none) {K : World → Prop}
    (h : ∀ w', StX X w0 r w' (.obj b (· = .map (es.push { key := .string x, val := v, born := c }) (c + 1)) :: L) → K w') : opU P w (Instr.mapUpdate t (.map (some b)) (.string x) v) K := by
  obtain ⟨ht, hk⟩ := mpT_spec ht
  obtain ⟨o, hb, _, rfl⟩ := S.has _ List.mem_cons_self
  obtain ⟨o, h1, h2⟩ := find_get (x := x) (i := 0) hs
  have h3 : o = none := by
    rw [hn] at h2
    cases o with
    | none => rfl
    | some y => cases h2
  subst h3
  have hf := run_findKey (w := w) hk h1
  refine ⟨{ w with heap := w.heap.setIfInBounds b (.map (es.push { key := .string x, val := v, born := c }) (c + 1)) }, ?_, h _ ?_⟩
  · simp [Instr.mapUpdate, run_underlying ht, MapKept.run_getObj_map hb, run_checkKey (w := w) hk (k := .string x) trivial false 9999, hf, MapKept.run_setObj_map _ hb, Result.andThen]
  · obtain ⟨e1, e2⟩ := heap_set hb (o' := .map (es.push { key := .string x, val := v, born := c }) (c + 1))
    exact S.turn (p := []) (x := .obj b (· = .map es c)) (y := .obj b (· = .map (es.push { key := .string x, val := v, born := c }) (c + 1))) ⟨rfl, rfl, rfl, by simp, fun k _ hk => e2 k hk⟩ ⟨_, e1, rfl, rfl⟩ fun k hk => .inl hk
theorem StX.mapGet (S : StX X w0 r w (.obj b (· = .map es c) :: L)) {x : ByteArray} {z : Value} (ht : mpT P t = some (k, e)) (hz : zr1 P e = some z) (hs : strK es.toList) {K : Value → Prop} (h : K ((mGet x es.toList).getD z)) :
    opQ P w (Instr.lookup t (.map (some b)) (.string x) false) K := by
  obtain ⟨ht, hk⟩ := mpT_spec ht
  obtain ⟨o, hb, _, rfl⟩ := S.has _ List.mem_cons_self
  obtain ⟨o, h1, h2⟩ := find_get (x := x) (i := 0) hs
  refine ⟨_, fun w' ex => ?_, h⟩
  have hb' : w'.heap[b]? = some (.map es c) := (ex.block b (Array.getElem?_eq_some_iff.1 hb).1).trans hb
  have hf := run_findKey (w := w') hk h1
  rw [← h2]
  cases o with
  | none => simp [Instr.lookup, run_underlying ht, MapKept.run_getObj_map hb', run_checkKey (w := w') hk (k := .string x) trivial _ 9999, hf, run_zero1 hz, Result.andThen]
  | some y => simp [Instr.lookup, run_underlying ht, MapKept.run_getObj_map hb', run_checkKey (w := w') hk (k := .string x) trivial _ 9999, hf, Result.andThen]
end
end Go.Sh
end

section
namespace Go.Sh
theorem p_id {P : Program} {s : Sem Value} {K : Value → Prop} (h : opP P s K) : opP P s K := h
theorem q_id {P : Program} {w : World} {s : Sem Value} {K : Value → Prop} (h : opQ P w s K) : opQ P w s K := h
end Go.Sh
end

section
namespace Go.Proofs

open Go.Sh

set_option maxRecDepth 100000

set_option linter.unusedSimpArgs false

set_option linter.unusedVariables false

/-- what a point has, asked of what its places and operands are -/
structure PaD where
  tt : TyD
  tm : Int
  tok : Bool
  ft : TyD
  fm : Int
  fok : Bool
  at' : TyD
  aok : Bool
  bt : TyD
  bok : Bool
noncomputable def ptH (u : UnD) (g : GrD) (p : PtD) (x : PaD) : Bool :=
  if p.op = 1 then ((restG p { to := true, a := true } && (x.tok && decide (x.tm < 3))) && x.aok) && alikeT fAll x.at' x.tt
  else if p.op = 2 then
    (restG p { to := true, a := true, b := true, sign := true } && ((x.tok && decide (x.tm < 3)) && (x.aok && x.bok))) &&
      (if signI p.sign [[43], [45], [42], [47], [37]] then isK x.tt 1 && (isK x.at' 1 && isK x.bt 1)
       else if signI p.sign [[60], [60, 61], [62], [62, 61]] then isK x.tt 2 && (isK x.at' 1 && isK x.bt 1)
       else if signI p.sign [[61, 61], [33, 61]] then isK x.tt 2 && ((isK x.at' 1 && isK x.bt 1) || (isK x.at' 2 && isK x.bt 2)) else false)
  else if p.op = 3 then
    ((restG p { to := true, a := true, sign := true } && (x.tok && decide (x.tm < 3))) && x.aok) &&
      (if signI p.sign [[45]] then isK x.tt 1 && isK x.at' 1 else if signI p.sign [[33]] then isK x.tt 2 && isK x.at' 2 else false)
  else if p.op = 4 then
    ((((restG p { to := true, fr := true, mu := true } && (x.tok && decide (x.tm < 3))) && x.fok) && isK x.tt 4) && (x.tt.m == p.mu)) && (alikeT fAll (x.tt.of.headD zeroD) x.ft && !(p.mu && decide (x.fm = 3)))
  else if p.op = 5 then (((restG p { to := true, a := true } && (x.tok && decide (x.tm < 3))) && x.aok) && isK x.tt 3) && alikeT fAll (x.tt.of.headD zeroD) x.at'
  else if p.op = 6 then
    (((restG p { to := true, args := true, st := true } && (x.tok && decide (x.tm < 3))) && isK x.tt 5) && decide (x.tt.st = p.st)) && argsG u.ss g.tys p.args (fieldsT u.ss x.tt).1
  else if p.op = 7 then
    ((restG p { to := true, args := true, fn := true } && (x.tok && decide (x.tm < 3))) && (decide (0 ≤ p.fn) && decide (p.fn < u.fs.length))) &&
      (match u.fs[p.fn.toNat]? with
       | some f => alikeT fAll x.tt (f.tys.headD zeroD) && argsG u.ss g.tys p.args ((f.tys.drop 1).take f.pn.toNat)
       | none => false)
  else if p.op = 8 then (restG p { to := true } && (x.tok && decide (x.tm < 3))) && isK x.tt 1
  else if p.op = 9 then (restG p { a := true } && x.aok) && isK x.at' 1
  else if p.op = 10 then ((restG p { fr := true } && x.fok) && (dropsT u.ss x.ft).1) && decide (x.fm < 2)
  else if p.op = 11 then ((restG p { fr := true } && x.fok) && decide (0 < p.fr.l)) && decide (p.fr.ps.length = 0)
  else if p.op = 12 then ((restG p { a := true, el := true } && x.aok) && isK x.at' 2) && insG g p.el
  else if p.op = 13 ∨ p.op = 14 then restG p {}
  else false
noncomputable def pad (u : UnD) (g : GrD) (p : PtD) : PaD :=
  ⟨(spotG u.ss g.tys p.to).1, (spotG u.ss g.tys p.to).2.1, (spotG u.ss g.tys p.to).2.2, (spotG u.ss g.tys p.fr).1, (spotG u.ss g.tys p.fr).2.1, (spotG u.ss g.tys p.fr).2.2,
    (operG u.ss g.tys p.a).1, (operG u.ss g.tys p.a).2, (operG u.ss g.tys p.b).1, (operG u.ss g.tys p.b).2⟩
theorem ptH_eq (u : UnD) (g : GrD) (p : PtD) : ptG u g p = ptH u g p (pad u g p) := rfl
theorem bb4 {a b c d : Bool} (h : (((!a || !b) || !c) || !d) = true) : (a && (b && (c && d))) = false := by revert h; cases a <;> cases b <;> cases c <;> cases d <;> simp
theorem bb4' {a b c d : Bool} (h : (((!a || !b) || !c) || !d) = false) : (a && (b && (c && d))) = true := by revert h; cases a <;> cases b <;> cases c <;> cases d <;> simp
theorem bb3 {a b c : Bool} {x y : Int} (h : (((!a || !b) || !c) || decide (x ≠ y)) = true) : (((a && b) && c) && decide (x = y)) = false := by
  by_cases e : x = y
  · simp only [e] at h ⊢; revert h; cases a <;> cases b <;> cases c <;> simp
  · simp [e]
theorem bb3' {a b c : Bool} {x y : Int} (h : (((!a || !b) || !c) || decide (x ≠ y)) = false) : (((a && b) && c) && decide (x = y)) = true := by
  by_cases e : x = y
  · simp only [e] at h ⊢; revert h; cases a <;> cases b <;> cases c <;> simp
  · simp [e] at h
theorem bb5 {a b : Bool} {x y : Int} (h : (((!a || !b) || decide (x < 0)) || decide (y ≤ x)) = true) : ((a && b) && (decide (0 ≤ x) && decide (x < y))) = false := by
  by_cases e : 0 ≤ x <;> by_cases f : x < y
  · rw [decide_eq_false (show ¬ x < 0 by omega), decide_eq_false (show ¬ y ≤ x by omega)] at h
    revert h; cases a <;> cases b <;> simp
  all_goals simp [e, f]
theorem bb5' {a b : Bool} {x y : Int} (h : (((!a || !b) || decide (x < 0)) || decide (y ≤ x)) = false) : ((a && b) && (decide (0 ≤ x) && decide (x < y))) = true := by
  simp only [Bool.or_eq_false_iff, decide_eq_false_iff_not, Bool.not_eq_false'] at h
  obtain ⟨⟨⟨h1, h2⟩, h3⟩, h4⟩ := h
  rw [h1, h2, decide_eq_true (show 0 ≤ x by omega), decide_eq_true (show x < y by omega)]; rfl
theorem mpK : mpT Try.prog 143 = some (9, 22) := by kernel_rfl
theorem mpZ : zr1 Try.prog 22 = some (.int .u8 0) := by kernel_rfl
/-- what the map of signs tells -/
theorem sign_map (x : ByteArray) (f g : Int → Bool) : ∃ ks : Int, (mGet x ((#[].push (⟨.string (bs [45]), .int .u8 1, 0⟩ : MapEntry)).push ⟨.string (bs [33]), .int .u8 2, 0 + 1⟩).toList).getD (.int .u8 0) = .int .u8 ks ∧
    ((decide (ks ≠ 0) && f ks) && g ks) = (if signI x [[45]] then f 1 && g 1 else if signI x [[33]] then f 2 && g 2 else false) := by
  have e : ((#[].push (⟨.string (bs [45]), .int .u8 1, 0⟩ : MapEntry)).push ⟨.string (bs [33]), .int .u8 2, 0 + 1⟩).toList = [⟨.string (bs [45]), .int .u8 1, 0⟩, ⟨.string (bs [33]), .int .u8 2, 0 + 1⟩] := rfl
  rw [e]
  simp only [mGet, bytes_beq, bs_toList, signI, List.any_cons, List.any_nil, Bool.or_false]
  by_cases h1 : (x.toList == [45]) = true
  · exact ⟨1, by rw [if_pos h1]; rfl, by rw [if_pos h1]; simp⟩
  · by_cases h2 : (x.toList == [33]) = true
    · exact ⟨2, by rw [if_neg h1, if_pos h2]; rfl, by rw [if_neg h1, if_pos h2]; simp⟩
    · exact ⟨0, by rw [if_neg h1, if_neg h2]; rfl, by rw [if_neg h1, if_neg h2]; simp⟩
set_option maxHeartbeats 20000000 in
theorem c_graph_asker_point {u : UnD} {g : GrD} {p : PtD} {c : List Value} {v : Value} {w : World} {r : Gh} {K : Value → World → Prop} (hr : Holds r w) (hx : AskG r v u g) (hf : FineU u.ss g.tys) (hfs : ∀ f ∈ u.fs, 0 ≤ f.pn ∧ f.pn < f.tys.length) (hp : PtG r c p)
    (h : ∀ w', Ext w w' → K (.bool (pointG u g p)) w') : oCall Try.prog Try.n_graph_asker_point #[v, .agg c.toArray] w K := by
  have hx0 := hx
  obtain ⟨p0, cap0, vf, vo, vt, vn, vp, rfl, hu, hg⟩ := hx
  have hu0 := hu
  obtain ⟨_, _, _, hE, _, _, hst, _, hfn⟩ := hu
  cases hE
  obtain ⟨qfn, capfn, rfl, _, _⟩ := hfn.sl.shape
  obtain ⟨_, _, _, _, hE, _, htys, _, hpts⟩ := hg
  cases hE
  obtain ⟨qp, capp, rfl, _, _⟩ := hpts.sl.shape
  have hp0 := hp
  obtain ⟨vto, va, vb, vl, vfr, rfl, h1, h2, h3, h4, h5⟩ := hp
  obtain ⟨qto, capto, rfl, _, _⟩ := h1.sl.shape
  obtain ⟨qa, capa, rfl, _, _⟩ := h2.sl.shape
  obtain ⟨qb, capb, rfl, _, _⟩ := h3.sl.shape
  obtain ⟨ql, capl, rfl, _, _⟩ := h4.sl.shape
  obtain ⟨qf, capf, rfl, _, _⟩ := h5.sl.shape
  have hpto : PlG r [.int .i64 p.to.l, .slice qto p.to.ps.length capto] p.to := ⟨_, rfl, h1⟩
  have hpfr : PlG r [.int .i64 p.fr.l, .slice qf p.fr.ps.length capf] p.fr := ⟨_, rfl, h5⟩
  have hoa : OpG r [.int .u8 p.a.k, .int .i64 p.a.n, .int .i64 p.a.pl.l, .slice qa p.a.pl.ps.length capa] p.a := ⟨_, rfl, h2⟩
  have hob : OpG r [.int .u8 p.b.k, .int .i64 p.b.n, .int .i64 p.b.pl.l, .slice qb p.b.pl.ps.length capb] p.b := ⟨_, rfl, h3⟩
  refine Try.ok_graph_asker_point ?_
  unfold Try.F_graph_asker_point
  have S := St.start hr
  refine S.box fun b2 w1 S => ?_
  refine S.box fun b3 w2 S => ?_
  (repeat (first|((with_reducible refine p_id ?_);first|refine s_p ?_|refine s_c (by omega) ?_)|((with_reducible refine q_id ?_);first|refine S.ld ?_|refine S.ldB ?_|refine S.ce ?_|refine S.ceB ?_|refine s_q ?_|refine s_qc (by omega) ?_)|with_reducible refine n_some ?_|rw [List.getD_cons_zero]|rw [List.getD_cons_succ]))
  refine S.al fun b5 w3 S => ?_
  refine S.st (b := b5) fun w4 S => ?_
  (repeat (first|((with_reducible refine p_id ?_);first|refine s_p ?_|refine s_c (by omega) ?_)|((with_reducible refine q_id ?_);first|refine S.ld ?_|refine S.ldB ?_|refine S.ce ?_|refine S.ceB ?_|refine s_q ?_|refine s_qc (by omega) ?_)|with_reducible refine n_some ?_|rw [List.getD_cons_zero]|rw [List.getD_cons_succ]))
  refine j_boraG (g := decide (p.op ≠ 14)) (c := !insG g p.nx) (fun _ K2 hK2 => ?_) (fun _ K2 hK2 => ?_) ?_
  · (repeat (first|((with_reducible refine p_id ?_);first|refine s_p ?_|refine s_c (by omega) ?_)|((with_reducible refine q_id ?_);first|refine S.ld ?_|refine S.ldB ?_|refine S.ce ?_|refine S.ceB ?_|refine s_q ?_|refine s_qc (by omega) ?_)|with_reducible refine n_some ?_|rw [List.getD_cons_zero]|rw [List.getD_cons_succ]))
    exact hK2
  · (repeat (first|((with_reducible refine p_id ?_);first|refine s_p ?_|refine s_c (by omega) ?_)|((with_reducible refine q_id ?_);first|refine S.ld ?_|refine S.ldB ?_|refine S.ce ?_|refine S.ceB ?_|refine s_q ?_|refine s_qc (by omega) ?_)|with_reducible refine n_some ?_|rw [List.getD_cons_zero]|rw [List.getD_cons_succ]))
    refine c_point_1 (b := b5) S ?_
    ((with_reducible refine p_id ?_);first|refine s_p ?_|refine s_c (by omega) ?_)
    exact hK2
  refine j_boraG (g := decide (p.op = 14)) (c := decide (p.nx ≠ 0)) (fun _ K2 hK2 => ?_) (fun _ K2 hK2 => ?_) ?_
  · (repeat (first|((with_reducible refine p_id ?_);first|refine s_p ?_|refine s_c (by omega) ?_)|((with_reducible refine q_id ?_);first|refine S.ld ?_|refine S.ldB ?_|refine S.ce ?_|refine S.ceB ?_|refine s_q ?_|refine s_qc (by omega) ?_)|with_reducible refine n_some ?_|rw [List.getD_cons_zero]|rw [List.getD_cons_succ]))
    exact hK2
  · (repeat (first|((with_reducible refine p_id ?_);first|refine s_p ?_|refine s_c (by omega) ?_)|((with_reducible refine q_id ?_);first|refine S.ld ?_|refine S.ldB ?_|refine S.ce ?_|refine S.ceB ?_|refine s_q ?_|refine s_qc (by omega) ?_)|with_reducible refine n_some ?_|rw [List.getD_cons_zero]|rw [List.getD_cons_succ]))
    exact hK2
  have hpg : pointG u g p = (!((decide (p.tx < 0) || (decide (p.op ≠ 14) && !insG g p.nx)) || (decide (p.op = 14) && decide (p.nx ≠ 0))) && ptG u g p) := by
    rw [pointG]; simp only [decide_not]
  rw [hpg] at h
  refine c_b (fun hbad => ?_) (fun hgood => ?_)
  · rw [hbad, Bool.not_true, Bool.false_and] at h
    exact h _ S.ext
  rw [hgood, Bool.not_false, Bool.true_and, ptH_eq] at h
  clear hpg hgood
  have S := S.go (Ext.drew _)
  have S : StX noX w r w4.drew [.cell b5 [.int .i64 (g.pts.length : Nat)] 3,
      .cell b3 [.int .u8 p.op, .int .i64 p.to.l, .slice qto p.to.ps.length capto, .int .u8 p.a.k, .int .i64 p.a.n, .int .i64 p.a.pl.l, .slice qa p.a.pl.ps.length capa, .int .u8 p.b.k, .int .i64 p.b.n, .int .i64 p.b.pl.l, .slice qb p.b.pl.ps.length capb, .slice ql p.args.length capl,
        .string p.sign, .int .i64 p.fr.l, .slice qf p.fr.ps.length capf, .bool p.mu, .int .i64 p.fn, .int .i64 p.st, .int .i64 p.nx, .int .i64 p.el, .int .i64 p.tx] 64,
      .cell b2 [.slice p0 u.ss.length cap0, .slice qfn u.fs.length capfn, .int .i64 u.mn, .string g.name, .int .i64 g.lv, vo, .int .i64 g.pn, vt, vn, .slice qp g.pts.length capp] 101] := S
  obtain ⟨tt, tm, tok, hspt⟩ : ∃ tt tm tok, spotG u.ss g.tys p.to = (tt, tm, tok) := ⟨_, _, _, rfl⟩
  obtain ⟨ft, fm, fok, hspf⟩ : ∃ tt tm tok, spotG u.ss g.tys p.fr = (tt, tm, tok) := ⟨_, _, _, rfl⟩
  obtain ⟨ta, aok, hopa⟩ : ∃ t ok, operG u.ss g.tys p.a = (t, ok) := ⟨_, _, rfl⟩
  obtain ⟨tb, bok, hopb⟩ : ∃ t ok, operG u.ss g.tys p.b = (t, ok) := ⟨_, _, rfl⟩
  have hpad : pad u g p = ⟨tt, tm, tok, ft, fm, fok, ta, aok, tb, bok⟩ := by simp only [pad, hspt, hspf, hopa, hopb]
  rw [hpad, ptH] at h
  dsimp only at h
  have inside : tok = true → (tt.k = 3 ∨ tt.k = 4) → ∃ uu, tt.of = [uu] := by
    intro h1 h2
    have hfi := spot_fine hf (p := p.to) (by rw [hspt]; exact h1)
    rw [hspt] at hfi
    rcases Fine.cases hfi with ⟨_, h3⟩ | ⟨uu, h3, _⟩
    · have h3 : tt.k = 1 ∨ tt.k = 2 ∨ tt.k = 5 := h3
      omega
    · exact ⟨uu, h3⟩
  refine j_intro (fun s w' => ∃ b7 b8 q7 c7 q8 c8, s = [.pointer (some ⟨b7, 0, none⟩), .pointer (some ⟨b8, 0, none⟩)] ∧ TyG r (tyV tt q7 c7) tt ∧ TyG r (tyV ft q8 c8) ft ∧
    StX noX w r w' (.cell b8 (spL ft q8 c8 fm fok) 99 :: .cell b7 (spL tt q7 c7 tm tok) 99 :: [.cell b5 [.int .i64 (g.pts.length : Nat)] 3,
      .cell b3 [.int .u8 p.op, .int .i64 p.to.l, .slice qto p.to.ps.length capto, .int .u8 p.a.k, .int .i64 p.a.n, .int .i64 p.a.pl.l, .slice qa p.a.pl.ps.length capa, .int .u8 p.b.k, .int .i64 p.b.n, .int .i64 p.b.pl.l, .slice qb p.b.pl.ps.length capb, .slice ql p.args.length capl,
        .string p.sign, .int .i64 p.fr.l, .slice qf p.fr.ps.length capf, .bool p.mu, .int .i64 p.fn, .int .i64 p.st, .int .i64 p.nx, .int .i64 p.el, .int .i64 p.tx] 64,
      .cell b2 [.slice p0 u.ss.length cap0, .slice qfn u.fs.length capfn, .int .i64 u.mn, .string g.name, .int .i64 g.lv, vo, .int .i64 g.pn, vt, vn, .slice qp g.pts.length capp] 101])) (fun K30 hK30 => ?_) ?_
  · refine S.ldB (b := b2) ?_ rfl
    ((with_reducible refine p_id ?_);first|refine s_p ?_|refine s_c (by omega) ?_)
    refine S.ldN (b := b3) ?_
    refine S.ldB (b := b2) ?_ rfl
    ((with_reducible refine p_id ?_);first|refine s_p ?_|refine s_c (by omega) ?_)
    refine S.ldN (b := b3) ?_
    repeat' (first
      | (refine S.alU fun b9 w9 S => ?_)
      | (refine S.al fun b9 w9 S => ?_)
      | (refine S.stB fun w9 S => ?_)
      | (refine c_graph_asker_spot S.holds hx0 hf hpto hspt (fun q7 c7 w9 e9 ht7 => ⟨e9, ?_⟩); have S := S.go e9)
      | (refine c_graph_asker_spot S.holds hx0 hf hpto hspt (fun q7 c7 w9 e9 ht7 => ?_); have S := S.go e9)
      | (refine c_graph_asker_spot S.holds hx0 hf hpfr hspf (fun q8 c8 w9 e9 ht8 => ⟨e9, ?_⟩); have S := S.go e9)
      | (refine c_graph_asker_spot S.holds hx0 hf hpfr hspf (fun q8 c8 w9 e9 ht8 => ?_); have S := S.go e9)
      | exact hK30 _ _ ⟨_, _, _, _, _, _, rfl, ht7, ht8, S⟩
      | exact hK30 _ _ ⟨_, _, _, _, _, _, rfl, ht7, ht8, S.swap⟩
      | refine ⟨?_, ?_⟩)
  clear S
  rintro _ w33 ⟨b7, b8, q7, c7, q8, c8, rfl, ht7, ht8, S⟩ d33
  simp only [List.getD_cons_zero, List.getD_cons_succ]
  (repeat (first|((with_reducible refine p_id ?_);first|refine s_p ?_|refine s_c (by omega) ?_)|((with_reducible refine q_id ?_);first|refine S.ld ?_|refine S.ldB ?_|refine S.ce ?_|refine S.ceB ?_|refine s_q ?_|refine s_qc (by omega) ?_)|with_reducible refine n_some ?_|rw [List.getD_cons_zero]|rw [List.getD_cons_succ]))
  refine j_bandH (c := decide (tm < 3)) (fun _ K2 hK2 => ?_) ?_
  · (repeat (first|((with_reducible refine p_id ?_);first|refine s_p ?_|refine s_c (by omega) ?_)|((with_reducible refine q_id ?_);first|refine S.ld ?_|refine S.ldB ?_|refine S.ce ?_|refine S.ceB ?_|refine s_q ?_|refine s_qc (by omega) ?_)|with_reducible refine n_some ?_|rw [List.getD_cons_zero]|rw [List.getD_cons_succ]))
    exact hK2
  refine S.ldB (b := b2) ?_ rfl
  ((with_reducible refine p_id ?_);first|refine s_p ?_|refine s_c (by omega) ?_)
  refine S.ldN (b := b3) ?_
  refine c_graph_asker_operand S.holds hx0 hf hoa hopa fun q10 c10 w34 e34 hta => ?_
  have S := S.go e34
  ((with_reducible refine p_id ?_);first|refine s_p ?_|refine s_c (by omega) ?_)
  ((with_reducible refine p_id ?_);first|refine s_p ?_|refine s_c (by omega) ?_)
  refine S.al fun b10 w35 S => ?_
  refine S.stB (b := b10) fun w36 S => ?_
  refine S.ldB (b := b2) ?_ rfl
  ((with_reducible refine p_id ?_);first|refine s_p ?_|refine s_c (by omega) ?_)
  refine S.ldN (b := b3) ?_
  refine c_graph_asker_operand S.holds hx0 hf hob hopb fun q12 c12 w37 e37 htb => ?_
  have S := S.go e37
  ((with_reducible refine p_id ?_);first|refine s_p ?_|refine s_c (by omega) ?_)
  ((with_reducible refine p_id ?_);first|refine s_p ?_|refine s_c (by omega) ?_)
  refine S.al fun b12 w38 S => ?_
  refine S.stB (b := b12) fun w39 S => ?_
  (repeat (first|((with_reducible refine p_id ?_);first|refine s_p ?_|refine s_c (by omega) ?_)|((with_reducible refine q_id ?_);first|refine S.ld ?_|refine S.ldB ?_|refine S.ce ?_|refine S.ceB ?_|refine s_q ?_|refine s_qc (by omega) ?_)|with_reducible refine n_some ?_|rw [List.getD_cons_zero]|rw [List.getD_cons_succ]))
  refine c_if (fun ho => ?_) (fun ho => ?_)
  · rw [if_pos ho] at h
    refine S.ldB (b := b3) ?_ rfl
    ((with_reducible refine p_id ?_);first|refine s_p ?_|refine s_c (by omega) ?_)
    refine c_graph_rest (f := { to := true, a := true }) S.holds hp0 fun w31 e31 => ?_
    have S := S.go e31
    refine j_bandH (c := tok && decide (tm < 3)) (fun _ K2 hK2 => hK2) ?_
    refine j_bandH (c := aok) (fun _ K2 hK2 => hK2) ?_
    refine j_bandE (c := alikeT fAll ta tt) (fun _ K2 hK2 => ?_) fun w32 e32 => h _ (S.go e32).ext
    refine S.ldB (b := b10) ?_ rfl
    ((with_reducible refine p_id ?_);first|refine s_p ?_|refine s_c (by omega) ?_)
    refine S.ldN (b := b7) ?_
    exact c_types_Alike S.holds hta ht7 fun w33 e33 => hK2 _ e33
  rw [if_neg ho] at h
  clear ho
  (repeat (first|((with_reducible refine p_id ?_);first|refine s_p ?_|refine s_c (by omega) ?_)|((with_reducible refine q_id ?_);first|refine S.ld ?_|refine S.ldB ?_|refine S.ce ?_|refine S.ceB ?_|refine s_q ?_|refine s_qc (by omega) ?_)|with_reducible refine n_some ?_|rw [List.getD_cons_zero]|rw [List.getD_cons_succ]))
  refine c_if (fun ho => ?_) (fun ho => ?_)
  · rw [if_pos ho] at h
    refine S.ldB (b := b3) ?_ rfl
    ((with_reducible refine p_id ?_);first|refine s_p ?_|refine s_c (by omega) ?_)
    refine c_graph_rest (f := { to := true, a := true, b := true, sign := true }) S.holds hp0 fun w31 e31 => ?_
    have S := S.go e31
    ((with_reducible refine p_id ?_);first|refine s_p ?_|refine s_c (by omega) ?_)
    refine j_borH (c := !(tok && decide (tm < 3))) (fun _ K2 hK2 => ?_) ?_
    · ((with_reducible refine p_id ?_);first|refine s_p ?_|refine s_c (by omega) ?_)
      exact hK2
    refine j_borH (c := !aok) (fun _ K2 hK2 => ?_) ?_
    · ((with_reducible refine p_id ?_);first|refine s_p ?_|refine s_c (by omega) ?_)
      exact hK2
    refine j_borH (c := !bok) (fun _ K2 hK2 => ?_) ?_
    · ((with_reducible refine p_id ?_);first|refine s_p ?_|refine s_c (by omega) ?_)
      exact hK2
    refine c_b (fun hc => ?_) (fun hc => ?_)
    · rw [bb4 hc, Bool.false_and] at h
      exact h _ S.ext
    rw [bb4' hc, Bool.true_and] at h
    refine S.ldB (b := b10) ?_ rfl
    refine c_point_2 S.holds fun w34 e34 => ?_
    have S := S.go e34
    refine j_bandE (c := isK tb 1) (fun hb K2 hK2 => ?_) fun w32 e32 => ?_
    · refine S.ldB (b := b12) ?_ rfl
      exact c_point_2 S.holds fun w33 e33 => hK2 _ e33
    have S := S.go e32
    (repeat (first|((with_reducible refine p_id ?_);first|refine s_p ?_|refine s_c (by omega) ?_)|((with_reducible refine q_id ?_);first|refine S.ld ?_|refine S.ldB ?_|refine S.ce ?_|refine S.ceB ?_|refine s_q ?_|refine s_qc (by omega) ?_)|with_reducible refine n_some ?_|rw [List.getD_cons_zero]|rw [List.getD_cons_succ]))
    refine j_intro (fun s w' => s = [.bool (signI p.sign [[43], [45], [42], [47], [37]])] ∧ Ext w32 w') (fun K9 hK9 => ?_) ?_
    · have hk := hK9 _ _ ⟨rfl, Ext.refl _⟩
      simp only [signI, List.any_cons, List.any_nil, Bool.or_false] at hk
      ((with_reducible refine p_id ?_);first|refine s_p ?_|refine s_c (by omega) ?_)
      refine k_cor hk fun _ hk => ?_
      ((with_reducible refine p_id ?_);first|refine s_p ?_|refine s_c (by omega) ?_)
      refine k_cor hk fun _ hk => ?_
      ((with_reducible refine p_id ?_);first|refine s_p ?_|refine s_c (by omega) ?_)
      refine k_cor hk fun _ hk => ?_
      ((with_reducible refine p_id ?_);first|refine s_p ?_|refine s_c (by omega) ?_)
      refine k_cor hk fun _ hk => ?_
      ((with_reducible refine p_id ?_);first|refine s_p ?_|refine s_c (by omega) ?_)
      exact hk
    rintro _ w41 ⟨rfl, e41⟩ d41
    have S := S.go e41
    rw [List.getD_cons_zero]
    refine c_b (fun hs => ?_) (fun hs => ?_)
    · rw [if_pos hs] at h
      ((with_reducible refine p_id ?_);first|refine s_p ?_|refine s_c (by omega) ?_)
      refine S.ldN (b := b7) ?_
      refine c_point_2 S.holds fun w35 e35 => ?_
      have S := S.go e35
      exact j_bandH (c := isK ta 1 && isK tb 1) (fun _ K2 hK2 => hK2) (h _ S.ext)
    rw [if_neg (by rw [hs]; decide)] at h
    refine j_intro (fun s w' => s = [.bool (signI p.sign [[60], [60, 61], [62], [62, 61]])] ∧ Ext w41 w') (fun K9 hK9 => ?_) ?_
    · have hk := hK9 _ _ ⟨rfl, Ext.refl _⟩
      simp only [signI, List.any_cons, List.any_nil, Bool.or_false] at hk
      ((with_reducible refine p_id ?_);first|refine s_p ?_|refine s_c (by omega) ?_)
      refine k_cor hk fun _ hk => ?_
      ((with_reducible refine p_id ?_);first|refine s_p ?_|refine s_c (by omega) ?_)
      refine k_cor hk fun _ hk => ?_
      ((with_reducible refine p_id ?_);first|refine s_p ?_|refine s_c (by omega) ?_)
      refine k_cor hk fun _ hk => ?_
      ((with_reducible refine p_id ?_);first|refine s_p ?_|refine s_c (by omega) ?_)
      exact hk
    rintro _ w41 ⟨rfl, e41⟩ d41
    have S := S.go e41
    rw [List.getD_cons_zero]
    refine c_b (fun hs => ?_) (fun hs => ?_)
    · rw [if_pos hs] at h
      ((with_reducible refine p_id ?_);first|refine s_p ?_|refine s_c (by omega) ?_)
      refine S.ldN (b := b7) ?_
      refine c_point_2 S.holds fun w35 e35 => ?_
      have S := S.go e35
      exact j_bandH (c := isK ta 1 && isK tb 1) (fun _ K2 hK2 => hK2) (h _ S.ext)
    rw [if_neg (by rw [hs]; decide)] at h
    refine j_intro (fun s w' => s = [.bool (signI p.sign [[61, 61], [33, 61]])] ∧ Ext w41 w') (fun K9 hK9 => ?_) ?_
    · have hk := hK9 _ _ ⟨rfl, Ext.refl _⟩
      simp only [signI, List.any_cons, List.any_nil, Bool.or_false] at hk
      ((with_reducible refine p_id ?_);first|refine s_p ?_|refine s_c (by omega) ?_)
      refine k_cor hk fun _ hk => ?_
      ((with_reducible refine p_id ?_);first|refine s_p ?_|refine s_c (by omega) ?_)
      exact hk
    rintro _ w41 ⟨rfl, e41⟩ d41
    have S := S.go e41
    rw [List.getD_cons_zero]
    refine c_b (fun hs => ?_) (fun hs => ?_)
    rotate_left
    · rw [if_neg (by rw [hs]; decide)] at h
      exact h _ S.ext
    rw [if_pos hs] at h
    ((with_reducible refine p_id ?_);first|refine s_p ?_|refine s_c (by omega) ?_)
    refine S.ldN (b := b7) ?_
    refine c_point_2 S.holds fun w35 e35 => ?_
    have S := S.go e35
    generalize isK tt 2 = x1 at h ⊢
    generalize (isK ta 1 && isK tb 1) = x2 at h ⊢
    cases x1 with
    | false =>
      (intro K9 hK9; (repeat (first|(first|((with_reducible refine p_id ?_);first|refine s_p ?_|refine s_c (by omega) ?_)|((with_reducible refine q_id ?_);first|refine S.ld ?_|refine S.ldB ?_|refine S.ce ?_|refine S.ceB ?_|refine s_q ?_|refine s_qc (by omega) ?_)|with_reducible refine n_some ?_|rw [List.getD_cons_zero]|rw [List.getD_cons_succ])|with_reducible refine g_TT ?_|with_reducible refine g_FF ?_|with_reducible refine g_TF ?_|with_reducible refine g_FT ?_|with_reducible refine g_UU ?_|with_reducible refine k_pickT ?_|with_reducible refine k_pickF ?_)); refine hK9 _ _ fun _ => ?_; clear hK9 K9)
      (intro K9 hK9; (repeat (first|(first|((with_reducible refine p_id ?_);first|refine s_p ?_|refine s_c (by omega) ?_)|((with_reducible refine q_id ?_);first|refine S.ld ?_|refine S.ldB ?_|refine S.ce ?_|refine S.ceB ?_|refine s_q ?_|refine s_qc (by omega) ?_)|with_reducible refine n_some ?_|rw [List.getD_cons_zero]|rw [List.getD_cons_succ])|with_reducible refine g_TT ?_|with_reducible refine g_FF ?_|with_reducible refine g_TF ?_|with_reducible refine g_FT ?_|with_reducible refine g_UU ?_|with_reducible refine k_pickT ?_|with_reducible refine k_pickF ?_)); refine hK9 _ _ fun _ => ?_; clear hK9 K9)
      (intro K9 hK9; (repeat (first|(first|((with_reducible refine p_id ?_);first|refine s_p ?_|refine s_c (by omega) ?_)|((with_reducible refine q_id ?_);first|refine S.ld ?_|refine S.ldB ?_|refine S.ce ?_|refine S.ceB ?_|refine s_q ?_|refine s_qc (by omega) ?_)|with_reducible refine n_some ?_|rw [List.getD_cons_zero]|rw [List.getD_cons_succ])|with_reducible refine g_TT ?_|with_reducible refine g_FF ?_|with_reducible refine g_TF ?_|with_reducible refine g_FT ?_|with_reducible refine g_UU ?_|with_reducible refine k_pickT ?_|with_reducible refine k_pickF ?_)); refine hK9 _ _ fun _ => ?_; clear hK9 K9)
      (intro K9 hK9; (repeat (first|(first|((with_reducible refine p_id ?_);first|refine s_p ?_|refine s_c (by omega) ?_)|((with_reducible refine q_id ?_);first|refine S.ld ?_|refine S.ldB ?_|refine S.ce ?_|refine S.ceB ?_|refine s_q ?_|refine s_qc (by omega) ?_)|with_reducible refine n_some ?_|rw [List.getD_cons_zero]|rw [List.getD_cons_succ])|with_reducible refine g_TT ?_|with_reducible refine g_FF ?_|with_reducible refine g_TF ?_|with_reducible refine g_FT ?_|with_reducible refine g_UU ?_|with_reducible refine k_pickT ?_|with_reducible refine k_pickF ?_)); refine hK9 _ _ fun _ => ?_; clear hK9 K9)
      (intro K9 hK9; (repeat (first|(first|((with_reducible refine p_id ?_);first|refine s_p ?_|refine s_c (by omega) ?_)|((with_reducible refine q_id ?_);first|refine S.ld ?_|refine S.ldB ?_|refine S.ce ?_|refine S.ceB ?_|refine s_q ?_|refine s_qc (by omega) ?_)|with_reducible refine n_some ?_|rw [List.getD_cons_zero]|rw [List.getD_cons_succ])|with_reducible refine g_TT ?_|with_reducible refine g_FF ?_|with_reducible refine g_TF ?_|with_reducible refine g_FT ?_|with_reducible refine g_UU ?_|with_reducible refine k_pickT ?_|with_reducible refine k_pickF ?_)); refine hK9 _ _ fun _ => ?_; clear hK9 K9)
      (repeat (first|(first|((with_reducible refine p_id ?_);first|refine s_p ?_|refine s_c (by omega) ?_)|((with_reducible refine q_id ?_);first|refine S.ld ?_|refine S.ldB ?_|refine S.ce ?_|refine S.ceB ?_|refine s_q ?_|refine s_qc (by omega) ?_)|with_reducible refine n_some ?_|rw [List.getD_cons_zero]|rw [List.getD_cons_succ])|with_reducible refine g_TT ?_|with_reducible refine g_FF ?_|with_reducible refine g_TF ?_|with_reducible refine g_FT ?_|with_reducible refine g_UU ?_|with_reducible refine k_pickT ?_|with_reducible refine k_pickF ?_))
      exact h _ S.ext
    | true =>
      cases x2 with
      | true =>
        (intro K9 hK9; (repeat (first|(first|((with_reducible refine p_id ?_);first|refine s_p ?_|refine s_c (by omega) ?_)|((with_reducible refine q_id ?_);first|refine S.ld ?_|refine S.ldB ?_|refine S.ce ?_|refine S.ceB ?_|refine s_q ?_|refine s_qc (by omega) ?_)|with_reducible refine n_some ?_|rw [List.getD_cons_zero]|rw [List.getD_cons_succ])|with_reducible refine g_TT ?_|with_reducible refine g_FF ?_|with_reducible refine g_TF ?_|with_reducible refine g_FT ?_|with_reducible refine g_UU ?_|with_reducible refine k_pickT ?_|with_reducible refine k_pickF ?_)); refine hK9 _ _ fun _ => ?_; clear hK9 K9)
        (intro K9 hK9; (repeat (first|(first|((with_reducible refine p_id ?_);first|refine s_p ?_|refine s_c (by omega) ?_)|((with_reducible refine q_id ?_);first|refine S.ld ?_|refine S.ldB ?_|refine S.ce ?_|refine S.ceB ?_|refine s_q ?_|refine s_qc (by omega) ?_)|with_reducible refine n_some ?_|rw [List.getD_cons_zero]|rw [List.getD_cons_succ])|with_reducible refine g_TT ?_|with_reducible refine g_FF ?_|with_reducible refine g_TF ?_|with_reducible refine g_FT ?_|with_reducible refine g_UU ?_|with_reducible refine k_pickT ?_|with_reducible refine k_pickF ?_)); refine hK9 _ _ fun _ => ?_; clear hK9 K9)
        (intro K9 hK9; (repeat (first|(first|((with_reducible refine p_id ?_);first|refine s_p ?_|refine s_c (by omega) ?_)|((with_reducible refine q_id ?_);first|refine S.ld ?_|refine S.ldB ?_|refine S.ce ?_|refine S.ceB ?_|refine s_q ?_|refine s_qc (by omega) ?_)|with_reducible refine n_some ?_|rw [List.getD_cons_zero]|rw [List.getD_cons_succ])|with_reducible refine g_TT ?_|with_reducible refine g_FF ?_|with_reducible refine g_TF ?_|with_reducible refine g_FT ?_|with_reducible refine g_UU ?_|with_reducible refine k_pickT ?_|with_reducible refine k_pickF ?_)); refine hK9 _ _ fun _ => ?_; clear hK9 K9)
        (intro K9 hK9; (repeat (first|(first|((with_reducible refine p_id ?_);first|refine s_p ?_|refine s_c (by omega) ?_)|((with_reducible refine q_id ?_);first|refine S.ld ?_|refine S.ldB ?_|refine S.ce ?_|refine S.ceB ?_|refine s_q ?_|refine s_qc (by omega) ?_)|with_reducible refine n_some ?_|rw [List.getD_cons_zero]|rw [List.getD_cons_succ])|with_reducible refine g_TT ?_|with_reducible refine g_FF ?_|with_reducible refine g_TF ?_|with_reducible refine g_FT ?_|with_reducible refine g_UU ?_|with_reducible refine k_pickT ?_|with_reducible refine k_pickF ?_)); refine hK9 _ _ fun _ => ?_; clear hK9 K9)
        (intro K9 hK9; (repeat (first|(first|((with_reducible refine p_id ?_);first|refine s_p ?_|refine s_c (by omega) ?_)|((with_reducible refine q_id ?_);first|refine S.ld ?_|refine S.ldB ?_|refine S.ce ?_|refine S.ceB ?_|refine s_q ?_|refine s_qc (by omega) ?_)|with_reducible refine n_some ?_|rw [List.getD_cons_zero]|rw [List.getD_cons_succ])|with_reducible refine g_TT ?_|with_reducible refine g_FF ?_|with_reducible refine g_TF ?_|with_reducible refine g_FT ?_|with_reducible refine g_UU ?_|with_reducible refine k_pickT ?_|with_reducible refine k_pickF ?_)); refine hK9 _ _ fun _ => ?_; clear hK9 K9)
        (repeat (first|(first|((with_reducible refine p_id ?_);first|refine s_p ?_|refine s_c (by omega) ?_)|((with_reducible refine q_id ?_);first|refine S.ld ?_|refine S.ldB ?_|refine S.ce ?_|refine S.ceB ?_|refine s_q ?_|refine s_qc (by omega) ?_)|with_reducible refine n_some ?_|rw [List.getD_cons_zero]|rw [List.getD_cons_succ])|with_reducible refine g_TT ?_|with_reducible refine g_FF ?_|with_reducible refine g_TF ?_|with_reducible refine g_FT ?_|with_reducible refine g_UU ?_|with_reducible refine k_pickT ?_|with_reducible refine k_pickF ?_))
        exact h _ S.ext
      | false =>
        (intro K9 hK9; (repeat (first|(first|((with_reducible refine p_id ?_);first|refine s_p ?_|refine s_c (by omega) ?_)|((with_reducible refine q_id ?_);first|refine S.ld ?_|refine S.ldB ?_|refine S.ce ?_|refine S.ceB ?_|refine s_q ?_|refine s_qc (by omega) ?_)|with_reducible refine n_some ?_|rw [List.getD_cons_zero]|rw [List.getD_cons_succ])|with_reducible refine g_TT ?_|with_reducible refine g_FF ?_|with_reducible refine g_TF ?_|with_reducible refine g_FT ?_|with_reducible refine g_UU ?_|with_reducible refine k_pickT ?_|with_reducible refine k_pickF ?_)); refine hK9 _ _ fun _ => ?_; clear hK9 K9)
        refine j_intro (fun s w' => s = [.bool (isK ta 2)] ∧ Ext w35 w') (fun K9 hK9 => ?_) ?_
        · (repeat (first|(first|((with_reducible refine p_id ?_);first|refine s_p ?_|refine s_c (by omega) ?_)|((with_reducible refine q_id ?_);first|refine S.ld ?_|refine S.ldB ?_|refine S.ce ?_|refine S.ceB ?_|refine s_q ?_|refine s_qc (by omega) ?_)|with_reducible refine n_some ?_|rw [List.getD_cons_zero]|rw [List.getD_cons_succ])|with_reducible refine g_TT ?_|with_reducible refine g_FF ?_|with_reducible refine g_TF ?_|with_reducible refine g_FT ?_|with_reducible refine g_UU ?_|with_reducible refine k_pickT ?_|with_reducible refine k_pickF ?_))
          exact c_point_2 S.holds fun w36 e36 => hK9 _ _ ⟨rfl, e36⟩
        rintro _ w37 ⟨rfl, e37⟩ d37
        have S := S.go e37
        generalize isK ta 2 = x3 at h ⊢
        cases x3 with
        | false =>
          (intro K9 hK9; (repeat (first|(first|((with_reducible refine p_id ?_);first|refine s_p ?_|refine s_c (by omega) ?_)|((with_reducible refine q_id ?_);first|refine S.ld ?_|refine S.ldB ?_|refine S.ce ?_|refine S.ceB ?_|refine s_q ?_|refine s_qc (by omega) ?_)|with_reducible refine n_some ?_|rw [List.getD_cons_zero]|rw [List.getD_cons_succ])|with_reducible refine g_TT ?_|with_reducible refine g_FF ?_|with_reducible refine g_TF ?_|with_reducible refine g_FT ?_|with_reducible refine g_UU ?_|with_reducible refine k_pickT ?_|with_reducible refine k_pickF ?_)); refine hK9 _ _ fun _ => ?_; clear hK9 K9)
          (intro K9 hK9; (repeat (first|(first|((with_reducible refine p_id ?_);first|refine s_p ?_|refine s_c (by omega) ?_)|((with_reducible refine q_id ?_);first|refine S.ld ?_|refine S.ldB ?_|refine S.ce ?_|refine S.ceB ?_|refine s_q ?_|refine s_qc (by omega) ?_)|with_reducible refine n_some ?_|rw [List.getD_cons_zero]|rw [List.getD_cons_succ])|with_reducible refine g_TT ?_|with_reducible refine g_FF ?_|with_reducible refine g_TF ?_|with_reducible refine g_FT ?_|with_reducible refine g_UU ?_|with_reducible refine k_pickT ?_|with_reducible refine k_pickF ?_)); refine hK9 _ _ fun _ => ?_; clear hK9 K9)
          (intro K9 hK9; (repeat (first|(first|((with_reducible refine p_id ?_);first|refine s_p ?_|refine s_c (by omega) ?_)|((with_reducible refine q_id ?_);first|refine S.ld ?_|refine S.ldB ?_|refine S.ce ?_|refine S.ceB ?_|refine s_q ?_|refine s_qc (by omega) ?_)|with_reducible refine n_some ?_|rw [List.getD_cons_zero]|rw [List.getD_cons_succ])|with_reducible refine g_TT ?_|with_reducible refine g_FF ?_|with_reducible refine g_TF ?_|with_reducible refine g_FT ?_|with_reducible refine g_UU ?_|with_reducible refine k_pickT ?_|with_reducible refine k_pickF ?_)); refine hK9 _ _ fun _ => ?_; clear hK9 K9)
          (repeat (first|(first|((with_reducible refine p_id ?_);first|refine s_p ?_|refine s_c (by omega) ?_)|((with_reducible refine q_id ?_);first|refine S.ld ?_|refine S.ldB ?_|refine S.ce ?_|refine S.ceB ?_|refine s_q ?_|refine s_qc (by omega) ?_)|with_reducible refine n_some ?_|rw [List.getD_cons_zero]|rw [List.getD_cons_succ])|with_reducible refine g_TT ?_|with_reducible refine g_FF ?_|with_reducible refine g_TF ?_|with_reducible refine g_FT ?_|with_reducible refine g_UU ?_|with_reducible refine k_pickT ?_|with_reducible refine k_pickF ?_))
          exact h _ S.ext
        | true =>
          refine j_intro (fun s w' => s = [.bool (isK tb 2)] ∧ Ext w37 w') (fun K9 hK9 => ?_) ?_
          · (repeat (first|(first|((with_reducible refine p_id ?_);first|refine s_p ?_|refine s_c (by omega) ?_)|((with_reducible refine q_id ?_);first|refine S.ld ?_|refine S.ldB ?_|refine S.ce ?_|refine S.ceB ?_|refine s_q ?_|refine s_qc (by omega) ?_)|with_reducible refine n_some ?_|rw [List.getD_cons_zero]|rw [List.getD_cons_succ])|with_reducible refine g_TT ?_|with_reducible refine g_FF ?_|with_reducible refine g_TF ?_|with_reducible refine g_FT ?_|with_reducible refine g_UU ?_|with_reducible refine k_pickT ?_|with_reducible refine k_pickF ?_))
            exact c_point_2 S.holds fun w36 e36 => hK9 _ _ ⟨rfl, e36⟩
          rintro _ w38 ⟨rfl, e38⟩ d38
          have S := S.go e38
          generalize isK tb 2 = x4 at h ⊢
          (intro K9 hK9; (repeat (first|(first|((with_reducible refine p_id ?_);first|refine s_p ?_|refine s_c (by omega) ?_)|((with_reducible refine q_id ?_);first|refine S.ld ?_|refine S.ldB ?_|refine S.ce ?_|refine S.ceB ?_|refine s_q ?_|refine s_qc (by omega) ?_)|with_reducible refine n_some ?_|rw [List.getD_cons_zero]|rw [List.getD_cons_succ])|with_reducible refine g_TT ?_|with_reducible refine g_FF ?_|with_reducible refine g_TF ?_|with_reducible refine g_FT ?_|with_reducible refine g_UU ?_|with_reducible refine k_pickT ?_|with_reducible refine k_pickF ?_)); refine hK9 _ _ fun _ => ?_; clear hK9 K9)
          (intro K9 hK9; (repeat (first|(first|((with_reducible refine p_id ?_);first|refine s_p ?_|refine s_c (by omega) ?_)|((with_reducible refine q_id ?_);first|refine S.ld ?_|refine S.ldB ?_|refine S.ce ?_|refine S.ceB ?_|refine s_q ?_|refine s_qc (by omega) ?_)|with_reducible refine n_some ?_|rw [List.getD_cons_zero]|rw [List.getD_cons_succ])|with_reducible refine g_TT ?_|with_reducible refine g_FF ?_|with_reducible refine g_TF ?_|with_reducible refine g_FT ?_|with_reducible refine g_UU ?_|with_reducible refine k_pickT ?_|with_reducible refine k_pickF ?_)); refine hK9 _ _ fun _ => ?_; clear hK9 K9)
          (repeat (first|(first|((with_reducible refine p_id ?_);first|refine s_p ?_|refine s_c (by omega) ?_)|((with_reducible refine q_id ?_);first|refine S.ld ?_|refine S.ldB ?_|refine S.ce ?_|refine S.ceB ?_|refine s_q ?_|refine s_qc (by omega) ?_)|with_reducible refine n_some ?_|rw [List.getD_cons_zero]|rw [List.getD_cons_succ])|with_reducible refine g_TT ?_|with_reducible refine g_FF ?_|with_reducible refine g_TF ?_|with_reducible refine g_FT ?_|with_reducible refine g_UU ?_|with_reducible refine k_pickT ?_|with_reducible refine k_pickF ?_))
          cases x4 <;> exact h _ S.ext
  rw [if_neg ho] at h
  clear ho
  (repeat (first|((with_reducible refine p_id ?_);first|refine s_p ?_|refine s_c (by omega) ?_)|((with_reducible refine q_id ?_);first|refine S.ld ?_|refine S.ldB ?_|refine S.ce ?_|refine S.ceB ?_|refine s_q ?_|refine s_qc (by omega) ?_)|with_reducible refine n_some ?_|rw [List.getD_cons_zero]|rw [List.getD_cons_succ]))
  refine c_if (fun ho => ?_) (fun ho => ?_)
  · rw [if_pos ho] at h
    refine S.mkMap fun b70 w70 S => ?_
    refine S.mapAdd mpK (by intro m hm; cases hm) rfl fun w71 S => ?_
    refine S.mapAdd mpK (by intro m hm; rcases List.mem_cons.1 hm with rfl | hm <;> first | exact ⟨_, rfl⟩ | cases hm) (by decide) fun w72 S => ?_
    (repeat (first|((with_reducible refine p_id ?_);first|refine s_p ?_|refine s_c (by omega) ?_)|((with_reducible refine q_id ?_);first|refine S.ld ?_|refine S.ldB ?_|refine S.ce ?_|refine S.ceB ?_|refine s_q ?_|refine s_qc (by omega) ?_)|with_reducible refine n_some ?_|rw [List.getD_cons_zero]|rw [List.getD_cons_succ]))
    refine S.mapGet mpK mpZ (by intro m hm; rcases List.mem_cons.1 hm with rfl | hm; · exact ⟨_, rfl⟩
                                rcases List.mem_cons.1 hm with rfl | hm <;> first | exact ⟨_, rfl⟩ | cases hm) ?_
    obtain ⟨ks, hks, hk2⟩ := sign_map p.sign (isK tt) (isK ta)
    rw [hks]
    refine S.ldB (b := b3) ?_ rfl
    ((with_reducible refine p_id ?_);first|refine s_p ?_|refine s_c (by omega) ?_)
    refine c_graph_rest (f := { to := true, a := true, sign := true }) S.holds hp0 fun w31 e31 => ?_
    have S := S.go e31
    refine j_bandH (c := tok && decide (tm < 3)) (fun _ K2 hK2 => hK2) ?_
    refine j_bandH (c := aok) (fun _ K2 hK2 => hK2) ?_
    refine j_bandH (c := decide (ks ≠ 0)) (fun _ K2 hK2 => ?_) ?_
    · ((with_reducible refine p_id ?_);first|refine s_p ?_|refine s_c (by omega) ?_)
      exact hK2
    refine j_bandE (c := isK tt ks) (fun hb K2 hK2 => ?_) fun w32 e32 => ?_
    · ((with_reducible refine p_id ?_);first|refine s_p ?_|refine s_c (by omega) ?_)
      refine S.ldN (b := b7) ?_
      exact c_point_2 S.holds fun w33 e33 => hK2 _ e33
    have S := S.go e32
    refine j_bandE (c := isK ta ks) (fun hb K2 hK2 => ?_) fun w32 e32 => ?_
    · refine S.ldB (b := b10) ?_ rfl
      exact c_point_2 S.holds fun w33 e33 => hK2 _ e33
    have S := S.go e32
    have := h _ S.ext
    rw [← hk2] at this
    simpa only [Bool.and_assoc] using this
  rw [if_neg ho] at h
  clear ho
  (repeat (first|((with_reducible refine p_id ?_);first|refine s_p ?_|refine s_c (by omega) ?_)|((with_reducible refine q_id ?_);first|refine S.ld ?_|refine S.ldB ?_|refine S.ce ?_|refine S.ceB ?_|refine s_q ?_|refine s_qc (by omega) ?_)|with_reducible refine n_some ?_|rw [List.getD_cons_zero]|rw [List.getD_cons_succ]))
  refine c_if (fun ho => ?_) (fun ho => ?_)
  · rw [if_pos ho] at h
    have S := S.go (Ext.drew _)
    refine S.ldB (b := b3) ?_ rfl
    ((with_reducible refine p_id ?_);first|refine s_p ?_|refine s_c (by omega) ?_)
    refine c_graph_rest (f := { to := true, fr := true, mu := true }) S.holds hp0 fun w31 e31 => ?_
    have S := S.go e31
    refine j_bandH (c := tok && decide (tm < 3)) (fun _ K2 hK2 => hK2) ?_
    refine j_bandH (c := fok) (fun _ K2 hK2 => ?_) ?_
    · (repeat (first|((with_reducible refine p_id ?_);first|refine s_p ?_|refine s_c (by omega) ?_)|((with_reducible refine q_id ?_);first|refine S.ld ?_|refine S.ldB ?_|refine S.ce ?_|refine S.ceB ?_|refine s_q ?_|refine s_qc (by omega) ?_)|with_reducible refine n_some ?_|rw [List.getD_cons_zero]|rw [List.getD_cons_succ]))
      exact hK2
    refine j_bandE (c := isK tt 4) (fun hb K2 hK2 => ?_) fun w32 e32 => ?_
    · ((with_reducible refine p_id ?_);first|refine s_p ?_|refine s_c (by omega) ?_)
      refine S.ldN (b := b7) ?_
      exact c_point_2 S.holds fun w33 e33 => hK2 _ e33
    have S := S.go e32
    refine j_bandH (c := tt.m == p.mu) (fun _ K2 hK2 => ?_) ?_
    · (repeat (first|((with_reducible refine p_id ?_);first|refine s_p ?_|refine s_c (by omega) ?_)|((with_reducible refine q_id ?_);first|refine S.ld ?_|refine S.ldB ?_|refine S.ce ?_|refine S.ceB ?_|refine s_q ?_|refine s_qc (by omega) ?_)|with_reducible refine n_some ?_|rw [List.getD_cons_zero]|rw [List.getD_cons_succ]))
      exact hK2
    refine j_bandE (c := alikeT fAll (tt.of.headD zeroD) ft) (fun hb K2 hK2 => ?_) fun w33 e33 => ?_
    · simp only [Bool.and_eq_true] at hb
      obtain ⟨uu, hof⟩ := inside hb.1.1.1.2.1 (.inr (of_decide_eq_true hb.1.2))
      obtain ⟨bo, oo, q2, cap2, rfl, ht2, hcc⟩ := ty_in ht7 hof
      have hl1 : tt.of.length = 1 := by rw [hof]; rfl
      rw [hof] at hK2
      (repeat (first|((with_reducible refine p_id ?_);first|refine s_p ?_|refine s_c (by omega) ?_)|((with_reducible refine q_id ?_);first|refine S.ld ?_|refine S.ldB ?_|refine S.ce ?_|refine S.ceB ?_|refine s_q ?_|refine s_qc (by omega) ?_)|with_reducible refine n_some ?_|rw [List.getD_cons_zero]|rw [List.getD_cons_succ]))
      refine s_ldN (n := 5) (c := tyL uu q2 cap2) rfl (fun j v hj => by simpa using S.at (hcc j v hj)) ?_
      ((with_reducible refine p_id ?_);first|refine s_p ?_|refine s_c (by omega) ?_)
      refine S.ldN (b := b8) ?_
      exact c_types_Alike S.holds ht2 ht8 fun w34 e34 => hK2 _ e34
    have S := S.go e33
    have := h _ S.ext
    rw [← Bool.and_assoc] at this
    generalize ((((((restG p { to := true, fr := true, mu := true } && (tok && decide (tm < 3))) && fok) && isK tt 4) && (tt.m == p.mu)) && alikeT fAll (tt.of.headD zeroD) ft)) = B at this ⊢
    cases B with
    | false =>
      (intro K9 hK9; (repeat (first|(first|((with_reducible refine p_id ?_);first|refine s_p ?_|refine s_c (by omega) ?_)|((with_reducible refine q_id ?_);first|refine S.ld ?_|refine S.ldB ?_|refine S.ce ?_|refine S.ceB ?_|refine s_q ?_|refine s_qc (by omega) ?_)|with_reducible refine n_some ?_|rw [List.getD_cons_zero]|rw [List.getD_cons_succ])|with_reducible refine g_TT ?_|with_reducible refine g_FF ?_|with_reducible refine g_TF ?_|with_reducible refine g_FT ?_|with_reducible refine g_UU ?_|with_reducible refine k_pickT ?_|with_reducible refine k_pickF ?_)); refine hK9 _ _ fun _ => ?_; clear hK9 K9)
      (intro K9 hK9; (repeat (first|(first|((with_reducible refine p_id ?_);first|refine s_p ?_|refine s_c (by omega) ?_)|((with_reducible refine q_id ?_);first|refine S.ld ?_|refine S.ldB ?_|refine S.ce ?_|refine S.ceB ?_|refine s_q ?_|refine s_qc (by omega) ?_)|with_reducible refine n_some ?_|rw [List.getD_cons_zero]|rw [List.getD_cons_succ])|with_reducible refine g_TT ?_|with_reducible refine g_FF ?_|with_reducible refine g_TF ?_|with_reducible refine g_FT ?_|with_reducible refine g_UU ?_|with_reducible refine k_pickT ?_|with_reducible refine k_pickF ?_)); refine hK9 _ _ fun _ => ?_; clear hK9 K9)
      (intro K9 hK9; (repeat (first|(first|((with_reducible refine p_id ?_);first|refine s_p ?_|refine s_c (by omega) ?_)|((with_reducible refine q_id ?_);first|refine S.ld ?_|refine S.ldB ?_|refine S.ce ?_|refine S.ceB ?_|refine s_q ?_|refine s_qc (by omega) ?_)|with_reducible refine n_some ?_|rw [List.getD_cons_zero]|rw [List.getD_cons_succ])|with_reducible refine g_TT ?_|with_reducible refine g_FF ?_|with_reducible refine g_TF ?_|with_reducible refine g_FT ?_|with_reducible refine g_UU ?_|with_reducible refine k_pickT ?_|with_reducible refine k_pickF ?_)); refine hK9 _ _ fun _ => ?_; clear hK9 K9)
      (repeat (first|(first|((with_reducible refine p_id ?_);first|refine s_p ?_|refine s_c (by omega) ?_)|((with_reducible refine q_id ?_);first|refine S.ld ?_|refine S.ldB ?_|refine S.ce ?_|refine S.ceB ?_|refine s_q ?_|refine s_qc (by omega) ?_)|with_reducible refine n_some ?_|rw [List.getD_cons_zero]|rw [List.getD_cons_succ])|with_reducible refine g_TT ?_|with_reducible refine g_FF ?_|with_reducible refine g_TF ?_|with_reducible refine g_FT ?_|with_reducible refine g_UU ?_|with_reducible refine k_pickT ?_|with_reducible refine k_pickF ?_))
      exact this
    | true =>
      refine j_intro (fun s w' => s = [.bool p.mu] ∧ w' = w33) (fun K9 hK9 => ?_) ?_
      · (repeat (first|(first|((with_reducible refine p_id ?_);first|refine s_p ?_|refine s_c (by omega) ?_)|((with_reducible refine q_id ?_);first|refine S.ld ?_|refine S.ldB ?_|refine S.ce ?_|refine S.ceB ?_|refine s_q ?_|refine s_qc (by omega) ?_)|with_reducible refine n_some ?_|rw [List.getD_cons_zero]|rw [List.getD_cons_succ])|with_reducible refine g_TT ?_|with_reducible refine g_FF ?_|with_reducible refine g_TF ?_|with_reducible refine g_FT ?_|with_reducible refine g_UU ?_|with_reducible refine k_pickT ?_|with_reducible refine k_pickF ?_))
        exact hK9 _ _ ⟨rfl, rfl⟩
      rintro _ w33 ⟨rfl, rfl⟩ d33
      generalize p.mu = mu at this ⊢
      cases mu with
      | false =>
        (intro K9 hK9; (repeat (first|(first|((with_reducible refine p_id ?_);first|refine s_p ?_|refine s_c (by omega) ?_)|((with_reducible refine q_id ?_);first|refine S.ld ?_|refine S.ldB ?_|refine S.ce ?_|refine S.ceB ?_|refine s_q ?_|refine s_qc (by omega) ?_)|with_reducible refine n_some ?_|rw [List.getD_cons_zero]|rw [List.getD_cons_succ])|with_reducible refine g_TT ?_|with_reducible refine g_FF ?_|with_reducible refine g_TF ?_|with_reducible refine g_FT ?_|with_reducible refine g_UU ?_|with_reducible refine k_pickT ?_|with_reducible refine k_pickF ?_)); refine hK9 _ _ fun _ => ?_; clear hK9 K9)
        (intro K9 hK9; (repeat (first|(first|((with_reducible refine p_id ?_);first|refine s_p ?_|refine s_c (by omega) ?_)|((with_reducible refine q_id ?_);first|refine S.ld ?_|refine S.ldB ?_|refine S.ce ?_|refine S.ceB ?_|refine s_q ?_|refine s_qc (by omega) ?_)|with_reducible refine n_some ?_|rw [List.getD_cons_zero]|rw [List.getD_cons_succ])|with_reducible refine g_TT ?_|with_reducible refine g_FF ?_|with_reducible refine g_TF ?_|with_reducible refine g_FT ?_|with_reducible refine g_UU ?_|with_reducible refine k_pickT ?_|with_reducible refine k_pickF ?_)); refine hK9 _ _ fun _ => ?_; clear hK9 K9)
        (repeat (first|(first|((with_reducible refine p_id ?_);first|refine s_p ?_|refine s_c (by omega) ?_)|((with_reducible refine q_id ?_);first|refine S.ld ?_|refine S.ldB ?_|refine S.ce ?_|refine S.ceB ?_|refine s_q ?_|refine s_qc (by omega) ?_)|with_reducible refine n_some ?_|rw [List.getD_cons_zero]|rw [List.getD_cons_succ])|with_reducible refine g_TT ?_|with_reducible refine g_FF ?_|with_reducible refine g_TF ?_|with_reducible refine g_FT ?_|with_reducible refine g_UU ?_|with_reducible refine k_pickT ?_|with_reducible refine k_pickF ?_))
        exact this
      | true =>
        refine j_intro (fun s w' => s = [.bool (decide (fm = 3))] ∧ w' = w33) (fun K9 hK9 => ?_) ?_
        · (repeat (first|(first|((with_reducible refine p_id ?_);first|refine s_p ?_|refine s_c (by omega) ?_)|((with_reducible refine q_id ?_);first|refine S.ld ?_|refine S.ldB ?_|refine S.ce ?_|refine S.ceB ?_|refine s_q ?_|refine s_qc (by omega) ?_)|with_reducible refine n_some ?_|rw [List.getD_cons_zero]|rw [List.getD_cons_succ])|with_reducible refine g_TT ?_|with_reducible refine g_FF ?_|with_reducible refine g_TF ?_|with_reducible refine g_FT ?_|with_reducible refine g_UU ?_|with_reducible refine k_pickT ?_|with_reducible refine k_pickF ?_))
          exact hK9 _ _ ⟨rfl, rfl⟩
        rintro _ w33 ⟨rfl, rfl⟩ d33
        (intro K9 hK9; (repeat (first|(first|((with_reducible refine p_id ?_);first|refine s_p ?_|refine s_c (by omega) ?_)|((with_reducible refine q_id ?_);first|refine S.ld ?_|refine S.ldB ?_|refine S.ce ?_|refine S.ceB ?_|refine s_q ?_|refine s_qc (by omega) ?_)|with_reducible refine n_some ?_|rw [List.getD_cons_zero]|rw [List.getD_cons_succ])|with_reducible refine g_TT ?_|with_reducible refine g_FF ?_|with_reducible refine g_TF ?_|with_reducible refine g_FT ?_|with_reducible refine g_UU ?_|with_reducible refine k_pickT ?_|with_reducible refine k_pickF ?_)); refine hK9 _ _ fun _ => ?_; clear hK9 K9)
        (repeat (first|(first|((with_reducible refine p_id ?_);first|refine s_p ?_|refine s_c (by omega) ?_)|((with_reducible refine q_id ?_);first|refine S.ld ?_|refine S.ldB ?_|refine S.ce ?_|refine S.ceB ?_|refine s_q ?_|refine s_qc (by omega) ?_)|with_reducible refine n_some ?_|rw [List.getD_cons_zero]|rw [List.getD_cons_succ])|with_reducible refine g_TT ?_|with_reducible refine g_FF ?_|with_reducible refine g_TF ?_|with_reducible refine g_FT ?_|with_reducible refine g_UU ?_|with_reducible refine k_pickT ?_|with_reducible refine k_pickF ?_))
        simpa using this
  rw [if_neg ho] at h
  clear ho
  (repeat (first|((with_reducible refine p_id ?_);first|refine s_p ?_|refine s_c (by omega) ?_)|((with_reducible refine q_id ?_);first|refine S.ld ?_|refine S.ldB ?_|refine S.ce ?_|refine S.ceB ?_|refine s_q ?_|refine s_qc (by omega) ?_)|with_reducible refine n_some ?_|rw [List.getD_cons_zero]|rw [List.getD_cons_succ]))
  refine c_if (fun ho => ?_) (fun ho => ?_)
  · rw [if_pos ho] at h
    have S := S.go (Ext.drew _)
    refine S.ldB (b := b3) ?_ rfl
    ((with_reducible refine p_id ?_);first|refine s_p ?_|refine s_c (by omega) ?_)
    refine c_graph_rest (f := { to := true, a := true }) S.holds hp0 fun w31 e31 => ?_
    have S := S.go e31
    refine j_bandH (c := tok && decide (tm < 3)) (fun _ K2 hK2 => hK2) ?_
    refine j_bandH (c := aok) (fun _ K2 hK2 => hK2) ?_
    refine j_bandE (c := isK tt 3) (fun hb K2 hK2 => ?_) fun w32 e32 => ?_
    · ((with_reducible refine p_id ?_);first|refine s_p ?_|refine s_c (by omega) ?_)
      refine S.ldN (b := b7) ?_
      exact c_point_2 S.holds fun w33 e33 => hK2 _ e33
    have S := S.go e32
    refine j_bandE (c := alikeT fAll (tt.of.headD zeroD) ta) (fun hb K2 hK2 => ?_) fun w33 e33 => h _ (S.go e33).ext
    simp only [Bool.and_eq_true] at hb
    obtain ⟨uu, hof⟩ := inside hb.1.1.2.1 (.inl (of_decide_eq_true hb.2))
    obtain ⟨bo, oo, q2, cap2, rfl, ht2, hcc⟩ := ty_in ht7 hof
    have hl1 : tt.of.length = 1 := by rw [hof]; rfl
    rw [hof] at hK2
    (repeat (first|((with_reducible refine p_id ?_);first|refine s_p ?_|refine s_c (by omega) ?_)|((with_reducible refine q_id ?_);first|refine S.ld ?_|refine S.ldB ?_|refine S.ce ?_|refine S.ceB ?_|refine s_q ?_|refine s_qc (by omega) ?_)|with_reducible refine n_some ?_|rw [List.getD_cons_zero]|rw [List.getD_cons_succ]))
    refine s_ldN (n := 5) (c := tyL uu q2 cap2) rfl (fun j v hj => by simpa using S.at (hcc j v hj)) ?_
    refine S.ldB (b := b10) ?_ rfl
    exact c_types_Alike S.holds ht2 hta fun w34 e34 => hK2 _ e34
  rw [if_neg ho] at h
  clear ho
  (repeat (first|((with_reducible refine p_id ?_);first|refine s_p ?_|refine s_c (by omega) ?_)|((with_reducible refine q_id ?_);first|refine S.ld ?_|refine S.ldB ?_|refine S.ce ?_|refine S.ceB ?_|refine s_q ?_|refine s_qc (by omega) ?_)|with_reducible refine n_some ?_|rw [List.getD_cons_zero]|rw [List.getD_cons_succ]))
  refine c_if (fun ho => ?_) (fun ho => ?_)
  · rw [if_pos ho] at h
    refine S.ldB (b := b3) ?_ rfl
    ((with_reducible refine p_id ?_);first|refine s_p ?_|refine s_c (by omega) ?_)
    refine c_graph_rest (f := { to := true, args := true, st := true }) S.holds hp0 fun w31 e31 => ?_
    have S := S.go e31
    ((with_reducible refine p_id ?_);first|refine s_p ?_|refine s_c (by omega) ?_)
    refine j_borH (c := !(tok && decide (tm < 3))) (fun _ K2 hK2 => ?_) ?_
    · ((with_reducible refine p_id ?_);first|refine s_p ?_|refine s_c (by omega) ?_)
      exact hK2
    refine j_borE (c := !isK tt 5) (fun _ K2 hK2 => ?_) fun w32 e32 => ?_
    · ((with_reducible refine p_id ?_);first|refine s_p ?_|refine s_c (by omega) ?_)
      refine S.ldN (b := b7) ?_
      refine c_point_2 S.holds fun w33 e33 => ?_
      ((with_reducible refine p_id ?_);first|refine s_p ?_|refine s_c (by omega) ?_)
      exact hK2 _ e33
    have S := S.go e32
    refine j_borH (c := decide (tt.st ≠ p.st)) (fun _ K2 hK2 => ?_) ?_
    · (repeat (first|((with_reducible refine p_id ?_);first|refine s_p ?_|refine s_c (by omega) ?_)|((with_reducible refine q_id ?_);first|refine S.ld ?_|refine S.ldB ?_|refine S.ce ?_|refine S.ceB ?_|refine s_q ?_|refine s_qc (by omega) ?_)|with_reducible refine n_some ?_|rw [List.getD_cons_zero]|rw [List.getD_cons_succ]))
      exact hK2
    refine c_b (fun hc => ?_) (fun hc => ?_)
    · rw [bb3 hc, Bool.false_and] at h
      exact h _ S.ext
    rw [bb3' hc, Bool.true_and] at h
    (repeat (first|((with_reducible refine p_id ?_);first|refine s_p ?_|refine s_c (by omega) ?_)|((with_reducible refine q_id ?_);first|refine S.ld ?_|refine S.ldB ?_|refine S.ce ?_|refine S.ceB ?_|refine s_q ?_|refine s_qc (by omega) ?_)|with_reducible refine n_some ?_|rw [List.getD_cons_zero]|rw [List.getD_cons_succ]))
    refine S.ldN (b := b7) ?_
    refine c_types_Fields S.holds hst ht7 fun q9 cp9 top gs w35 e35 n35 hfd hcp => ?_
    have S := S.new e35 n35
    ((with_reducible refine p_id ?_);first|refine s_p ?_|refine s_c (by omega) ?_)
    ((with_reducible refine p_id ?_);first|refine s_p ?_|refine s_c (by omega) ?_)
    refine c_point_3 (r := ((r.or (top.or (un gs 0 (fieldsT u.ss tt).1.length))).or (one b2 _ _)).or (one b3 _ _)) ((S.holdW b2).or (one_holds (S.blk b3))) (one_blk (b := b2)).up (one_blk (b := b3)).up hx0.up rfl hf hp0.up (fds_tysG hfd).up fun w44 e44 => ?_
    exact h _ (S.go e44).ext
  rw [if_neg ho] at h
  clear ho
  (repeat (first|((with_reducible refine p_id ?_);first|refine s_p ?_|refine s_c (by omega) ?_)|((with_reducible refine q_id ?_);first|refine S.ld ?_|refine S.ldB ?_|refine S.ce ?_|refine S.ceB ?_|refine s_q ?_|refine s_qc (by omega) ?_)|with_reducible refine n_some ?_|rw [List.getD_cons_zero]|rw [List.getD_cons_succ]))
  refine c_if (fun ho => ?_) (fun ho => ?_)
  · rw [if_pos ho] at h
    refine S.ldB (b := b3) ?_ rfl
    ((with_reducible refine p_id ?_);first|refine s_p ?_|refine s_c (by omega) ?_)
    refine c_graph_rest (f := { to := true, args := true, fn := true }) S.holds hp0 fun w31 e31 => ?_
    have S := S.go e31
    ((with_reducible refine p_id ?_);first|refine s_p ?_|refine s_c (by omega) ?_)
    refine j_borH (c := !(tok && decide (tm < 3))) (fun _ K2 hK2 => ?_) ?_
    · ((with_reducible refine p_id ?_);first|refine s_p ?_|refine s_c (by omega) ?_)
      exact hK2
    refine j_borH (c := decide (p.fn < 0)) (fun _ K2 hK2 => ?_) ?_
    · (repeat (first|((with_reducible refine p_id ?_);first|refine s_p ?_|refine s_c (by omega) ?_)|((with_reducible refine q_id ?_);first|refine S.ld ?_|refine S.ldB ?_|refine S.ce ?_|refine S.ceB ?_|refine s_q ?_|refine s_qc (by omega) ?_)|with_reducible refine n_some ?_|rw [List.getD_cons_zero]|rw [List.getD_cons_succ]))
      exact hK2
    refine j_borH (c := decide ((u.fs.length : Int) ≤ p.fn)) (fun _ K2 hK2 => ?_) ?_
    · (repeat (first|((with_reducible refine p_id ?_);first|refine s_p ?_|refine s_c (by omega) ?_)|((with_reducible refine q_id ?_);first|refine S.ld ?_|refine S.ldB ?_|refine S.ce ?_|refine S.ceB ?_|refine s_q ?_|refine s_qc (by omega) ?_)|with_reducible refine n_some ?_|rw [List.getD_cons_zero]|rw [List.getD_cons_succ]))
      exact hK2
    refine c_b (fun hc => ?_) (fun hc => ?_)
    · rw [bb5 hc, Bool.false_and] at h
      exact h _ S.ext
    rw [bb5' hc, Bool.true_and] at h
    have hfl : 0 ≤ p.fn ∧ p.fn < u.fs.length := by
      simp only [Bool.or_eq_false_iff, decide_eq_false_iff_not] at hc; omega
    have hfi : p.fn.toNat < u.fs.length := by omega
    rw [List.getElem?_eq_getElem hfi] at h
    obtain ⟨bg, og, cg, rfl, hcg, hgg, hgc⟩ := hfn.sl.get (by decide) hfi
    have hfp := hfs _ (List.getElem_mem hfi)
    generalize u.fs[p.fn.toNat] = fd at h hgg hfp
    obtain ⟨vo2, vt2, vn2, vp2, rfl, hg1, hg2, hg3, hg4⟩ := hgg
    obtain ⟨qo2, co2, rfl, _, _⟩ := hg1.sl.shape
    obtain ⟨qt2, ct2, rfl, _, hct2⟩ := hg2.sl.shape
    obtain ⟨qn2, cn2, rfl, _, _⟩ := hg3.sl.shape
    obtain ⟨qp2, cp2, rfl, _, _⟩ := hg4.sl.shape
    (repeat (first|((with_reducible refine p_id ?_);first|refine s_p ?_|refine s_c (by omega) ?_)|((with_reducible refine q_id ?_);first|refine S.ld ?_|refine S.ldB ?_|refine S.ce ?_|refine S.ceB ?_|refine s_q ?_|refine s_qc (by omega) ?_)|with_reducible refine n_some ?_|rw [List.getD_cons_zero]|rw [List.getD_cons_succ]))
    refine s_ldN (n := 7) hcg (fun j v hj => S.at (hgc j v hj)) ?_
    refine S.al fun b20 w50 S => ?_
    refine S.stB (b := b20) fun w51 S => ?_
    have S := S.go (Ext.drew _)
    have htl := sl_tysG hg2.sl
    have htl9 : fd.tys.length ≤ 9223372036854775807 := hg2.few
    obtain ⟨bt2, ot2, cc2, rfl, hcc2, hcl2, hct3⟩ := htl 0 (by omega)
    obtain ⟨q4, cap4, rfl, ht4⟩ := ty_form hct3
    have hhd : fd.tys.headD zeroD = fd.tys[0]'(by omega) := by
      rw [List.headD_eq_head?_getD, List.head?_eq_getElem?, List.getElem?_eq_getElem (by omega), Option.getD_some]
    dsimp only at h
    rw [hhd] at h
    ((with_reducible refine p_id ?_);first|refine s_p ?_|refine s_c (by omega) ?_)
    refine S.ldN (b := b7) ?_
    (repeat (first|((with_reducible refine p_id ?_);first|refine s_p ?_|refine s_c (by omega) ?_)|((with_reducible refine q_id ?_);first|refine S.ld ?_|refine S.ldB ?_|refine S.ce ?_|refine S.ceB ?_|refine s_q ?_|refine s_qc (by omega) ?_)|with_reducible refine n_some ?_|rw [List.getD_cons_zero]|rw [List.getD_cons_succ]))
    refine s_ldN (n := 5) hcc2 (fun j v hj => by simpa using S.at (hcl2 j v hj)) ?_
    refine c_types_Alike S.holds ht7 ht4 fun w52 e52 => ?_
    have S := S.go e52
    refine j_bandE (c := argsG u.ss g.tys p.args ((fd.tys.drop 1).take fd.pn.toNat)) (fun _ K2 hK2 => ?_) fun w53 e53 => h _ (S.go e53).ext
    (repeat (first|((with_reducible refine p_id ?_);first|refine s_p ?_|refine s_c (by omega) ?_)|((with_reducible refine q_id ?_);first|refine S.ld ?_|refine S.ldB ?_|refine S.ce ?_|refine S.ceB ?_|refine s_q ?_|refine s_qc (by omega) ?_)|with_reducible refine n_some ?_|rw [List.getD_cons_zero]|rw [List.getD_cons_succ]))
    have hl9 : (fd.pn + 1).toNat - (1 : Int).toNat = ((fd.tys.drop 1).take fd.pn.toNat).length := by
      rw [List.length_take, List.length_drop]; omega
    rw [hl9]
    refine c_point_3 (r := (r.or (one b2 _ _)).or (one b3 _ _)) ((S.holdW b2).or (one_holds (S.blk b3))) (one_blk (b := b2)).up (one_blk (b := b3)).up hx0.up rfl hf hp0.up (htl.sub (a := (1 : Int).toNat) (n := fd.pn.toNat) hct2).up fun w44 e44 => ?_
    exact hK2 _ e44
  rw [if_neg ho] at h
  clear ho
  (repeat (first|((with_reducible refine p_id ?_);first|refine s_p ?_|refine s_c (by omega) ?_)|((with_reducible refine q_id ?_);first|refine S.ld ?_|refine S.ldB ?_|refine S.ce ?_|refine S.ceB ?_|refine s_q ?_|refine s_qc (by omega) ?_)|with_reducible refine n_some ?_|rw [List.getD_cons_zero]|rw [List.getD_cons_succ]))
  refine c_if (fun ho => ?_) (fun ho => ?_)
  · rw [if_pos ho] at h
    refine S.ldB (b := b3) ?_ rfl
    ((with_reducible refine p_id ?_);first|refine s_p ?_|refine s_c (by omega) ?_)
    refine c_graph_rest (f := { to := true }) S.holds hp0 fun w31 e31 => ?_
    have S := S.go e31
    refine j_bandH (c := tok && decide (tm < 3)) (fun _ K2 hK2 => hK2) ?_
    refine j_bandE (c := isK tt 1) (fun hb K2 hK2 => ?_) fun w32 e32 => ?_
    · ((with_reducible refine p_id ?_);first|refine s_p ?_|refine s_c (by omega) ?_)
      refine S.ldN (b := b7) ?_
      exact c_point_2 S.holds fun w33 e33 => hK2 _ e33
    have S := S.go e32
    exact h _ S.ext
  rw [if_neg ho] at h
  clear ho
  (repeat (first|((with_reducible refine p_id ?_);first|refine s_p ?_|refine s_c (by omega) ?_)|((with_reducible refine q_id ?_);first|refine S.ld ?_|refine S.ldB ?_|refine S.ce ?_|refine S.ceB ?_|refine s_q ?_|refine s_qc (by omega) ?_)|with_reducible refine n_some ?_|rw [List.getD_cons_zero]|rw [List.getD_cons_succ]))
  refine c_if (fun ho => ?_) (fun ho => ?_)
  · rw [if_pos ho] at h
    refine S.ldB (b := b3) ?_ rfl
    ((with_reducible refine p_id ?_);first|refine s_p ?_|refine s_c (by omega) ?_)
    refine c_graph_rest (f := { a := true }) S.holds hp0 fun w31 e31 => ?_
    have S := S.go e31
    refine j_bandH (c := aok) (fun _ K2 hK2 => hK2) ?_
    refine j_bandE (c := isK ta 1) (fun hb K2 hK2 => ?_) fun w32 e32 => ?_
    · refine S.ldB (b := b10) ?_ rfl
      exact c_point_2 S.holds fun w33 e33 => hK2 _ e33
    have S := S.go e32
    exact h _ S.ext
  rw [if_neg ho] at h
  clear ho
  (repeat (first|((with_reducible refine p_id ?_);first|refine s_p ?_|refine s_c (by omega) ?_)|((with_reducible refine q_id ?_);first|refine S.ld ?_|refine S.ldB ?_|refine S.ce ?_|refine S.ceB ?_|refine s_q ?_|refine s_qc (by omega) ?_)|with_reducible refine n_some ?_|rw [List.getD_cons_zero]|rw [List.getD_cons_succ]))
  refine c_if (fun ho => ?_) (fun ho => ?_)
  · rw [if_pos ho] at h
    (repeat (first|((with_reducible refine p_id ?_);first|refine s_p ?_|refine s_c (by omega) ?_)|((with_reducible refine q_id ?_);first|refine S.ld ?_|refine S.ldB ?_|refine S.ce ?_|refine S.ceB ?_|refine s_q ?_|refine s_qc (by omega) ?_)|with_reducible refine n_some ?_|rw [List.getD_cons_zero]|rw [List.getD_cons_succ]))
    refine S.ldN (b := b8) ?_
    refine c_types_Drops S.holds hst ht8 fun w35 e35 => ?_
    have S := S.go e35
    ((with_reducible refine p_id ?_);first|refine s_p ?_|refine s_c (by omega) ?_)
    ((with_reducible refine p_id ?_);first|refine s_p ?_|refine s_c (by omega) ?_)
    refine S.ldB (b := b3) ?_ rfl
    ((with_reducible refine p_id ?_);first|refine s_p ?_|refine s_c (by omega) ?_)
    refine c_graph_rest (f := { fr := true }) S.holds hp0 fun w31 e31 => ?_
    have S := S.go e31
    refine j_bandH (c := fok) (fun _ K2 hK2 => ?_) ?_
    · (repeat (first|((with_reducible refine p_id ?_);first|refine s_p ?_|refine s_c (by omega) ?_)|((with_reducible refine q_id ?_);first|refine S.ld ?_|refine S.ldB ?_|refine S.ce ?_|refine S.ceB ?_|refine s_q ?_|refine s_qc (by omega) ?_)|with_reducible refine n_some ?_|rw [List.getD_cons_zero]|rw [List.getD_cons_succ]))
      exact hK2
    refine j_bandH (c := (dropsT u.ss ft).1) (fun _ K2 hK2 => hK2) ?_
    refine j_bandH (c := decide (fm < 2)) (fun _ K2 hK2 => ?_) (h _ S.ext)
    (repeat (first|((with_reducible refine p_id ?_);first|refine s_p ?_|refine s_c (by omega) ?_)|((with_reducible refine q_id ?_);first|refine S.ld ?_|refine S.ldB ?_|refine S.ce ?_|refine S.ceB ?_|refine s_q ?_|refine s_qc (by omega) ?_)|with_reducible refine n_some ?_|rw [List.getD_cons_zero]|rw [List.getD_cons_succ]))
    exact hK2
  rw [if_neg ho] at h
  clear ho
  (repeat (first|((with_reducible refine p_id ?_);first|refine s_p ?_|refine s_c (by omega) ?_)|((with_reducible refine q_id ?_);first|refine S.ld ?_|refine S.ldB ?_|refine S.ce ?_|refine S.ceB ?_|refine s_q ?_|refine s_qc (by omega) ?_)|with_reducible refine n_some ?_|rw [List.getD_cons_zero]|rw [List.getD_cons_succ]))
  refine c_if (fun ho => ?_) (fun ho => ?_)
  · rw [if_pos ho] at h
    refine S.ldB (b := b3) ?_ rfl
    ((with_reducible refine p_id ?_);first|refine s_p ?_|refine s_c (by omega) ?_)
    refine c_graph_rest (f := { fr := true }) S.holds hp0 fun w31 e31 => ?_
    have S := S.go e31
    refine j_bandH (c := fok) (fun _ K2 hK2 => ?_) ?_
    · (repeat (first|((with_reducible refine p_id ?_);first|refine s_p ?_|refine s_c (by omega) ?_)|((with_reducible refine q_id ?_);first|refine S.ld ?_|refine S.ldB ?_|refine S.ce ?_|refine S.ceB ?_|refine s_q ?_|refine s_qc (by omega) ?_)|with_reducible refine n_some ?_|rw [List.getD_cons_zero]|rw [List.getD_cons_succ]))
      exact hK2
    refine j_bandH (c := decide (0 < p.fr.l)) (fun _ K2 hK2 => ?_) ?_
    · (repeat (first|((with_reducible refine p_id ?_);first|refine s_p ?_|refine s_c (by omega) ?_)|((with_reducible refine q_id ?_);first|refine S.ld ?_|refine S.ldB ?_|refine S.ce ?_|refine S.ceB ?_|refine s_q ?_|refine s_qc (by omega) ?_)|with_reducible refine n_some ?_|rw [List.getD_cons_zero]|rw [List.getD_cons_succ]))
      exact hK2
    refine j_bandH (c := decide (p.fr.ps.length = 0)) (fun _ K2 hK2 => ?_) (h _ S.ext)
    (repeat (first|((with_reducible refine p_id ?_);first|refine s_p ?_|refine s_c (by omega) ?_)|((with_reducible refine q_id ?_);first|refine S.ld ?_|refine S.ldB ?_|refine S.ce ?_|refine S.ceB ?_|refine s_q ?_|refine s_qc (by omega) ?_)|with_reducible refine n_some ?_|rw [List.getD_cons_zero]|rw [List.getD_cons_succ]))
    rw [nat_eq_zero]
    exact hK2
  rw [if_neg ho] at h
  clear ho
  (repeat (first|((with_reducible refine p_id ?_);first|refine s_p ?_|refine s_c (by omega) ?_)|((with_reducible refine q_id ?_);first|refine S.ld ?_|refine S.ldB ?_|refine S.ce ?_|refine S.ceB ?_|refine s_q ?_|refine s_qc (by omega) ?_)|with_reducible refine n_some ?_|rw [List.getD_cons_zero]|rw [List.getD_cons_succ]))
  refine c_if (fun ho => ?_) (fun ho => ?_)
  · rw [if_pos ho] at h
    refine S.ldB (b := b3) ?_ rfl
    ((with_reducible refine p_id ?_);first|refine s_p ?_|refine s_c (by omega) ?_)
    refine c_graph_rest (f := { a := true, el := true }) S.holds hp0 fun w31 e31 => ?_
    have S := S.go e31
    refine j_bandH (c := aok) (fun _ K2 hK2 => hK2) ?_
    refine j_bandE (c := isK ta 2) (fun hb K2 hK2 => ?_) fun w32 e32 => ?_
    · refine S.ldB (b := b10) ?_ rfl
      exact c_point_2 S.holds fun w33 e33 => hK2 _ e33
    have S := S.go e32
    refine j_bandH (c := insG g p.el) (fun _ K2 hK2 => ?_) (h _ S.ext)
    (repeat (first|((with_reducible refine p_id ?_);first|refine s_p ?_|refine s_c (by omega) ?_)|((with_reducible refine q_id ?_);first|refine S.ld ?_|refine S.ldB ?_|refine S.ce ?_|refine S.ceB ?_|refine s_q ?_|refine s_qc (by omega) ?_)|with_reducible refine n_some ?_|rw [List.getD_cons_zero]|rw [List.getD_cons_succ]))
    exact c_point_1 (b := b5) S hK2
  rw [if_neg ho] at h
  clear ho
  (repeat (first|((with_reducible refine p_id ?_);first|refine s_p ?_|refine s_c (by omega) ?_)|((with_reducible refine q_id ?_);first|refine S.ld ?_|refine S.ldB ?_|refine S.ce ?_|refine S.ceB ?_|refine s_q ?_|refine s_qc (by omega) ?_)|with_reducible refine n_some ?_|rw [List.getD_cons_zero]|rw [List.getD_cons_succ]))
  refine j_intro (fun s w' => s = [.bool (decide (p.op = 13 ∨ p.op = 14))] ∧ Ext w39 w') (fun K9 hK9 => ?_) ?_
  · have hk := hK9 _ _ ⟨rfl, Ext.refl _⟩
    rw [Bool.decide_or] at hk
    ((with_reducible refine p_id ?_);first|refine s_p ?_|refine s_c (by omega) ?_)
    refine k_cor hk fun _ hk => ?_
    ((with_reducible refine p_id ?_);first|refine s_p ?_|refine s_c (by omega) ?_)
    exact hk
  rintro _ w41 ⟨rfl, e41⟩ d41
  have S := S.go e41
  rw [List.getD_cons_zero]
  refine c_if (fun ho => ?_) (fun ho => ?_)
  · rw [if_pos ho] at h
    refine S.ldB (b := b3) ?_ rfl
    ((with_reducible refine p_id ?_);first|refine s_p ?_|refine s_c (by omega) ?_)
    refine c_graph_rest (f := {}) S.holds hp0 fun w31 e31 => h _ (S.go e31).ext
  · rw [if_neg ho] at h
    exact h _ S.ext
end Go.Proofs
end
